/-
  The walk of WorldWrites: any rounds as a text, and that they come back from it.
  Conditions: the rounds' rows lie in the world; the tables and the error of range stand in their variables.
-/
import Derived.Test.YtmnkekepccdlcaaGreatDoorWRounds
import Derived.Test.YtmnkekepccdlcaaGreatDoorWgJ
import Derived.Test.YtmnkekepccdlcaaGreatDoorWorldL
namespace Go.Proofs.YtmnkekepccdlcaaGreatDoor
set_option linter.unusedVariables false
set_option linter.unusedSimpArgs false
open Go.RowKit

theorem writeR_take {l : List Rd} {k : Nat} (h : k < l.length) : writeR (l.take (k + 1)) = writeR (l.take k) ++ printR l[k] := by
  rw [List.take_succ_eq_append_getElem h, writeR_snoc]
theorem writeR_le (m : Nat) : ∀ l : List Rd, (∀ r ∈ l, (printR r).length ≤ m) → (writeR l).length ≤ m * l.length := fun l h => flat_le printR m l h
/-- What is known of rounds that are cut. -/
structure CutL (FR : List Rd) : Prop where
  six : FR.length ≤ 6
  sml : ∀ r ∈ FR, Sml 1000000 [r]
  len : ∀ r ∈ FR, goodR r = true → (printR r).length ≤ 2000
theorem cutL (l : List (Hd × Rd)) : CutL (cutRs l) := by
  refine ⟨by unfold cutRs; simp only [List.length_map, List.length_take]; omega, fun r hr => ?_, fun r hr hg => ?_⟩
  all_goals (
    unfold cutRs at hr
    simp only [List.mem_map] at hr
    obtain ⟨q, _, rfl⟩ := hr)
  · exact cutR_sml q.2 (by decide)
  · exact cutR_print q.2 hg
theorem CutL.all_sml {FR : List Rd} (h : CutL FR) : Sml 1000000 FR := ⟨Nat.le_trans h.six (by decide), fun r hr => (h.sml r hr).2 r (by simp)⟩
theorem CutL.text {FR : List Rd} (h : CutL FR) (k : Nat) (hg : (FR.take k).all goodR = true) : (writeR (FR.take k)).length ≤ 12000 := by
  have h1 := writeR_le 2000 (FR.take k) (fun r hr => h.len r (List.mem_of_mem_take hr) (List.all_eq_true.1 hg r hr))
  have h2 : (FR.take k).length ≤ 6 := Nat.le_trans (by rw [List.length_take]; omega) h.six
  have : 2000 * (FR.take k).length ≤ 2000 * 6 := Nat.mul_le_mul_left _ h2
  omega

set_option maxHeartbeats 8000000 in
set_option maxRecDepth 100000 in
theorem worldWrites (l : List (Hd × Rd)) (ao : Option Addr) (cap : Nat) (w : World) (hin : RsIn w ao l) (hl : l.length ≤ maxLen) (he : EnvW w) :
    Calls Tryz.prog 8 #[.slice ao l.length cap] w fun e w' => e = .returned (.bool true) ∧ Below w.heap.size w w' := by
  have HE := Lib.hid he
  have HLV := Lib.hid (fun w' he' => wLives w' he')
  have F1 := Lib.hid (fun w' (hw : Below w.heap.size w w') => eRounds l ao cap w' (hin.later hw) hl)
  have CL := Lib.hid (cutL l)
  generalize cutRs l = FR at *
  clear hin hl he
  go_enter Tryz.func8, Tryz.ntmps8
  go_wp2_with fail
  refine (F1.out w (Below.refl _ _)).mono ?_; rintro e w1 ⟨ao1, cap1, l1, rfl, hm1, hR1, hb1⟩
  have HR1 := Lib.hid hR1.rsat
  have HM1 := Lib.hid hm1
  have HB1 := Lib.hid hb1
  have hl6 : l1.length ≤ 6 := by
    have := CL.out.six
    rw [← hm1] at this
    simpa using this
  have hbr := Below.refl w1.heap.size w1
  clear hR1 hm1 hb1
  go_wp2_with fail
  go_loopw [4, 5, 6] (fun sv gv iv wr => ∃ (k : Nat) (t : ByteArray) (g : Bool), iv = .int .i64 k ∧ k ≤ l1.length ∧ sv = .string t ∧ gv = .bool g ∧ Hid (g = (FR.take k).all goodR) ∧ Hid (g = true → t = ⟨(writeR (FR.take k)).toArray⟩) ∧ t.size ≤ 12000 ∧ Below w1.heap.size w1 wr) (fun _ _ iv _ => l1.length - (intOf iv).toNat)
  case atStart => exact ⟨0, _, _, rfl, Nat.zero_le _, rfl, rfl, Lib.hid rfl, Lib.hid (fun _ => rfl), by decide, hbr⟩
  case round =>
    obtain ⟨k, t, g, rfl, hk, rfl, rfl, hg, ht, hts, hbw⟩ := hrel
    clear hbr
    have e0 : (0 : Int) ≤ (k : Int) := by omega
    by_cases hlt : k < l1.length
    · have e1 : (k : Int) < (l1.length : Int) := by omega
      obtain ⟨g0, rfl, d0⟩ := HR1.out.at_ k hlt
      have ha := HR1.out.all _ (List.getElem_mem hlt)
      have hfl : k < FR.length := by rw [← HM1.out]; simpa using hlt
      have hx : FR[k] = l1[k].2 := by simp only [← HM1.out]; simp
      have HWT := Lib.hid (writeR_take hfl)
      have HAT : Hid ((FR.take (k + 1)).all goodR = ((FR.take k).all goodR && goodR FR[k])) := Lib.hid (by rw [List.take_succ_eq_append_getElem hfl, List.all_append]; simp)
      have hsr := CL.out.sml _ (List.getElem_mem hfl)
      have hpl := CL.out.len _ (List.getElem_mem hfl)
      have HTX := Lib.hid (CL.out.text (k + 1))
      rw [hx] at HWT HAT hsr hpl
      generalize l1[k] = x at *
      obtain ⟨h, r⟩ := x
      simp only at d0 ha HWT HAT hsr hpl
      have hbw1 := hbw
      have d := fun w' (hw : Below wr.heap.size wr w') => d0 w' (hbw.up hw)
      have GG := gGood h r wr (ha.later hbw) hsr
      have hr := Below.refl wr.heap.size wr
      clear hx d0
      cases g
      · have HG2 : Hid (false = (FR.take (k + 1)).all goodR) := Lib.hid (by rw [HAT.out, ← hg.out]; rfl)
        clear GG hg ht d
        go_wp2_with fail
        go_roundw
        case rel => exact ⟨k + 1, t, false, by go_num, by omega, rfl, rfl, HG2, Lib.hid (fun e => by cases e), hts, hbw⟩
        case measure => simp [intOf]; omega
      · have htt := ht.out rfl
        have PP := fun (hgr : goodR r = true) w' (hw : Below wr.heap.size wr w') => gPrint h r w' ((ha.later hbw).later hw) hgr hsr (Nat.le_trans (hpl hgr) (by decide))
        cases hgr : goodR r
        · rw [hgr] at GG HAT
          unfold rC at GG
          have GH := Lib.hid GG
          have HG2 : Hid (false = (FR.take (k + 1)).all goodR) := Lib.hid (by rw [HAT.out, Bool.and_false])
          clear GG hg ht PP htt
          go_wp2_with fail
          refine GH.out.mono ?_; rintro e w2 ⟨rfl, b2⟩
          have hbw2 := hbw.up b2
          clear hbw b2 d hr GH
          go_wp2_with fail
          go_roundw
          case rel => exact ⟨k + 1, t, false, by go_num, by omega, rfl, rfl, HG2, Lib.hid (fun e => by cases e), hts, hbw2⟩
          case measure => simp [intOf]; omega
        · rw [hgr] at GG HAT
          have PP := PP hgr
          unfold rC at GG PP
          have GH := Lib.hid GG
          have PH := Lib.hid PP
          have hgt := hg.out
          have HG2 : Hid (true = (FR.take (k + 1)).all goodR) := Lib.hid (by rw [HAT.out, ← hgt]; rfl)
          have hp2 := hpl hgr
          have HS : Hid (t ++ ⟨(printR r).toArray⟩ = ⟨(writeR (FR.take (k + 1))).toArray⟩) := Lib.hid (by
            rw [htt, HWT.out]
            apply ByteArray.ext
            simp)
          have hts2 : (t ++ ⟨(printR r).toArray⟩ : ByteArray).size ≤ 12000 := by
            rw [HS.out]
            exact HTX.out HG2.out.symm
          have HZ := Lib.hid hts2
          clear GG PP hg ht htt hts2 hgt
          go_wp2_with fail
          refine GH.out.mono ?_; rintro e w2 ⟨rfl, b2⟩
          have hbw2 := hbw.up b2
          have d2 := fun w' (hw : Below w2.heap.size w2 w') => d w' (b2.up hw)
          have PQ := Lib.hid (PH.out w2 b2)
          have hr2 := Below.refl w2.heap.size w2
          clear hbw b2 d hr GH PH hbw1
          go_wp2_with fail
          refine PQ.out.mono ?_; rintro e w3 ⟨rfl, b3⟩
          have hbw3 := hbw2.up b3
          clear hbw2 b3 d2 hr2 PQ
          go_wp2_with fail
          go_roundw
          case rel => exact ⟨k + 1, _, true, by go_num, by omega, rfl, rfl, HG2, Lib.hid (fun _ => HS.out), HZ.out, hbw3⟩
          case measure => simp [intOf]; omega
    · obtain rfl : k = l1.length := by omega
      have e1 : ¬ ((l1.length : Int) < (l1.length : Int)) := by omega
      have hfl : FR.take l1.length = FR := List.take_of_length_le (by rw [← HM1.out]; simp)
      rw [hfl] at hg ht
      have HBW := Lib.hid (HB1.out.up hbw)
      have HR2 := Lib.hid (HR1.out.later hbw)
      clear hbw hfl hk hlt e0
      go_wp2_with fail
      refine (F1.out wr HBW.out).mono ?_; rintro e w2 ⟨ao2, cap2, l2, rfl, hm2, hR2, hb2⟩
      have HBW2 := Lib.hid (HBW.out.up hb2)
      have HR3 := Lib.hid (HR2.out.later hb2)
      have hall : (l2.all fun q => goodR q.2) = FR.all goodR := by rw [← hm2, List.all_map]; rfl
      have W4 := xWrite l2 ao2 cap2 w2 hR2.rsat (by rw [hm2]; exact CL.out.all_sml) (HE.out.later HBW2.out) (by
        have := CL.out.six
        rw [← hm2] at this
        simp at this
        omega) (fun k hk => by
        rw [List.map_take, hm2]
        refine Nat.le_trans (CL.out.text k ?_) (by decide)
        rw [← hm2, ← List.map_take, List.all_map]
        exact hk)
      rw [hall, hm2] at W4
      clear hR2 hm2 hb2 hall F1
      cases g
      · rw [← hg.out] at W4
        simp only [Bool.false_eq_true, if_false] at W4
        have WH := Lib.hid W4
        clear W4 hg ht
        go_wp2_with fail
        refine WH.out.mono ?_; rintro e w3 ⟨rfl, b3⟩
        have HB3 := Lib.hid (HBW2.out.up b3)
        go_wp2_with fail
        refine (HLV.out _ (HE.out.later HB3.out)).mono ?_; rintro e w4 ⟨rfl, b4⟩
        go_wp2_with fail
        go_ret
        exact ⟨rfl, HB3.out.up b4⟩
      · rw [← hg.out, if_pos rfl, if_pos rfl] at W4
        have htt := ht.out rfl
        have hrb : readW (writeR FR) = .ok FR := read_back FR (fun r hr => List.all_eq_true.1 hg.out.symm r hr) (Nat.le_trans CL.out.six (by decide)) (by
          have := CL.out.text FR.length (by rw [List.take_length]; exact hg.out.symm)
          rw [List.take_length] at this
          omega)
        have hRd := fun w' (h' : EnvW w') => worldRead t w' (by omega) h'
        have hdt : t.data.toList = writeR FR := by rw [htt]
        rw [hdt, hrb] at hRd
        rw [← htt] at W4
        have WH := Lib.hid W4
        have RH := Lib.hid hRd
        clear W4 hRd hg ht htt hrb hdt
        go_wp2_with fail
        refine WH.out.mono ?_; rintro e w3 ⟨rfl, b3⟩
        have HB3 := Lib.hid (HBW2.out.up b3)
        have HR4 := Lib.hid (HR3.out.later b3)
        clear b3 WH
        go_wp2_with fail
        refine (RH.out _ (HE.out.later HB3.out)).mono ?_; rintro e w4 ⟨hsm, ao4, cap4, l4, hm4, rfl, hR4, b4⟩
        have HB4 := Lib.hid (HB3.out.up b4)
        have HR5 := Lib.hid (HR4.out.later b4)
        have HR4b := Lib.hid hR4.rsat
        have HM4 := Lib.hid hm4
        clear b4 hR4 hm4 hsm
        go_upto_region 12 with fail
        obtain ⟨w5, hw5⟩ : ∃ w5, w4.alloc (.cells #[.int .i64 0, .int .i64 0] 49) = w5 := ⟨_, rfl⟩
        have K5 : Blk w5 w4.heap.size 49 #[.int .i64 0, .int .i64 0] := by rw [← hw5]; exact Blk.new _ _ _
        have b5 : Below w4.heap.size w4 w5 := by rw [← hw5]; exact (Below.refl _ _).alloc (Nat.le_refl _) _
        rw [hw5]
        have HB5 := Lib.hid (HB4.out.up b5)
        have FS := Lib.hid (wSames l4 l1 ao4 ao1 cap4 cap1 w5 (HR4b.out.later b5) (HR5.out.later b5) (by rw [HM4.out, HM1.out]) (by rw [HM4.out]; exact CL.out.all_sml))
        have d5 := K5.at2
        have hr5 := Below.refl w5.heap.size w5
        clear hw5 b5
        go_wp2_with fail
        refine FS.out.mono ?_; rintro e w6 ⟨rfl, b6⟩
        have K6 := K5.later b6
        have HB6 := Lib.hid (HB5.out.up b6)
        clear b6 d5 hr5 FS
        have d6 := K6.at2
        have hr6 := Below.refl w6.heap.size w6
        go_wp2_with fail
        refine (HLV.out _ (HE.out.later HB6.out)).mono ?_; rintro e w7 ⟨rfl, b7⟩
        go_wp2_with fail
        go_ret
        exact ⟨rfl, HB6.out.up b7⟩
end Go.Proofs.YtmnkekepccdlcaaGreatDoor
