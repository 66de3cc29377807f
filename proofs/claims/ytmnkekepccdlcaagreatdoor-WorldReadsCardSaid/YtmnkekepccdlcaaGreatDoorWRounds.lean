/-
  Rounds in memory of their own, somewhat cut; two rows that hold the same rounds are one.
  Conditions: the rounds' rows lie in the world.
-/
import Derived.Test.YtmnkekepccdlcaaGreatDoorWRound
import Derived.Test.YtmnkekepccdlcaaGreatDoorWRSame
import Derived.Test.YtmnkekepccdlcaaGreatDoorWgI
namespace Go.Proofs.YtmnkekepccdlcaaGreatDoor
set_option linter.unusedVariables false
set_option linter.unusedSimpArgs false
open Go.RowKit

def cutRs (l : List (Hd × Rd)) : List Rd := (l.take 6).map fun q => cutR q.2
theorem Rnds.push {B cap cap' : Nat} {w w' : World} {ao ao' : Option Addr} {l : List (Hd × Rd)} {h : Hd} {r : Rd} (i : Rnds B w ao cap l) (hn : RIn B w h r) (hg : w.grownBy w' (Value.slice ao l.length cap).ownBlock)
    (hr : ORow 59 6 B w' (.slice ao' (l.length + 1) cap') (l.length + 1) (rsC l ++ rC h r)) : Rnds B w' ao' cap' (l ++ [(h, r)]) := by
  have key : ∀ {h0 : Hd} {r0 : Rd}, RIn B w h0 r0 → RIn B w' h0 r0 := fun j => j.same fun g hgg => hg.block g (j.lt hgg).2 fun e => j.apart i.row (by decide) (by decide) (by decide) hgg e.symm
  refine ⟨?_, fun q hq => ?_⟩
  · rw [rsC_snoc, List.length_append]
    exact hr
  · rcases List.mem_append.1 hq with hq | hq
    · exact key (i.all q hq)
    · simp only [List.mem_singleton] at hq
      subst hq
      exact key hn

set_option maxHeartbeats 8000000 in
set_option maxRecDepth 100000 in
theorem eRounds (l : List (Hd × Rd)) (ao : Option Addr) (cap : Nat) (w : World) (hin : RsIn w ao l) (hl : l.length ≤ maxLen) :
    Calls Tryz.prog 32 #[.slice ao l.length cap, .int .i64 6] w fun e w' => ∃ ao' cap' l', e = .returned (.slice ao' l'.length cap') ∧ l'.map Prod.snd = cutRs l ∧ Rnds w.heap.size w' ao' cap' l' ∧ Below w.heap.size w w' := by
  unfold maxLen at hl
  have HIN := Lib.hid hin
  have hob0 : Hid (Rnds w.heap.size (w.alloc (.cells #[] 59)) (some ⟨w.heap.size, 0, none⟩) 0 []) := Lib.hid ⟨orow_empty 59 6 w.heap.size w (Nat.le_refl _), fun _ h => by cases h⟩
  have hb0 : Below w.heap.size w (w.alloc (.cells #[] 59)) := (Below.refl _ _).alloc (Nat.le_refl _) _
  clear hin
  go_enter Tryz.func32, Tryz.ntmps32
  go_wp2_with fail
  go_loopw [5, 6] (fun ov iv wr => ∃ (k : Nat) (ao' : Option Addr) (cap' : Nat) (l' : List (Hd × Rd)), iv = .int .i64 k ∧ k ≤ l.length ∧ k ≤ 6 ∧ l'.length = k ∧ ov = .slice ao' k cap' ∧ Hid (l'.map Prod.snd = (l.take k).map fun q => cutR q.2) ∧ Hid (Rnds w.heap.size wr ao' cap' l') ∧ Below w.heap.size w wr) (fun _ iv _ => l.length - (intOf iv).toNat)
  case atStart => exact ⟨0, _, _, [], rfl, Nat.zero_le _, Nat.zero_le _, rfl, rfl, Lib.hid rfl, hob0, hb0⟩
  case round =>
    obtain ⟨k, ao', cap', l', rfl, hk, hk8, hkl, rfl, hM, hR, hbw⟩ := hrel
    clear hob0 hb0
    have e0 : (0 : Int) ≤ (k : Int) := by omega
    have hm : k ≤ 1000000 := by omega
    by_cases hlt : k < l.length
    · have e1 : (k : Int) < (l.length : Int) := by omega
      by_cases h8 : k < 6
      · have e2 : (k : Int) < 6 := by omega
        obtain ⟨b, off, rfl, d0⟩ := HIN.out.at_ k hlt
        have d := d0 wr hbw
        have ha := HIN.out.all l[k] (List.getElem_mem hlt)
        have HT : Hid ((l.take (k + 1)).map (fun q => cutR q.2) = (l.take k).map (fun q => cutR q.2) ++ [cutR l[k].2]) := Lib.hid (by rw [List.take_succ_eq_append_getElem hlt, List.map_append]; rfl)
        generalize l[k] = x at *
        obtain ⟨h, r⟩ := x
        simp only at d ha HT
        have F := eRound h r wr (ha.1.later hbw) ha.2
        unfold rC at F
        have FH := Lib.hid F
        clear d0 ha F
        go_wp2_with fail
        refine FH.out.mono ?_; rintro e w2 ⟨h', rfl, hri, b2⟩
        have hbw2 := hbw.up b2
        have hR2 := Lib.hid (hR.out.later b2)
        have hri2 := Lib.hid (hri.lower hbw.size)
        generalize cutR r = C at *
        have hos := hR2.out.row
        rw [hkl] at hos
        have HKL := Lib.hid hkl
        clear hR hri b2 d FH hbw
        go_wp2_with (at_builtin; refine wpList_append_elem info_round rfl (by decide) (by decide) Tryz.underlying47 _ rfl _ _ rfl w.heap.size _ _ _ rfl (World.ownsRow.alloc hos _) w2.heap.size rfl (rC h' C) rfl ?ta1 ?ta2 hm ?ta3 ?ta4)
        case ta1 =>
          intro j u hj
          exact ((Blk.new w2 59 (rC h' C).toArray).cell j).trans (by simpa using hj)
        case ta2 => intro u hu; simp [rC] at hu; rcases hu with rfl | rfl | rfl | rfl | rfl | rfl <;> rfl
        case ta3 => have := hbw2.size; simp; omega
        case ta4 =>
          intro ao2 cap2 w7 g3 g4
          have hb7 : Below w.heap.size w w7 := orow_below (World.ownsRow.alloc hos _) (hbw2.alloc hbw2.size _) g4 (Nat.le_refl _)
          have hR7 : Hid (Rnds w.heap.size w7 ao2 cap2 (l' ++ [(h', C)])) := Lib.hid (Rnds.push (hR2.out.later ((Below.refl _ _).alloc (Nat.le_refl _) _)) (hri2.out.later ((Below.refl _ _).alloc (Nat.le_refl _) _)) (by rw [hkl]; exact g4) (by rw [hkl]; exact g3))
          have HM2 : Hid ((l' ++ [(h', C)]).map Prod.snd = (l.take (k + 1)).map fun q => cutR q.2) := Lib.hid (by rw [HT.out, List.map_append, hM.out]; rfl)
          have hl2 : (l' ++ [(h', C)]).length = k + 1 := by rw [List.length_append, hkl]; rfl
          clear g3 g4 hos hbw2 hM hR2 hri2 hkl
          go_wp2_with fail
          go_roundw
          case rel => exact ⟨k + 1, ao2, cap2, _, by go_num, by omega, by omega, hl2, rfl, HM2, hR7, hb7⟩
          case measure => simp [intOf]; omega
      · have e2 : ¬ (k : Int) < 6 := by omega
        obtain rfl : k = 6 := by omega
        go_wp2_with fail
        go_ret
        exact ⟨ao', cap', l', by rw [hkl]; rfl, hM.out, hR.out, hbw⟩
    · have e1 : ¬ (k : Int) < (l.length : Int) := by omega
      have HK : Hid ((l.take k).map (fun q => cutR q.2) = cutRs l) := Lib.hid (by unfold cutRs; rw [List.take_of_length_le (by omega), List.take_of_length_le (by omega)])
      go_wp2_with fail
      go_ret
      exact ⟨ao', cap', l', by rw [hkl]; rfl, by rw [← HK.out]; exact hM.out, hR.out, hbw⟩

set_option maxHeartbeats 8000000 in
set_option maxRecDepth 100000 in
theorem wSames (l m : List (Hd × Rd)) (ao bo : Option Addr) (ca cb : Nat) (w : World) (ha : RsAt w ao l) (hb : RsAt w bo m) (hlm : l.map Prod.snd = m.map Prod.snd) (hs : Sml 1000000 (l.map Prod.snd)) :
    Calls Tryz.prog 29 #[.slice ao l.length ca, .slice bo m.length cb] w fun e w' => e = .returned (.bool true) ∧ Below w.heap.size w w' := by
  have HA := Lib.hid ha
  have HB := Lib.hid hb
  have hll : m.length = l.length := by simpa using (congrArg List.length hlm).symm
  have hsz : l.length ≤ 1000000 := by simpa using hs.1
  have HLM := Lib.hid hlm
  have HS := Lib.hid hs
  rw [hll]
  have HLL := Lib.hid hll
  clear ha hb hlm hs hll
  go_enter Tryz.func29, Tryz.ntmps29
  go_wp2_with fail
  go_loopw [5] (fun iv wr => ∃ k : Nat, iv = .int .i64 k ∧ k ≤ l.length ∧ Below w.heap.size w wr) (fun iv _ => l.length - (intOf iv).toNat)
  case atStart => exact ⟨0, rfl, Nat.zero_le _, Below.refl _ _⟩
  case round =>
    obtain ⟨i, rfl, hk, hbw⟩ := hrel
    have e0 : (0 : Int) ≤ (i : Int) := by omega
    by_cases hlt : i < l.length
    · have hl2 : i < m.length := by have := HLL.out; omega
      have e1 : (i : Int) < (l.length : Int) := by omega
      obtain ⟨g, rfl, d1⟩ := HA.out.at_ i hlt
      obtain ⟨g2, rfl, d2⟩ := HB.out.at_ i hl2
      have a1 := HA.out.all _ (List.getElem_mem hlt)
      have a2 := HB.out.all _ (List.getElem_mem hl2)
      have hsr : Sml 1000000 [l[i].2] := ⟨by simp, fun r hr => by
        simp only [List.mem_singleton] at hr
        subst hr
        exact HS.out.2 _ (List.mem_map_of_mem (List.getElem_mem hlt))⟩
      have heq : l[i].2 = m[i].2 := by
        have h1 : (l.map Prod.snd)[i]'(by simpa using hlt) = (m.map Prod.snd)[i]'(by simpa using hl2) := by simp only [HLM.out]
        simpa using h1
      generalize l[i] = x at *
      generalize m[i] = y at *
      obtain ⟨h1, r1⟩ := x
      obtain ⟨h2, r2⟩ := y
      simp only at d1 d2 a1 a2 heq hsr
      subst heq
      have F : Hid (∀ w', Below w.heap.size w w' → Calls Tryz.prog 39 #[.agg (rC h1 r1).toArray, .agg (rC h2 r1).toArray] w' fun e w'' => e = .returned (.bool true) ∧ Below w'.heap.size w' w'') := Lib.hid fun w' hw => by
        have := gSame h1 h2 r1 r1 w' (a1.later hw) (a2.later hw) hsr
        rw [decide_eq_true rfl] at this
        exact this
      unfold rC at F
      have q1 := fun w' (hw : Below wr.heap.size wr w') => d1 w' (hbw.up hw)
      have q2 := fun w' (hw : Below wr.heap.size wr w') => d2 w' (hbw.up hw)
      have hr := Below.refl wr.heap.size wr
      clear d1 d2 a1 a2 hsr
      go_upto_region 6 with fail
      refine wp_region_later wr.heap.size (by kernel_rfl) (by kernel_rfl) ?_
      have hu : ∀ u : Later wr.heap.size wr, Below wr.heap.size wr u.world := Later.below
      repeat (go_big_quiet_step ((go_at_call 39; exact later_below (Nat.le_refl _) (F.out _ (hbw.up (Later.below _))))))
      refine wpQuiet_nil ?_
      intro w2 hb2
      have hb3 := hbw.up hb2
      clear hu hr q1 q2
      go_wp2_with fail
      go_roundw
      case rel => exact ⟨i + 1, by go_num, by omega, hb3⟩
      case measure => simp [intOf]; omega
    · obtain rfl : i = l.length := by omega
      have e1 : ¬ ((l.length : Int) < (l.length : Int)) := by omega
      go_wp2_with fail
      go_ret
      exact ⟨rfl, hbw⟩
end Go.Proofs.YtmnkekepccdlcaaGreatDoor
