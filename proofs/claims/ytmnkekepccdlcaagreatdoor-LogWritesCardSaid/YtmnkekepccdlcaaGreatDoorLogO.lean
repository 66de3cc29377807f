/-
  Parse, Print and Good of log.
  Conditions: the line is short; the errors of strconv and the tables stand in their variables.
-/
import Derived.Test.YtmnkekepccdlcaaGreatDoorLogN
namespace Go.Proofs.YtmnkekepccdlcaaGreatDoor
set_option linter.unusedVariables false
set_option linter.unusedSimpArgs false
open Go.RowKit

def prsV (o : Option Ev) : Value := match o with
  | some x => .tuple #[.agg (evC x), .int .i64 0]
  | none => .tuple #[.agg (evC ev0), .int .i64 2]

set_option maxHeartbeats 4000000 in
set_option maxRecDepth 100000 in
theorem lparse (l : List UInt8) (hl : l.length ≤ 10000) (w : World) (he : EnvL w) : Calls Tryz.prog 40 #[.string ⟨l.toArray⟩] w fun e w' => e = .returned (prsV (parseEv l)) ∧ Below w.heap.size w w' := by
  obtain ⟨w1, hw1⟩ : ∃ w1, w.alloc (.cells (evC ev0) 27) = w1 := ⟨_, rfl⟩
  have k1 : Blk w1 w.heap.size 27 (evC ev0) := by rw [← hw1]; exact Blk.new _ _ _
  have hb1 : Below w.heap.size w w1 := by rw [← hw1]; exact (Below.refl _ _).alloc (Nat.le_refl _) _
  have HW1 := Lib.hid hw1
  have HE := Lib.hid he
  obtain ⟨q2, hq⟩ : ∃ q, w.heap.size = q := ⟨_, rfl⟩
  have HQ := Lib.hid hq
  have FS : Calls Tryz.prog 67 #[.string ⟨l.toArray⟩] w1 fun e w' => ∃ g cap, e = .returned (.slice (some ⟨g, 0, none⟩) (splitT l).length cap) ∧ WL w' g (splitT l) ∧ Below w1.heap.size w1 w' :=
    lSplit ⟨l.toArray⟩ (by rw [bt_size]; omega) w1 (he.later hb1)
  have HFS := Lib.hid FS
  obtain ⟨f1, f2, f3⟩ := splitT_facts l
  have HL : Hid ((1 ≤ (splitT l).length ∧ (splitT l).length ≤ 200000) ∧ (∀ x ∈ splitT l, x.length ≤ 100000) ∧ ∀ k, (atW (splitT l) k).length ≤ 20000) := Lib.hid ⟨⟨f1, by omega⟩, fun x hx => by have := f3 x hx; omega, fun k => by
    unfold atW
    cases h : (splitT l)[k]? with
    | none => simp
    | some x => have := f3 x (List.mem_of_getElem? h); simp; omega⟩
  have h64 := some_64 (splitT l) HL.out.2.2
  have hP : parseEv l = if goodT (someT (splitT l)) = true ∧ lineT (someT (splitT l)) = l then some (someT (splitT l)) else none := rfl
  rw [hq] at k1
  have K1 := Lib.hid k1
  have HB1 := Lib.hid hb1
  have H6 := Lib.hid h64
  have HPP := Lib.hid hP
  clear hw1 he hq FS f1 f2 f3 h64 hP k1 hb1 hl
  go_enter Tryz.func40, Tryz.ntmps40
  go_upto_region 1 with fail
  simp only [evC, ev0] at HW1
  rw [HW1.out, HQ.out]
  go_wp2_with fail
  refine HFS.out.mono ?_; rintro e w2 ⟨g, cap, rfl, hwl, hb2⟩
  have HB2 := Lib.hid (HB1.out.up hb2)
  have K2 := Lib.hid (K1.out.later hb2)
  have HWL := Lib.hid hwl
  clear hwl hb2 HFS
  go_wp2_with fail
  refine (lSome (splitT l) g cap _ HWL.out HL.out.1 HL.out.2.1 (HE.out.later HB2.out)).mono ?_; rintro e w3 ⟨rfl, hb3⟩
  have HB3 := Lib.hid (HB2.out.up hb3)
  have K3 := Lib.hid (K2.out.later hb3)
  clear hb3 HB2 K2 HWL HL HB1 K1
  generalize someT (splitT l) = X at *
  go_upto_region 2 with fail
  obtain ⟨w4, hw4⟩ : ∃ w4, w3.alloc (.cells (evC X) 27) = w4 := ⟨_, rfl⟩
  have k4 : Blk w4 w3.heap.size 27 (evC X) := by rw [← hw4]; exact Blk.new _ _ _
  have k2 : Blk w4 q2 27 (evC ev0) := by rw [← hw4]; exact K3.out.alloc _
  have n4 : q2 ≠ w3.heap.size := Nat.ne_of_lt K3.out.lt
  have hb4 : Below w.heap.size w w4 := by rw [← hw4]; exact HB3.out.alloc HB3.out.size _
  rw [hw4]
  obtain ⟨q4, hq4⟩ : ∃ q, w3.heap.size = q := ⟨_, rfl⟩
  rw [hq4] at k4 n4 ⊢
  clear hw4 hq4 K3 HB3 HW1
  simp only [evC, ev0] at k4 k2
  have K4 := Lib.hid k4
  have K2 := Lib.hid k2
  have HB4 := Lib.hid hb4
  have d4 := k4.at12
  have hr := Below.refl w4.heap.size w4
  have hsz := H6.out.bytes
  have HG := Lib.hid (fun w' => lGood X w' (Nat.le_trans hsz (by decide)))
  clear k4 k2 hb4 hsz
  cases hg : goodT X
  · rw [hg] at HG
    have HR := Lib.hid (show parseEv l = none by rw [HPP.out, if_neg (by simp [hg])])
    clear hg
    simp only [evC] at HG
    go_wp2_with fail
    refine (HG.out _).mono ?_; rintro e w5 ⟨rfl, hb5⟩
    have k2 := K2.out.later hb5
    have HB5 := Lib.hid (HB4.out.up hb5)
    have K5 := Lib.hid k2
    clear d4 hr hb5 K4 K2 HB4
    have d2 := k2.at12
    have hr := Below.refl w5.heap.size w5
    clear k2
    go_wp2_with fail
    generalize hwf : ((((((((((((w5.setCell ⟨q2, 0, none⟩ (.int .i64 0)).setCell ⟨q2, 1, none⟩ (.int .i64 0)).setCell ⟨q2, 2, none⟩ (.int .i64 0)).setCell ⟨q2, 3, none⟩ (.int .i64 0)).setCell ⟨q2, 4, none⟩ (.string ⟨#[]⟩)).setCell ⟨q2, 5, none⟩ (.int .i64 0)).setCell ⟨q2, 6, none⟩ (.int .i64 0)).setCell ⟨q2, 7, none⟩ (.int .i64 0)).setCell ⟨q2, 8, none⟩ (.int .i64 0)).setCell ⟨q2, 9, none⟩ (.int .i64 0)).setCell ⟨q2, 10, none⟩ (.int .i64 0)).setCell ⟨q2, 11, none⟩ (.int .i64 0)) = wf
    have kf : Blk wf q2 27 #[.int .i64 0, .int .i64 0, .int .i64 0, .int .i64 0, .string ⟨#[]⟩, .int .i64 0, .int .i64 0, .int .i64 0, .int .i64 0, .int .i64 0, .int .i64 0, .int .i64 0] := by rw [← hwf]; exact Blk.set12 K5.out (.int .i64 0) (.int .i64 0) (.int .i64 0) (.int .i64 0) (.string ⟨#[]⟩) (.int .i64 0) (.int .i64 0) (.int .i64 0) (.int .i64 0) (.int .i64 0) (.int .i64 0) (.int .i64 0)
    have hbf : Below w.heap.size w wf := by rw [← hwf]; exact below_set12 HB5.out (Nat.le_of_eq HQ.out) (.int .i64 0) (.int .i64 0) (.int .i64 0) (.int .i64 0) (.string ⟨#[]⟩) (.int .i64 0) (.int .i64 0) (.int .i64 0) (.int .i64 0) (.int .i64 0) (.int .i64 0) (.int .i64 0)
    have df := kf.at12
    have hrf := Below.refl wf.heap.size wf
    clear hwf d2 hr kf
    (try simp only [Exit.inBlock, Exit.then])
    refine bodyPost_ret (v := .tuple #[.agg #[.int .i64 0, .int .i64 0, .int .i64 0, .int .i64 0, .string ⟨#[]⟩, .int .i64 0, .int .i64 0, .int .i64 0, .int .i64 0, .int .i64 0, .int .i64 0, .int .i64 0], .int .i64 2]) ?_ rfl ⟨by rw [HR.out]; rfl, hbf⟩
    rw [results_cell_tmp rfl]
    go_simp
  · rw [hg] at HG
    have HLN := Lib.hid (fun w' => lLine X w' hg H6.out)
    by_cases hc : lineT X = l
    · have HR := Lib.hid (show parseEv l = some X by rw [HPP.out, if_pos ⟨hg, hc⟩])
      rw [hc] at HLN
      clear hg hc
      simp only [evC] at HG HLN
      go_wp2_with fail
      refine (HG.out _).mono ?_; rintro e w5 ⟨rfl, hb5⟩
      have HB5 := Lib.hid (HB4.out.up hb5)
      have K25 := Lib.hid (K2.out.later hb5)
      have K45 := Lib.hid (K4.out.later hb5)
      clear d4 hr hb5 K4 K2 HB4
      have d4 := K45.out.at12
      have hr := Below.refl w5.heap.size w5
      go_wp2_with fail
      refine (HLN.out _ (HE.out.later HB5.out).pow).mono ?_; rintro e w6 ⟨rfl, hb6⟩
      have HB6 := Lib.hid (HB5.out.up hb6)
      have K26 := Lib.hid (K25.out.later hb6)
      have K46 := Lib.hid (K45.out.later hb6)
      clear d4 hr hb6 K25 K45 HB5
      have d4 := K46.out.at12
      have d2 := K26.out.at12
      have hr := Below.refl w6.heap.size w6
      go_wp2_with fail
      generalize hwf : ((((((((((((w6.setCell ⟨q2, 0, none⟩ (.int .i64 X.kind)).setCell ⟨q2, 1, none⟩ (.int .i64 X.id)).setCell ⟨q2, 2, none⟩ (.int .i64 X.n)).setCell ⟨q2, 3, none⟩ (.int .i64 X.tick)).setCell ⟨q2, 4, none⟩ (.string X.bytes)).setCell ⟨q2, 5, none⟩ (.int .i64 X.err)).setCell ⟨q2, 6, none⟩ (.int .i64 X.sT)).setCell ⟨q2, 7, none⟩ (.int .i64 X.sA)).setCell ⟨q2, 8, none⟩ (.int .i64 X.sW)).setCell ⟨q2, 9, none⟩ (.int .i64 X.sR)).setCell ⟨q2, 10, none⟩ (.int .i64 X.sN)).setCell ⟨q2, 11, none⟩ (.int .i64 X.sS)) = wf
      have kf : Blk wf q2 27 #[.int .i64 X.kind, .int .i64 X.id, .int .i64 X.n, .int .i64 X.tick, .string X.bytes, .int .i64 X.err, .int .i64 X.sT, .int .i64 X.sA, .int .i64 X.sW, .int .i64 X.sR, .int .i64 X.sN, .int .i64 X.sS] := by rw [← hwf]; exact Blk.set12 K26.out (.int .i64 X.kind) (.int .i64 X.id) (.int .i64 X.n) (.int .i64 X.tick) (.string X.bytes) (.int .i64 X.err) (.int .i64 X.sT) (.int .i64 X.sA) (.int .i64 X.sW) (.int .i64 X.sR) (.int .i64 X.sN) (.int .i64 X.sS)
      have hbf : Below w.heap.size w wf := by rw [← hwf]; exact below_set12 HB6.out (Nat.le_of_eq HQ.out) (.int .i64 X.kind) (.int .i64 X.id) (.int .i64 X.n) (.int .i64 X.tick) (.string X.bytes) (.int .i64 X.err) (.int .i64 X.sT) (.int .i64 X.sA) (.int .i64 X.sW) (.int .i64 X.sR) (.int .i64 X.sN) (.int .i64 X.sS)
      have df := kf.at12
      have hrf := Below.refl wf.heap.size wf
      clear hwf d2 hr kf
      (try simp only [Exit.inBlock, Exit.then])
      refine bodyPost_ret (v := .tuple #[.agg #[.int .i64 X.kind, .int .i64 X.id, .int .i64 X.n, .int .i64 X.tick, .string X.bytes, .int .i64 X.err, .int .i64 X.sT, .int .i64 X.sA, .int .i64 X.sW, .int .i64 X.sR, .int .i64 X.sN, .int .i64 X.sS], .int .i64 0]) ?_ rfl ⟨by rw [HR.out]; rfl, hbf⟩
      rw [results_cell_tmp rfl]
      go_simp
    · have HR := Lib.hid (show parseEv l = none by rw [HPP.out, if_neg (fun h => hc h.2)])
      have fc : (lineT X == l) = false := beq_eq_false_iff_ne.2 hc
      clear hg hc
      simp only [evC] at HG HLN
      go_wp2_with fail
      refine (HG.out _).mono ?_; rintro e w5 ⟨rfl, hb5⟩
      have HB5 := Lib.hid (HB4.out.up hb5)
      have K25 := Lib.hid (K2.out.later hb5)
      have K45 := Lib.hid (K4.out.later hb5)
      clear d4 hr hb5 K4 K2 HB4
      have d4 := K45.out.at12
      have hr := Below.refl w5.heap.size w5
      go_wp2_with fail
      refine (HLN.out _ (HE.out.later HB5.out).pow).mono ?_; rintro e w6 ⟨rfl, hb6⟩
      have HB6 := Lib.hid (HB5.out.up hb6)
      have K26 := Lib.hid (K25.out.later hb6)
      clear d4 hr hb6 K25 K45 HB5
      have d2 := K26.out.at12
      have hr := Below.refl w6.heap.size w6
      go_wp2_with fail
      generalize hwf : ((((((((((((w6.setCell ⟨q2, 0, none⟩ (.int .i64 0)).setCell ⟨q2, 1, none⟩ (.int .i64 0)).setCell ⟨q2, 2, none⟩ (.int .i64 0)).setCell ⟨q2, 3, none⟩ (.int .i64 0)).setCell ⟨q2, 4, none⟩ (.string ⟨#[]⟩)).setCell ⟨q2, 5, none⟩ (.int .i64 0)).setCell ⟨q2, 6, none⟩ (.int .i64 0)).setCell ⟨q2, 7, none⟩ (.int .i64 0)).setCell ⟨q2, 8, none⟩ (.int .i64 0)).setCell ⟨q2, 9, none⟩ (.int .i64 0)).setCell ⟨q2, 10, none⟩ (.int .i64 0)).setCell ⟨q2, 11, none⟩ (.int .i64 0)) = wf
      have kf : Blk wf q2 27 #[.int .i64 0, .int .i64 0, .int .i64 0, .int .i64 0, .string ⟨#[]⟩, .int .i64 0, .int .i64 0, .int .i64 0, .int .i64 0, .int .i64 0, .int .i64 0, .int .i64 0] := by rw [← hwf]; exact Blk.set12 K26.out (.int .i64 0) (.int .i64 0) (.int .i64 0) (.int .i64 0) (.string ⟨#[]⟩) (.int .i64 0) (.int .i64 0) (.int .i64 0) (.int .i64 0) (.int .i64 0) (.int .i64 0) (.int .i64 0)
      have hbf : Below w.heap.size w wf := by rw [← hwf]; exact below_set12 HB6.out (Nat.le_of_eq HQ.out) (.int .i64 0) (.int .i64 0) (.int .i64 0) (.int .i64 0) (.string ⟨#[]⟩) (.int .i64 0) (.int .i64 0) (.int .i64 0) (.int .i64 0) (.int .i64 0) (.int .i64 0) (.int .i64 0)
      have df := kf.at12
      have hrf := Below.refl wf.heap.size wf
      clear hwf d2 hr kf
      (try simp only [Exit.inBlock, Exit.then])
      refine bodyPost_ret (v := .tuple #[.agg #[.int .i64 0, .int .i64 0, .int .i64 0, .int .i64 0, .string ⟨#[]⟩, .int .i64 0, .int .i64 0, .int .i64 0, .int .i64 0, .int .i64 0, .int .i64 0, .int .i64 0], .int .i64 2]) ?_ rfl ⟨by rw [HR.out]; rfl, hbf⟩
      rw [results_cell_tmp rfl]
      go_simp

end Go.Proofs.YtmnkekepccdlcaaGreatDoor
