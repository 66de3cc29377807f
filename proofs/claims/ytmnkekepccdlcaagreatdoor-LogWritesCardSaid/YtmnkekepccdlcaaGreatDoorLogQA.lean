/-
  Parse, Print and Good of log.
  Conditions: the line is short; the errors of strconv and the tables stand in their variables.
-/
import Derived.Test.YtmnkekepccdlcaaGreatDoorLogO
namespace Go.Proofs.YtmnkekepccdlcaaGreatDoor
set_option linter.unusedVariables false
set_option linter.unusedSimpArgs false
open Go.RowKit

set_option maxHeartbeats 4000000 in
set_option maxRecDepth 100000 in
theorem lParse (l : List UInt8) (hl : l.length ≤ 10000) (w : World) (he : EnvL w) : Calls Tryz.prog 12 #[.string ⟨l.toArray⟩] w fun e w' => e = .returned (prsV (parseEv l)) ∧ Below w.heap.size w w' := by
  obtain ⟨w1, hw1⟩ : ∃ w1, w.alloc (.cells (evC ev0) 27) = w1 := ⟨_, rfl⟩
  have k1 : Blk w1 w.heap.size 27 (evC ev0) := by rw [← hw1]; exact Blk.new _ _ _
  have hb1 : Below w.heap.size w w1 := by rw [← hw1]; exact (Below.refl _ _).alloc (Nat.le_refl _) _
  have HW1 := Lib.hid hw1
  obtain ⟨q2, hq⟩ : ∃ q, w.heap.size = q := ⟨_, rfl⟩
  have HQ := Lib.hid hq
  have HF := Lib.hid (lparse l hl w1 (he.later hb1))
  rw [hq] at k1
  simp only [evC, ev0] at k1
  have K1 := Lib.hid k1
  have HB1 := Lib.hid hb1
  clear hw1 he hq k1 hb1 hl
  cases hp : parseEv l with
  | none =>
    rw [hp] at HF
    have HF : Hid (Calls Tryz.prog 40 #[.string ⟨l.toArray⟩] w1 fun e w' => e = .returned (.tuple #[.agg #[.int .i64 0, .int .i64 0, .int .i64 0, .int .i64 0, .string ⟨#[]⟩, .int .i64 0, .int .i64 0, .int .i64 0, .int .i64 0, .int .i64 0, .int .i64 0, .int .i64 0], .int .i64 2]) ∧ Below w1.heap.size w1 w') := HF
    clear hp
    go_enter Tryz.func12, Tryz.ntmps12
    go_upto_region 1 with fail
    simp only [evC, ev0] at HW1
    rw [HW1.out, HQ.out]
    go_wp2_with fail
    refine HF.out.mono ?_; rintro e w2 ⟨rfl, hb2⟩
    have K2 := Lib.hid (K1.out.later hb2)
    have HB2 := Lib.hid (HB1.out.up hb2)
    clear hb2
    have d2 := K2.out.at12
    have hr := Below.refl w2.heap.size w2
    go_wp2_with fail
    generalize hwf : ((((((((((((w2.setCell ⟨q2, 0, none⟩ (.int .i64 0)).setCell ⟨q2, 1, none⟩ (.int .i64 0)).setCell ⟨q2, 2, none⟩ (.int .i64 0)).setCell ⟨q2, 3, none⟩ (.int .i64 0)).setCell ⟨q2, 4, none⟩ (.string ⟨#[]⟩)).setCell ⟨q2, 5, none⟩ (.int .i64 0)).setCell ⟨q2, 6, none⟩ (.int .i64 0)).setCell ⟨q2, 7, none⟩ (.int .i64 0)).setCell ⟨q2, 8, none⟩ (.int .i64 0)).setCell ⟨q2, 9, none⟩ (.int .i64 0)).setCell ⟨q2, 10, none⟩ (.int .i64 0)).setCell ⟨q2, 11, none⟩ (.int .i64 0)) = wf
    have kf : Blk wf q2 27 #[.int .i64 0, .int .i64 0, .int .i64 0, .int .i64 0, .string ⟨#[]⟩, .int .i64 0, .int .i64 0, .int .i64 0, .int .i64 0, .int .i64 0, .int .i64 0, .int .i64 0] := by rw [← hwf]; exact Blk.set12 K2.out (.int .i64 0) (.int .i64 0) (.int .i64 0) (.int .i64 0) (.string ⟨#[]⟩) (.int .i64 0) (.int .i64 0) (.int .i64 0) (.int .i64 0) (.int .i64 0) (.int .i64 0) (.int .i64 0)
    have hbf : Below w.heap.size w wf := by rw [← hwf]; exact below_set12 HB2.out (Nat.le_of_eq HQ.out) (.int .i64 0) (.int .i64 0) (.int .i64 0) (.int .i64 0) (.string ⟨#[]⟩) (.int .i64 0) (.int .i64 0) (.int .i64 0) (.int .i64 0) (.int .i64 0) (.int .i64 0) (.int .i64 0)
    have df := kf.at12
    have hrf := Below.refl wf.heap.size wf
    clear hwf d2 hr kf
    (try simp only [Exit.inBlock, Exit.then])
    refine bodyPost_ret (v := .tuple #[.agg #[.int .i64 0, .int .i64 0, .int .i64 0, .int .i64 0, .string ⟨#[]⟩, .int .i64 0, .int .i64 0, .int .i64 0, .int .i64 0, .int .i64 0, .int .i64 0, .int .i64 0], .int .i64 2]) ?_ rfl ⟨by rfl, hbf⟩
    rw [results_cell_tmp rfl]
    go_simp
  | some x =>
    rw [hp] at HF
    have HF : Hid (Calls Tryz.prog 40 #[.string ⟨l.toArray⟩] w1 fun e w' => e = .returned (.tuple #[.agg #[.int .i64 x.kind, .int .i64 x.id, .int .i64 x.n, .int .i64 x.tick, .string x.bytes, .int .i64 x.err, .int .i64 x.sT, .int .i64 x.sA, .int .i64 x.sW, .int .i64 x.sR, .int .i64 x.sN, .int .i64 x.sS], .int .i64 0]) ∧ Below w1.heap.size w1 w') := HF
    clear hp
    go_enter Tryz.func12, Tryz.ntmps12
    go_upto_region 1 with fail
    simp only [evC, ev0] at HW1
    rw [HW1.out, HQ.out]
    go_wp2_with fail
    refine HF.out.mono ?_; rintro e w2 ⟨rfl, hb2⟩
    have K2 := Lib.hid (K1.out.later hb2)
    have HB2 := Lib.hid (HB1.out.up hb2)
    clear hb2
    have d2 := K2.out.at12
    have hr := Below.refl w2.heap.size w2
    go_wp2_with fail
    generalize hwf : ((((((((((((w2.setCell ⟨q2, 0, none⟩ (.int .i64 x.kind)).setCell ⟨q2, 1, none⟩ (.int .i64 x.id)).setCell ⟨q2, 2, none⟩ (.int .i64 x.n)).setCell ⟨q2, 3, none⟩ (.int .i64 x.tick)).setCell ⟨q2, 4, none⟩ (.string x.bytes)).setCell ⟨q2, 5, none⟩ (.int .i64 x.err)).setCell ⟨q2, 6, none⟩ (.int .i64 x.sT)).setCell ⟨q2, 7, none⟩ (.int .i64 x.sA)).setCell ⟨q2, 8, none⟩ (.int .i64 x.sW)).setCell ⟨q2, 9, none⟩ (.int .i64 x.sR)).setCell ⟨q2, 10, none⟩ (.int .i64 x.sN)).setCell ⟨q2, 11, none⟩ (.int .i64 x.sS)) = wf
    have kf : Blk wf q2 27 #[.int .i64 x.kind, .int .i64 x.id, .int .i64 x.n, .int .i64 x.tick, .string x.bytes, .int .i64 x.err, .int .i64 x.sT, .int .i64 x.sA, .int .i64 x.sW, .int .i64 x.sR, .int .i64 x.sN, .int .i64 x.sS] := by rw [← hwf]; exact Blk.set12 K2.out (.int .i64 x.kind) (.int .i64 x.id) (.int .i64 x.n) (.int .i64 x.tick) (.string x.bytes) (.int .i64 x.err) (.int .i64 x.sT) (.int .i64 x.sA) (.int .i64 x.sW) (.int .i64 x.sR) (.int .i64 x.sN) (.int .i64 x.sS)
    have hbf : Below w.heap.size w wf := by rw [← hwf]; exact below_set12 HB2.out (Nat.le_of_eq HQ.out) (.int .i64 x.kind) (.int .i64 x.id) (.int .i64 x.n) (.int .i64 x.tick) (.string x.bytes) (.int .i64 x.err) (.int .i64 x.sT) (.int .i64 x.sA) (.int .i64 x.sW) (.int .i64 x.sR) (.int .i64 x.sN) (.int .i64 x.sS)
    have df := kf.at12
    have hrf := Below.refl wf.heap.size wf
    clear hwf d2 hr kf
    (try simp only [Exit.inBlock, Exit.then])
    refine bodyPost_ret (v := .tuple #[.agg #[.int .i64 x.kind, .int .i64 x.id, .int .i64 x.n, .int .i64 x.tick, .string x.bytes, .int .i64 x.err, .int .i64 x.sT, .int .i64 x.sA, .int .i64 x.sW, .int .i64 x.sR, .int .i64 x.sN, .int .i64 x.sS], .int .i64 0]) ?_ rfl ⟨by rfl, hbf⟩
    rw [results_cell_tmp rfl]
    go_simp

theorem lGoodP (x : Ev) (w : World) (hs : x.bytes.size ≤ 1000000) : Calls Tryz.prog 17 #[.agg (evC x)] w fun e w' => e = .returned (.bool (goodT x)) ∧ Below w.heap.size w w' := by
  obtain ⟨w1, hw1⟩ : ∃ w1, w.alloc (.cells (evC x) 27) = w1 := ⟨_, rfl⟩
  have k1 : Blk w1 w.heap.size 27 (evC x) := by rw [← hw1]; exact Blk.new _ _ _
  have hb1 : Below w.heap.size w w1 := by rw [← hw1]; exact (Below.refl _ _).alloc (Nat.le_refl _) _
  have HW1 := Lib.hid hw1
  have G := Lib.hid (lGood x w1 hs)
  clear hw1 hs
  simp only [evC] at *
  have d1 := k1.at12
  have hr := Below.refl w1.heap.size w1
  clear k1
  go_enter Tryz.func17, Tryz.ntmps17
  go_upto_region 1 with fail
  rw [HW1.out]
  go_wp2_with fail
  refine G.out.mono ?_; rintro e w2 ⟨rfl, hb2⟩
  go_wp2_with fail
  go_ret
  exact ⟨rfl, hb1.up hb2⟩

theorem lPrint (x : Ev) (w : World) (h64 : Ev64 x) (hp : Pow w) : Calls Tryz.prog 16 #[.agg (evC x)] w fun e w' => e = .returned (.tuple #[.string ⟨(if goodT x = true then lineT x else []).toArray⟩, .int .i64 (if goodT x = true then 0 else 2)]) ∧ Below w.heap.size w w' := by
  obtain ⟨w1, hw1⟩ : ∃ w1, w.alloc (.cells (evC x) 27) = w1 := ⟨_, rfl⟩
  have k1 : Blk w1 w.heap.size 27 (evC x) := by rw [← hw1]; exact Blk.new _ _ _
  have hb1 : Below w.heap.size w w1 := by rw [← hw1]; exact (Below.refl _ _).alloc (Nat.le_refl _) _
  have HW1 := Lib.hid hw1
  have G := Lib.hid (lGood x w1 (Nat.le_trans h64.bytes (by decide)))
  have HP := Lib.hid hp
  have H6 := Lib.hid h64
  clear hw1 h64 hp
  cases hg : goodT x
  · rw [hg] at G
    simp only [evC] at k1 HW1 G ⊢
    have d1 := k1.at12
    have hr := Below.refl w1.heap.size w1
    clear k1 hg
    go_enter Tryz.func16, Tryz.ntmps16
    go_upto_region 1 with fail
    rw [HW1.out]
    go_wp2_with fail
    refine G.out.mono ?_; rintro e w2 ⟨rfl, hb2⟩
    go_wp2_with fail
    go_ret2
    exact ⟨rfl, hb1.up hb2⟩
  · rw [hg] at G
    have K1 := Lib.hid k1
    have HL := Lib.hid (fun w' hp' => lLine x w' hg H6.out hp')
    simp only [evC] at k1 HW1 G HL ⊢
    have d1 := k1.at12
    have hr := Below.refl w1.heap.size w1
    clear k1 hg
    go_enter Tryz.func16, Tryz.ntmps16
    go_upto_region 1 with fail
    rw [HW1.out]
    go_wp2_with fail
    refine G.out.mono ?_; rintro e w2 ⟨rfl, hb2⟩
    have hb3 := hb1.up hb2
    have k2 := K1.out.later hb2
    simp only [evC] at k2
    clear d1 hr hb2
    have d1 := k2.at12
    have hr := Below.refl w2.heap.size w2
    clear k2
    go_wp2_with fail
    refine (HL.out _ (pow_later HP.out hb3)).mono ?_; rintro e w3 ⟨rfl, hb4⟩
    go_wp2_with fail
    go_ret2
    exact ⟨rfl, hb3.up hb4⟩

end Go.Proofs.YtmnkekepccdlcaaGreatDoor
