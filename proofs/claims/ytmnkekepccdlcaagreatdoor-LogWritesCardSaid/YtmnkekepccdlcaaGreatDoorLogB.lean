/-
  The bare event.
  Conditions: none.
-/
import Derived.Test.YtmnkekepccdlcaaGreatDoorLog
namespace Go.Proofs.YtmnkekepccdlcaaGreatDoor
set_option linter.unusedVariables false
set_option linter.unusedSimpArgs false
open Go.RowKit

theorem results_cell_one {fn : Func} {p : Tmp} {ty : TypeId} (h : fn.results = #[.cell p ty]) (tmps : Array Value) (P : Program) (w : World) :
    (results fn tmps).run P w = ((asAddr (tmps.getD p undef)).run P w).andThen fun a w₁ => (loadVar ty a).run P w₁ := by
  simp only [results, h]
  simp [Sem.run_bind, Result.andThen]
theorem Blk.set12 {w : World} {g : Nat} {t : TypeId} {y0 y1 y2 y3 y4 y5 y6 y7 y8 y9 y10 y11 : Value} (h : Blk w g t #[y0, y1, y2, y3, y4, y5, y6, y7, y8, y9, y10, y11]) (x0 x1 x2 x3 x4 x5 x6 x7 x8 x9 x10 x11 : Value) : Blk ((((((((((((w.setCell ⟨g, 0, none⟩ x0).setCell ⟨g, 1, none⟩ x1).setCell ⟨g, 2, none⟩ x2).setCell ⟨g, 3, none⟩ x3).setCell ⟨g, 4, none⟩ x4).setCell ⟨g, 5, none⟩ x5).setCell ⟨g, 6, none⟩ x6).setCell ⟨g, 7, none⟩ x7).setCell ⟨g, 8, none⟩ x8).setCell ⟨g, 9, none⟩ x9).setCell ⟨g, 10, none⟩ x10).setCell ⟨g, 11, none⟩ x11) g t #[x0, x1, x2, x3, x4, x5, x6, x7, x8, x9, x10, x11] := by
  have := (((((((((((h.set_ 0 x0).set_ 1 x1).set_ 2 x2).set_ 3 x3).set_ 4 x4).set_ 5 x5).set_ 6 x6).set_ 7 x7).set_ 8 x8).set_ 9 x9).set_ 10 x10).set_ 11 x11
  simpa using this
theorem below_set1 {B : Nat} {a w : World} (h : Below B a w) {b : Nat} (hb : B ≤ b) (i : Nat) (x : Value) : Below B a (w.setCell ⟨b, i, none⟩ x) := h.setCell (p := ⟨b, i, none⟩) hb x
theorem below_set12 {B : Nat} {a w : World} (h : Below B a w) {b : Nat} (hb : B ≤ b) (x0 x1 x2 x3 x4 x5 x6 x7 x8 x9 x10 x11 : Value) : Below B a ((((((((((((w.setCell ⟨b, 0, none⟩ x0).setCell ⟨b, 1, none⟩ x1).setCell ⟨b, 2, none⟩ x2).setCell ⟨b, 3, none⟩ x3).setCell ⟨b, 4, none⟩ x4).setCell ⟨b, 5, none⟩ x5).setCell ⟨b, 6, none⟩ x6).setCell ⟨b, 7, none⟩ x7).setCell ⟨b, 8, none⟩ x8).setCell ⟨b, 9, none⟩ x9).setCell ⟨b, 10, none⟩ x10).setCell ⟨b, 11, none⟩ x11) :=
  (((((((((((below_set1 h hb 0 x0).setCell (p := ⟨b, 1, none⟩) hb x1).setCell (p := ⟨b, 2, none⟩) hb x2).setCell (p := ⟨b, 3, none⟩) hb x3).setCell (p := ⟨b, 4, none⟩) hb x4).setCell (p := ⟨b, 5, none⟩) hb x5).setCell (p := ⟨b, 6, none⟩) hb x6).setCell (p := ⟨b, 7, none⟩) hb x7).setCell (p := ⟨b, 8, none⟩) hb x8).setCell (p := ⟨b, 9, none⟩) hb x9).setCell (p := ⟨b, 10, none⟩) hb x10).setCell (p := ⟨b, 11, none⟩) hb x11

set_option maxHeartbeats 4000000 in
set_option maxRecDepth 100000 in
theorem lBare (x : Ev) (w : World) (hs : x.bytes.size ≤ 1000000) : Calls Tryz.prog 72 #[.agg (evC x)] w fun e w' => e = .returned (.agg (evC (bareT x))) ∧ Below w.heap.size w w' := by
  obtain ⟨w1, hw1⟩ : ∃ w1, ((w.alloc (.cells (evC x) 27)).alloc (.cells (evC ev0) 27)).alloc (.cells (evC { ev0 with kind := x.kind, id := x.id }) 27) = w1 := ⟨_, rfl⟩
  have k1 : Blk w1 w.heap.size 27 (evC x) := by rw [← hw1]; exact Blk.alloc (Blk.alloc (Blk.new _ _ _) _) _
  have k2 : Blk w1 (w.heap.size + 1) 27 (evC ev0) := by
    rw [← hw1]; refine Blk.alloc ?_ _; simpa using Blk.new (w.alloc (.cells (evC x) 27)) 27 (evC ev0)
  have k3 : Blk w1 (w.heap.size + 2) 27 (evC { ev0 with kind := x.kind, id := x.id }) := by
    rw [← hw1]; simpa using Blk.new ((w.alloc (.cells (evC x) 27)).alloc (.cells (evC ev0) 27)) 27 (evC { ev0 with kind := x.kind, id := x.id })
  have hb : Below w.heap.size w w1 := by rw [← hw1]; exact (((Below.refl _ _).alloc (Nat.le_refl _) _).alloc (by simp) _).alloc (by simp; omega) _
  have HW1 := Lib.hid hw1
  clear hw1
  obtain ⟨q1, hq1⟩ : ∃ q, w.heap.size = q := ⟨_, rfl⟩
  obtain ⟨q2, hq2⟩ : ∃ q, q1 + 1 = q := ⟨_, rfl⟩
  obtain ⟨q3, hq3⟩ : ∃ q, q2 + 1 = q := ⟨_, rfl⟩
  have e3 : q1 + 2 = q3 := by omega
  have n1 : q1 ≠ q2 := by omega
  have n2 : q1 ≠ q3 := by omega
  have n3 : q2 ≠ q3 := by omega
  have o2 : q1 ≤ q2 := by omega
  have o3 : q1 ≤ q3 := by omega
  rw [hq1] at k1 k2 k3
  rw [hq2] at k2
  rw [e3] at k3
  have HQ := Lib.hid (And.intro hq1 (And.intro hq2 hq3))
  rw [hq1] at hb
  have HO := Lib.hid (And.intro o2 o3)
  clear hq2 hq3 e3 o2 o3
  obtain ⟨k, d, n, t, b, er, s1, s2, s3, s4, s5, s6⟩ := x
  simp only [ev0, evC] at k1 k2 k3 HW1 ⊢
  simp only at hs
  have d1 := k1.at12
  have d2 := k2.at12
  have d3 := k3.at12
  have hr := Below.refl w1.heap.size w1
  have K2 := Lib.hid k2
  have K3 := Lib.hid k3
  have HB := Lib.hid hb
  have HE := Lib.hid hq1
  clear hb k1 k2 k3 hq1
  by_cases h1 : k = 1
  · subst h1
    go_enter Tryz.func72, Tryz.ntmps72
    go_upto_region 2 with fail
    rw [HW1.out, HQ.out.1, HQ.out.2.1, HQ.out.2.2]
    go_upto_region 5 with fail
    go_region
    generalize hw2 : ((w1.setCell ⟨q3, 1, none⟩ (.int .i64 0)).setCell ⟨q3, 3, none⟩ (.int .i64 t)).drew = w2
    have j3 : Blk w2 q3 27 #[.int .i64 1, .int .i64 0, .int .i64 0, .int .i64 t, .string ⟨#[]⟩, .int .i64 0, .int .i64 0, .int .i64 0, .int .i64 0, .int .i64 0, .int .i64 0, .int .i64 0] := by rw [← hw2]; exact ((K3.out.set_ 1 (.int .i64 0)).set_ 3 (.int .i64 t)).drew
    have j2 : Blk w2 q2 27 #[.int .i64 0, .int .i64 0, .int .i64 0, .int .i64 0, .string ⟨#[]⟩, .int .i64 0, .int .i64 0, .int .i64 0, .int .i64 0, .int .i64 0, .int .i64 0, .int .i64 0] := by rw [← hw2]; exact ((K2.out.far (p := ⟨q3, 1, none⟩) n3 (.int .i64 0)).far (p := ⟨q3, 3, none⟩) n3 (.int .i64 t)).drew
    have hb : Below q1 w w2 := by rw [← hw2]; exact (below_set1 (below_set1 HB.out HO.out.2 1 (.int .i64 0)) HO.out.2 3 (.int .i64 t)).drew
    have HJ := Lib.hid j2
    have HB2 := Lib.hid hb
    have g2 := j2.at12
    have g3 := j3.at12
    have hr2 := Below.refl w2.heap.size w2
    clear d1 d2 d3 hr hw2 j2 j3 hb K2 K3 HB
    go_wp2_with fail
    generalize hw4 : ((((((((((((w2.setCell ⟨q2, 0, none⟩ (.int .i64 1)).setCell ⟨q2, 1, none⟩ (.int .i64 0)).setCell ⟨q2, 2, none⟩ (.int .i64 0)).setCell ⟨q2, 3, none⟩ (.int .i64 t)).setCell ⟨q2, 4, none⟩ (.string ⟨#[]⟩)).setCell ⟨q2, 5, none⟩ (.int .i64 0)).setCell ⟨q2, 6, none⟩ (.int .i64 0)).setCell ⟨q2, 7, none⟩ (.int .i64 0)).setCell ⟨q2, 8, none⟩ (.int .i64 0)).setCell ⟨q2, 9, none⟩ (.int .i64 0)).setCell ⟨q2, 10, none⟩ (.int .i64 0)).setCell ⟨q2, 11, none⟩ (.int .i64 0)) = w4
    have k4 : Blk w4 q2 27 #[.int .i64 1, .int .i64 0, .int .i64 0, .int .i64 t, .string ⟨#[]⟩, .int .i64 0, .int .i64 0, .int .i64 0, .int .i64 0, .int .i64 0, .int .i64 0, .int .i64 0] := by rw [← hw4]; exact HJ.out.set12 (.int .i64 1) (.int .i64 0) (.int .i64 0) (.int .i64 t) (.string ⟨#[]⟩) (.int .i64 0) (.int .i64 0) (.int .i64 0) (.int .i64 0) (.int .i64 0) (.int .i64 0) (.int .i64 0)
    have hb4 : Below q1 w w4 := by rw [← hw4]; exact below_set12 HB2.out HO.out.1 (.int .i64 1) (.int .i64 0) (.int .i64 0) (.int .i64 t) (.string ⟨#[]⟩) (.int .i64 0) (.int .i64 0) (.int .i64 0) (.int .i64 0) (.int .i64 0) (.int .i64 0) (.int .i64 0)
    have d4 := k4.at12
    have hr4 := Below.refl w4.heap.size w4
    rw [← HE.out] at hb4
    clear hw4 g2 g3 hr2 k4
    (try simp only [Exit.inBlock, Exit.then])
    refine bodyPost_ret (v := .agg #[.int .i64 1, .int .i64 0, .int .i64 0, .int .i64 t, .string ⟨#[]⟩, .int .i64 0, .int .i64 0, .int .i64 0, .int .i64 0, .int .i64 0, .int .i64 0, .int .i64 0]) ?_ rfl ⟨by rfl, hb4⟩
    rw [results_cell_one rfl]
    go_simp
  by_cases h7 : k = 7
  · subst h7
    go_enter Tryz.func72, Tryz.ntmps72
    go_upto_region 2 with fail
    rw [HW1.out, HQ.out.1, HQ.out.2.1, HQ.out.2.2]
    go_upto_region 5 with fail
    go_region
    generalize hw2 : ((w1.setCell ⟨q3, 1, none⟩ (.int .i64 0)).setCell ⟨q3, 3, none⟩ (.int .i64 t)).drew = w2
    have j3 : Blk w2 q3 27 #[.int .i64 7, .int .i64 0, .int .i64 0, .int .i64 t, .string ⟨#[]⟩, .int .i64 0, .int .i64 0, .int .i64 0, .int .i64 0, .int .i64 0, .int .i64 0, .int .i64 0] := by rw [← hw2]; exact ((K3.out.set_ 1 (.int .i64 0)).set_ 3 (.int .i64 t)).drew
    have j2 : Blk w2 q2 27 #[.int .i64 0, .int .i64 0, .int .i64 0, .int .i64 0, .string ⟨#[]⟩, .int .i64 0, .int .i64 0, .int .i64 0, .int .i64 0, .int .i64 0, .int .i64 0, .int .i64 0] := by rw [← hw2]; exact ((K2.out.far (p := ⟨q3, 1, none⟩) n3 (.int .i64 0)).far (p := ⟨q3, 3, none⟩) n3 (.int .i64 t)).drew
    have hb : Below q1 w w2 := by rw [← hw2]; exact (below_set1 (below_set1 HB.out HO.out.2 1 (.int .i64 0)) HO.out.2 3 (.int .i64 t)).drew
    have HJ := Lib.hid j2
    have HB2 := Lib.hid hb
    have g2 := j2.at12
    have g3 := j3.at12
    have hr2 := Below.refl w2.heap.size w2
    clear d1 d2 d3 hr hw2 j2 j3 hb K2 K3 HB
    go_wp2_with fail
    generalize hw4 : ((((((((((((w2.setCell ⟨q2, 0, none⟩ (.int .i64 7)).setCell ⟨q2, 1, none⟩ (.int .i64 0)).setCell ⟨q2, 2, none⟩ (.int .i64 0)).setCell ⟨q2, 3, none⟩ (.int .i64 t)).setCell ⟨q2, 4, none⟩ (.string ⟨#[]⟩)).setCell ⟨q2, 5, none⟩ (.int .i64 0)).setCell ⟨q2, 6, none⟩ (.int .i64 0)).setCell ⟨q2, 7, none⟩ (.int .i64 0)).setCell ⟨q2, 8, none⟩ (.int .i64 0)).setCell ⟨q2, 9, none⟩ (.int .i64 0)).setCell ⟨q2, 10, none⟩ (.int .i64 0)).setCell ⟨q2, 11, none⟩ (.int .i64 0)) = w4
    have k4 : Blk w4 q2 27 #[.int .i64 7, .int .i64 0, .int .i64 0, .int .i64 t, .string ⟨#[]⟩, .int .i64 0, .int .i64 0, .int .i64 0, .int .i64 0, .int .i64 0, .int .i64 0, .int .i64 0] := by rw [← hw4]; exact HJ.out.set12 (.int .i64 7) (.int .i64 0) (.int .i64 0) (.int .i64 t) (.string ⟨#[]⟩) (.int .i64 0) (.int .i64 0) (.int .i64 0) (.int .i64 0) (.int .i64 0) (.int .i64 0) (.int .i64 0)
    have hb4 : Below q1 w w4 := by rw [← hw4]; exact below_set12 HB2.out HO.out.1 (.int .i64 7) (.int .i64 0) (.int .i64 0) (.int .i64 t) (.string ⟨#[]⟩) (.int .i64 0) (.int .i64 0) (.int .i64 0) (.int .i64 0) (.int .i64 0) (.int .i64 0) (.int .i64 0)
    have d4 := k4.at12
    have hr4 := Below.refl w4.heap.size w4
    rw [← HE.out] at hb4
    clear hw4 g2 g3 hr2 k4
    (try simp only [Exit.inBlock, Exit.then])
    refine bodyPost_ret (v := .agg #[.int .i64 7, .int .i64 0, .int .i64 0, .int .i64 t, .string ⟨#[]⟩, .int .i64 0, .int .i64 0, .int .i64 0, .int .i64 0, .int .i64 0, .int .i64 0, .int .i64 0]) ?_ rfl ⟨by rfl, hb4⟩
    rw [results_cell_one rfl]
    go_simp
  by_cases h2 : k = 2
  · subst h2
    go_enter Tryz.func72, Tryz.ntmps72
    go_upto_region 2 with fail
    rw [HW1.out, HQ.out.1, HQ.out.2.1, HQ.out.2.2]
    go_upto_region 7 with fail
    go_upto_region 17 with fail
    generalize hw2 : (w1.setCell ⟨q3, 2, none⟩ (.int .i64 n)) = w2
    have j3 : Blk w2 q3 27 #[.int .i64 2, .int .i64 d, .int .i64 n, .int .i64 0, .string ⟨#[]⟩, .int .i64 0, .int .i64 0, .int .i64 0, .int .i64 0, .int .i64 0, .int .i64 0, .int .i64 0] := by rw [← hw2]; exact (K3.out.set_ 2 (.int .i64 n))
    have j2 : Blk w2 q2 27 #[.int .i64 0, .int .i64 0, .int .i64 0, .int .i64 0, .string ⟨#[]⟩, .int .i64 0, .int .i64 0, .int .i64 0, .int .i64 0, .int .i64 0, .int .i64 0, .int .i64 0] := by rw [← hw2]; exact (K2.out.far (p := ⟨q3, 2, none⟩) n3 (.int .i64 n))
    have hb : Below q1 w w2 := by rw [← hw2]; exact (below_set1 HB.out HO.out.2 2 (.int .i64 n))
    have HJ := Lib.hid j2
    have HB2 := Lib.hid hb
    have g2 := j2.at12
    have g3 := j3.at12
    have hr2 := Below.refl w2.heap.size w2
    clear d1 d2 d3 hr hw2 j2 j3 hb K2 K3 HB
    go_wp2_with fail
    generalize hw4 : ((((((((((((w2.setCell ⟨q2, 0, none⟩ (.int .i64 2)).setCell ⟨q2, 1, none⟩ (.int .i64 d)).setCell ⟨q2, 2, none⟩ (.int .i64 n)).setCell ⟨q2, 3, none⟩ (.int .i64 0)).setCell ⟨q2, 4, none⟩ (.string ⟨#[]⟩)).setCell ⟨q2, 5, none⟩ (.int .i64 0)).setCell ⟨q2, 6, none⟩ (.int .i64 0)).setCell ⟨q2, 7, none⟩ (.int .i64 0)).setCell ⟨q2, 8, none⟩ (.int .i64 0)).setCell ⟨q2, 9, none⟩ (.int .i64 0)).setCell ⟨q2, 10, none⟩ (.int .i64 0)).setCell ⟨q2, 11, none⟩ (.int .i64 0)) = w4
    have k4 : Blk w4 q2 27 #[.int .i64 2, .int .i64 d, .int .i64 n, .int .i64 0, .string ⟨#[]⟩, .int .i64 0, .int .i64 0, .int .i64 0, .int .i64 0, .int .i64 0, .int .i64 0, .int .i64 0] := by rw [← hw4]; exact HJ.out.set12 (.int .i64 2) (.int .i64 d) (.int .i64 n) (.int .i64 0) (.string ⟨#[]⟩) (.int .i64 0) (.int .i64 0) (.int .i64 0) (.int .i64 0) (.int .i64 0) (.int .i64 0) (.int .i64 0)
    have hb4 : Below q1 w w4 := by rw [← hw4]; exact below_set12 HB2.out HO.out.1 (.int .i64 2) (.int .i64 d) (.int .i64 n) (.int .i64 0) (.string ⟨#[]⟩) (.int .i64 0) (.int .i64 0) (.int .i64 0) (.int .i64 0) (.int .i64 0) (.int .i64 0) (.int .i64 0)
    have d4 := k4.at12
    have hr4 := Below.refl w4.heap.size w4
    rw [← HE.out] at hb4
    clear hw4 g2 g3 hr2 k4
    (try simp only [Exit.inBlock, Exit.then])
    refine bodyPost_ret (v := .agg #[.int .i64 2, .int .i64 d, .int .i64 n, .int .i64 0, .string ⟨#[]⟩, .int .i64 0, .int .i64 0, .int .i64 0, .int .i64 0, .int .i64 0, .int .i64 0, .int .i64 0]) ?_ rfl ⟨by rfl, hb4⟩
    rw [results_cell_one rfl]
    go_simp
  by_cases h3 : k = 3
  · subst h3
    go_enter Tryz.func72, Tryz.ntmps72
    go_upto_region 2 with fail
    rw [HW1.out, HQ.out.1, HQ.out.2.1, HQ.out.2.2]
    go_upto_region 9 with fail
    go_region
    generalize hw2 : ((w1.setCell ⟨q3, 2, none⟩ (.int .i64 n)).setCell ⟨q3, 5, none⟩ (.int .i64 er)).drew = w2
    have j3 : Blk w2 q3 27 #[.int .i64 3, .int .i64 d, .int .i64 n, .int .i64 0, .string ⟨#[]⟩, .int .i64 er, .int .i64 0, .int .i64 0, .int .i64 0, .int .i64 0, .int .i64 0, .int .i64 0] := by rw [← hw2]; exact ((K3.out.set_ 2 (.int .i64 n)).set_ 5 (.int .i64 er)).drew
    have j2 : Blk w2 q2 27 #[.int .i64 0, .int .i64 0, .int .i64 0, .int .i64 0, .string ⟨#[]⟩, .int .i64 0, .int .i64 0, .int .i64 0, .int .i64 0, .int .i64 0, .int .i64 0, .int .i64 0] := by rw [← hw2]; exact ((K2.out.far (p := ⟨q3, 2, none⟩) n3 (.int .i64 n)).far (p := ⟨q3, 5, none⟩) n3 (.int .i64 er)).drew
    have hb : Below q1 w w2 := by rw [← hw2]; exact (below_set1 (below_set1 HB.out HO.out.2 2 (.int .i64 n)) HO.out.2 5 (.int .i64 er)).drew
    have HJ := Lib.hid j2
    have HB2 := Lib.hid hb
    have g2 := j2.at12
    have g3 := j3.at12
    have hr2 := Below.refl w2.heap.size w2
    clear d1 d2 d3 hr hw2 j2 j3 hb K2 K3 HB
    go_wp2_with fail
    generalize hw4 : ((((((((((((w2.setCell ⟨q2, 0, none⟩ (.int .i64 3)).setCell ⟨q2, 1, none⟩ (.int .i64 d)).setCell ⟨q2, 2, none⟩ (.int .i64 n)).setCell ⟨q2, 3, none⟩ (.int .i64 0)).setCell ⟨q2, 4, none⟩ (.string ⟨#[]⟩)).setCell ⟨q2, 5, none⟩ (.int .i64 er)).setCell ⟨q2, 6, none⟩ (.int .i64 0)).setCell ⟨q2, 7, none⟩ (.int .i64 0)).setCell ⟨q2, 8, none⟩ (.int .i64 0)).setCell ⟨q2, 9, none⟩ (.int .i64 0)).setCell ⟨q2, 10, none⟩ (.int .i64 0)).setCell ⟨q2, 11, none⟩ (.int .i64 0)) = w4
    have k4 : Blk w4 q2 27 #[.int .i64 3, .int .i64 d, .int .i64 n, .int .i64 0, .string ⟨#[]⟩, .int .i64 er, .int .i64 0, .int .i64 0, .int .i64 0, .int .i64 0, .int .i64 0, .int .i64 0] := by rw [← hw4]; exact HJ.out.set12 (.int .i64 3) (.int .i64 d) (.int .i64 n) (.int .i64 0) (.string ⟨#[]⟩) (.int .i64 er) (.int .i64 0) (.int .i64 0) (.int .i64 0) (.int .i64 0) (.int .i64 0) (.int .i64 0)
    have hb4 : Below q1 w w4 := by rw [← hw4]; exact below_set12 HB2.out HO.out.1 (.int .i64 3) (.int .i64 d) (.int .i64 n) (.int .i64 0) (.string ⟨#[]⟩) (.int .i64 er) (.int .i64 0) (.int .i64 0) (.int .i64 0) (.int .i64 0) (.int .i64 0) (.int .i64 0)
    have d4 := k4.at12
    have hr4 := Below.refl w4.heap.size w4
    rw [← HE.out] at hb4
    clear hw4 g2 g3 hr2 k4
    (try simp only [Exit.inBlock, Exit.then])
    refine bodyPost_ret (v := .agg #[.int .i64 3, .int .i64 d, .int .i64 n, .int .i64 0, .string ⟨#[]⟩, .int .i64 er, .int .i64 0, .int .i64 0, .int .i64 0, .int .i64 0, .int .i64 0, .int .i64 0]) ?_ rfl ⟨by rfl, hb4⟩
    rw [results_cell_one rfl]
    go_simp
  by_cases h4 : k = 4
  · subst h4
    go_enter Tryz.func72, Tryz.ntmps72
    go_upto_region 2 with fail
    rw [HW1.out, HQ.out.1, HQ.out.2.1, HQ.out.2.2]
    go_upto_region 12 with fail
    go_region
    generalize hw2 : ((w1.setCell ⟨q3, 2, none⟩ (.int .i64 (b.size : Int))).setCell ⟨q3, 4, none⟩ (.string b)).drew = w2
    have j3 : Blk w2 q3 27 #[.int .i64 4, .int .i64 d, .int .i64 (b.size : Int), .int .i64 0, .string b, .int .i64 0, .int .i64 0, .int .i64 0, .int .i64 0, .int .i64 0, .int .i64 0, .int .i64 0] := by rw [← hw2]; exact ((K3.out.set_ 2 (.int .i64 (b.size : Int))).set_ 4 (.string b)).drew
    have j2 : Blk w2 q2 27 #[.int .i64 0, .int .i64 0, .int .i64 0, .int .i64 0, .string ⟨#[]⟩, .int .i64 0, .int .i64 0, .int .i64 0, .int .i64 0, .int .i64 0, .int .i64 0, .int .i64 0] := by rw [← hw2]; exact ((K2.out.far (p := ⟨q3, 2, none⟩) n3 (.int .i64 (b.size : Int))).far (p := ⟨q3, 4, none⟩) n3 (.string b)).drew
    have hb : Below q1 w w2 := by rw [← hw2]; exact (below_set1 (below_set1 HB.out HO.out.2 2 (.int .i64 (b.size : Int))) HO.out.2 4 (.string b)).drew
    have HJ := Lib.hid j2
    have HB2 := Lib.hid hb
    have g2 := j2.at12
    have g3 := j3.at12
    have hr2 := Below.refl w2.heap.size w2
    clear d1 d2 d3 hr hw2 j2 j3 hb K2 K3 HB
    go_wp2_with fail
    generalize hw4 : ((((((((((((w2.setCell ⟨q2, 0, none⟩ (.int .i64 4)).setCell ⟨q2, 1, none⟩ (.int .i64 d)).setCell ⟨q2, 2, none⟩ (.int .i64 (b.size : Int))).setCell ⟨q2, 3, none⟩ (.int .i64 0)).setCell ⟨q2, 4, none⟩ (.string b)).setCell ⟨q2, 5, none⟩ (.int .i64 0)).setCell ⟨q2, 6, none⟩ (.int .i64 0)).setCell ⟨q2, 7, none⟩ (.int .i64 0)).setCell ⟨q2, 8, none⟩ (.int .i64 0)).setCell ⟨q2, 9, none⟩ (.int .i64 0)).setCell ⟨q2, 10, none⟩ (.int .i64 0)).setCell ⟨q2, 11, none⟩ (.int .i64 0)) = w4
    have k4 : Blk w4 q2 27 #[.int .i64 4, .int .i64 d, .int .i64 (b.size : Int), .int .i64 0, .string b, .int .i64 0, .int .i64 0, .int .i64 0, .int .i64 0, .int .i64 0, .int .i64 0, .int .i64 0] := by rw [← hw4]; exact HJ.out.set12 (.int .i64 4) (.int .i64 d) (.int .i64 (b.size : Int)) (.int .i64 0) (.string b) (.int .i64 0) (.int .i64 0) (.int .i64 0) (.int .i64 0) (.int .i64 0) (.int .i64 0) (.int .i64 0)
    have hb4 : Below q1 w w4 := by rw [← hw4]; exact below_set12 HB2.out HO.out.1 (.int .i64 4) (.int .i64 d) (.int .i64 (b.size : Int)) (.int .i64 0) (.string b) (.int .i64 0) (.int .i64 0) (.int .i64 0) (.int .i64 0) (.int .i64 0) (.int .i64 0) (.int .i64 0)
    have d4 := k4.at12
    have hr4 := Below.refl w4.heap.size w4
    rw [← HE.out] at hb4
    clear hw4 g2 g3 hr2 k4
    (try simp only [Exit.inBlock, Exit.then])
    refine bodyPost_ret (v := .agg #[.int .i64 4, .int .i64 d, .int .i64 (b.size : Int), .int .i64 0, .string b, .int .i64 0, .int .i64 0, .int .i64 0, .int .i64 0, .int .i64 0, .int .i64 0, .int .i64 0]) ?_ rfl ⟨by rfl, hb4⟩
    rw [results_cell_one rfl]
    go_simp
  by_cases h6 : k = 6
  · subst h6
    go_enter Tryz.func72, Tryz.ntmps72
    go_upto_region 2 with fail
    rw [HW1.out, HQ.out.1, HQ.out.2.1, HQ.out.2.2]
    go_upto_region 12 with fail
    go_region
    generalize hw2 : ((w1.setCell ⟨q3, 2, none⟩ (.int .i64 (b.size : Int))).setCell ⟨q3, 4, none⟩ (.string b)).drew = w2
    have j3 : Blk w2 q3 27 #[.int .i64 6, .int .i64 d, .int .i64 (b.size : Int), .int .i64 0, .string b, .int .i64 0, .int .i64 0, .int .i64 0, .int .i64 0, .int .i64 0, .int .i64 0, .int .i64 0] := by rw [← hw2]; exact ((K3.out.set_ 2 (.int .i64 (b.size : Int))).set_ 4 (.string b)).drew
    have j2 : Blk w2 q2 27 #[.int .i64 0, .int .i64 0, .int .i64 0, .int .i64 0, .string ⟨#[]⟩, .int .i64 0, .int .i64 0, .int .i64 0, .int .i64 0, .int .i64 0, .int .i64 0, .int .i64 0] := by rw [← hw2]; exact ((K2.out.far (p := ⟨q3, 2, none⟩) n3 (.int .i64 (b.size : Int))).far (p := ⟨q3, 4, none⟩) n3 (.string b)).drew
    have hb : Below q1 w w2 := by rw [← hw2]; exact (below_set1 (below_set1 HB.out HO.out.2 2 (.int .i64 (b.size : Int))) HO.out.2 4 (.string b)).drew
    have HJ := Lib.hid j2
    have HB2 := Lib.hid hb
    have g2 := j2.at12
    have g3 := j3.at12
    have hr2 := Below.refl w2.heap.size w2
    clear d1 d2 d3 hr hw2 j2 j3 hb K2 K3 HB
    go_wp2_with fail
    generalize hw4 : ((((((((((((w2.setCell ⟨q2, 0, none⟩ (.int .i64 6)).setCell ⟨q2, 1, none⟩ (.int .i64 d)).setCell ⟨q2, 2, none⟩ (.int .i64 (b.size : Int))).setCell ⟨q2, 3, none⟩ (.int .i64 0)).setCell ⟨q2, 4, none⟩ (.string b)).setCell ⟨q2, 5, none⟩ (.int .i64 0)).setCell ⟨q2, 6, none⟩ (.int .i64 0)).setCell ⟨q2, 7, none⟩ (.int .i64 0)).setCell ⟨q2, 8, none⟩ (.int .i64 0)).setCell ⟨q2, 9, none⟩ (.int .i64 0)).setCell ⟨q2, 10, none⟩ (.int .i64 0)).setCell ⟨q2, 11, none⟩ (.int .i64 0)) = w4
    have k4 : Blk w4 q2 27 #[.int .i64 6, .int .i64 d, .int .i64 (b.size : Int), .int .i64 0, .string b, .int .i64 0, .int .i64 0, .int .i64 0, .int .i64 0, .int .i64 0, .int .i64 0, .int .i64 0] := by rw [← hw4]; exact HJ.out.set12 (.int .i64 6) (.int .i64 d) (.int .i64 (b.size : Int)) (.int .i64 0) (.string b) (.int .i64 0) (.int .i64 0) (.int .i64 0) (.int .i64 0) (.int .i64 0) (.int .i64 0) (.int .i64 0)
    have hb4 : Below q1 w w4 := by rw [← hw4]; exact below_set12 HB2.out HO.out.1 (.int .i64 6) (.int .i64 d) (.int .i64 (b.size : Int)) (.int .i64 0) (.string b) (.int .i64 0) (.int .i64 0) (.int .i64 0) (.int .i64 0) (.int .i64 0) (.int .i64 0) (.int .i64 0)
    have d4 := k4.at12
    have hr4 := Below.refl w4.heap.size w4
    rw [← HE.out] at hb4
    clear hw4 g2 g3 hr2 k4
    (try simp only [Exit.inBlock, Exit.then])
    refine bodyPost_ret (v := .agg #[.int .i64 6, .int .i64 d, .int .i64 (b.size : Int), .int .i64 0, .string b, .int .i64 0, .int .i64 0, .int .i64 0, .int .i64 0, .int .i64 0, .int .i64 0, .int .i64 0]) ?_ rfl ⟨by rfl, hb4⟩
    rw [results_cell_one rfl]
    go_simp
  by_cases h8 : k = 8
  · subst h8
    go_enter Tryz.func72, Tryz.ntmps72
    go_upto_region 2 with fail
    rw [HW1.out, HQ.out.1, HQ.out.2.1, HQ.out.2.2]
    go_upto_region 14 with fail
    go_upto_region 17 with fail
    generalize hw2 : ((((((w1.setCell ⟨q3, 6, none⟩ (.int .i64 s1)).setCell ⟨q3, 7, none⟩ (.int .i64 s2)).setCell ⟨q3, 8, none⟩ (.int .i64 s3)).setCell ⟨q3, 9, none⟩ (.int .i64 s4)).setCell ⟨q3, 10, none⟩ (.int .i64 s5)).setCell ⟨q3, 11, none⟩ (.int .i64 s6)) = w2
    have j3 : Blk w2 q3 27 #[.int .i64 8, .int .i64 d, .int .i64 0, .int .i64 0, .string ⟨#[]⟩, .int .i64 0, .int .i64 s1, .int .i64 s2, .int .i64 s3, .int .i64 s4, .int .i64 s5, .int .i64 s6] := by rw [← hw2]; exact ((((((K3.out.set_ 6 (.int .i64 s1)).set_ 7 (.int .i64 s2)).set_ 8 (.int .i64 s3)).set_ 9 (.int .i64 s4)).set_ 10 (.int .i64 s5)).set_ 11 (.int .i64 s6))
    have j2 : Blk w2 q2 27 #[.int .i64 0, .int .i64 0, .int .i64 0, .int .i64 0, .string ⟨#[]⟩, .int .i64 0, .int .i64 0, .int .i64 0, .int .i64 0, .int .i64 0, .int .i64 0, .int .i64 0] := by rw [← hw2]; exact ((((((K2.out.far (p := ⟨q3, 6, none⟩) n3 (.int .i64 s1)).far (p := ⟨q3, 7, none⟩) n3 (.int .i64 s2)).far (p := ⟨q3, 8, none⟩) n3 (.int .i64 s3)).far (p := ⟨q3, 9, none⟩) n3 (.int .i64 s4)).far (p := ⟨q3, 10, none⟩) n3 (.int .i64 s5)).far (p := ⟨q3, 11, none⟩) n3 (.int .i64 s6))
    have hb : Below q1 w w2 := by rw [← hw2]; exact (below_set1 (below_set1 (below_set1 (below_set1 (below_set1 (below_set1 HB.out HO.out.2 6 (.int .i64 s1)) HO.out.2 7 (.int .i64 s2)) HO.out.2 8 (.int .i64 s3)) HO.out.2 9 (.int .i64 s4)) HO.out.2 10 (.int .i64 s5)) HO.out.2 11 (.int .i64 s6))
    have HJ := Lib.hid j2
    have HB2 := Lib.hid hb
    have g2 := j2.at12
    have g3 := j3.at12
    have hr2 := Below.refl w2.heap.size w2
    clear d1 d2 d3 hr hw2 j2 j3 hb K2 K3 HB
    go_wp2_with fail
    generalize hw4 : ((((((((((((w2.setCell ⟨q2, 0, none⟩ (.int .i64 8)).setCell ⟨q2, 1, none⟩ (.int .i64 d)).setCell ⟨q2, 2, none⟩ (.int .i64 0)).setCell ⟨q2, 3, none⟩ (.int .i64 0)).setCell ⟨q2, 4, none⟩ (.string ⟨#[]⟩)).setCell ⟨q2, 5, none⟩ (.int .i64 0)).setCell ⟨q2, 6, none⟩ (.int .i64 s1)).setCell ⟨q2, 7, none⟩ (.int .i64 s2)).setCell ⟨q2, 8, none⟩ (.int .i64 s3)).setCell ⟨q2, 9, none⟩ (.int .i64 s4)).setCell ⟨q2, 10, none⟩ (.int .i64 s5)).setCell ⟨q2, 11, none⟩ (.int .i64 s6)) = w4
    have k4 : Blk w4 q2 27 #[.int .i64 8, .int .i64 d, .int .i64 0, .int .i64 0, .string ⟨#[]⟩, .int .i64 0, .int .i64 s1, .int .i64 s2, .int .i64 s3, .int .i64 s4, .int .i64 s5, .int .i64 s6] := by rw [← hw4]; exact HJ.out.set12 (.int .i64 8) (.int .i64 d) (.int .i64 0) (.int .i64 0) (.string ⟨#[]⟩) (.int .i64 0) (.int .i64 s1) (.int .i64 s2) (.int .i64 s3) (.int .i64 s4) (.int .i64 s5) (.int .i64 s6)
    have hb4 : Below q1 w w4 := by rw [← hw4]; exact below_set12 HB2.out HO.out.1 (.int .i64 8) (.int .i64 d) (.int .i64 0) (.int .i64 0) (.string ⟨#[]⟩) (.int .i64 0) (.int .i64 s1) (.int .i64 s2) (.int .i64 s3) (.int .i64 s4) (.int .i64 s5) (.int .i64 s6)
    have d4 := k4.at12
    have hr4 := Below.refl w4.heap.size w4
    rw [← HE.out] at hb4
    clear hw4 g2 g3 hr2 k4
    (try simp only [Exit.inBlock, Exit.then])
    refine bodyPost_ret (v := .agg #[.int .i64 8, .int .i64 d, .int .i64 0, .int .i64 0, .string ⟨#[]⟩, .int .i64 0, .int .i64 s1, .int .i64 s2, .int .i64 s3, .int .i64 s4, .int .i64 s5, .int .i64 s6]) ?_ rfl ⟨by rfl, hb4⟩
    rw [results_cell_one rfl]
    go_simp
  by_cases h9 : k = 9
  · subst h9
    go_enter Tryz.func72, Tryz.ntmps72
    go_upto_region 2 with fail
    rw [HW1.out, HQ.out.1, HQ.out.2.1, HQ.out.2.2]
    go_upto_region 16 with fail
    go_upto_region 17 with fail
    generalize hw2 : (w1.setCell ⟨q3, 1, none⟩ (.int .i64 0)) = w2
    have j3 : Blk w2 q3 27 #[.int .i64 9, .int .i64 0, .int .i64 0, .int .i64 0, .string ⟨#[]⟩, .int .i64 0, .int .i64 0, .int .i64 0, .int .i64 0, .int .i64 0, .int .i64 0, .int .i64 0] := by rw [← hw2]; exact (K3.out.set_ 1 (.int .i64 0))
    have j2 : Blk w2 q2 27 #[.int .i64 0, .int .i64 0, .int .i64 0, .int .i64 0, .string ⟨#[]⟩, .int .i64 0, .int .i64 0, .int .i64 0, .int .i64 0, .int .i64 0, .int .i64 0, .int .i64 0] := by rw [← hw2]; exact (K2.out.far (p := ⟨q3, 1, none⟩) n3 (.int .i64 0))
    have hb : Below q1 w w2 := by rw [← hw2]; exact (below_set1 HB.out HO.out.2 1 (.int .i64 0))
    have HJ := Lib.hid j2
    have HB2 := Lib.hid hb
    have g2 := j2.at12
    have g3 := j3.at12
    have hr2 := Below.refl w2.heap.size w2
    clear d1 d2 d3 hr hw2 j2 j3 hb K2 K3 HB
    go_wp2_with fail
    generalize hw4 : ((((((((((((w2.setCell ⟨q2, 0, none⟩ (.int .i64 9)).setCell ⟨q2, 1, none⟩ (.int .i64 0)).setCell ⟨q2, 2, none⟩ (.int .i64 0)).setCell ⟨q2, 3, none⟩ (.int .i64 0)).setCell ⟨q2, 4, none⟩ (.string ⟨#[]⟩)).setCell ⟨q2, 5, none⟩ (.int .i64 0)).setCell ⟨q2, 6, none⟩ (.int .i64 0)).setCell ⟨q2, 7, none⟩ (.int .i64 0)).setCell ⟨q2, 8, none⟩ (.int .i64 0)).setCell ⟨q2, 9, none⟩ (.int .i64 0)).setCell ⟨q2, 10, none⟩ (.int .i64 0)).setCell ⟨q2, 11, none⟩ (.int .i64 0)) = w4
    have k4 : Blk w4 q2 27 #[.int .i64 9, .int .i64 0, .int .i64 0, .int .i64 0, .string ⟨#[]⟩, .int .i64 0, .int .i64 0, .int .i64 0, .int .i64 0, .int .i64 0, .int .i64 0, .int .i64 0] := by rw [← hw4]; exact HJ.out.set12 (.int .i64 9) (.int .i64 0) (.int .i64 0) (.int .i64 0) (.string ⟨#[]⟩) (.int .i64 0) (.int .i64 0) (.int .i64 0) (.int .i64 0) (.int .i64 0) (.int .i64 0) (.int .i64 0)
    have hb4 : Below q1 w w4 := by rw [← hw4]; exact below_set12 HB2.out HO.out.1 (.int .i64 9) (.int .i64 0) (.int .i64 0) (.int .i64 0) (.string ⟨#[]⟩) (.int .i64 0) (.int .i64 0) (.int .i64 0) (.int .i64 0) (.int .i64 0) (.int .i64 0) (.int .i64 0)
    have d4 := k4.at12
    have hr4 := Below.refl w4.heap.size w4
    rw [← HE.out] at hb4
    clear hw4 g2 g3 hr2 k4
    (try simp only [Exit.inBlock, Exit.then])
    refine bodyPost_ret (v := .agg #[.int .i64 9, .int .i64 0, .int .i64 0, .int .i64 0, .string ⟨#[]⟩, .int .i64 0, .int .i64 0, .int .i64 0, .int .i64 0, .int .i64 0, .int .i64 0, .int .i64 0]) ?_ rfl ⟨by rfl, hb4⟩
    rw [results_cell_one rfl]
    go_simp
  · have f1 := ne_b h1; have f2 := ne_b h2; have f3 := ne_b h3; have f4 := ne_b h4; have f6 := ne_b h6; have f7 := ne_b h7; have f8 := ne_b h8; have f9 := ne_b h9
    have HN := Lib.hid (show bareT ⟨k, d, n, t, b, er, s1, s2, s3, s4, s5, s6⟩ = ⟨k, d, 0, 0, ⟨#[]⟩, 0, 0, 0, 0, 0, 0, 0⟩ by simp [bareT, ev0, h1, h2, h3, h4, h6, h7, h8, h9])
    clear h1 h2 h3 h4 h6 h7 h8 h9
    go_enter Tryz.func72, Tryz.ntmps72
    go_upto_region 2 with fail
    rw [HW1.out, HQ.out.1, HQ.out.2.1, HQ.out.2.2]
    go_upto_region 17 with fail
    obtain ⟨w2, hw2⟩ : ∃ w2, w1 = w2 := ⟨_, rfl⟩
    rw [hw2]
    have j3 : Blk w2 q3 27 #[.int .i64 k, .int .i64 d, .int .i64 0, .int .i64 0, .string ⟨#[]⟩, .int .i64 0, .int .i64 0, .int .i64 0, .int .i64 0, .int .i64 0, .int .i64 0, .int .i64 0] := by rw [← hw2]; exact K3.out
    have j2 : Blk w2 q2 27 #[.int .i64 0, .int .i64 0, .int .i64 0, .int .i64 0, .string ⟨#[]⟩, .int .i64 0, .int .i64 0, .int .i64 0, .int .i64 0, .int .i64 0, .int .i64 0, .int .i64 0] := by rw [← hw2]; exact K2.out
    have hb : Below q1 w w2 := by rw [← hw2]; exact HB.out
    have HJ := Lib.hid j2
    have HB2 := Lib.hid hb
    have g2 := j2.at12
    have g3 := j3.at12
    have hr2 := Below.refl w2.heap.size w2
    clear d1 d2 d3 hr hw2 j2 j3 hb K2 K3 HB
    go_wp2_with fail
    generalize hw4 : ((((((((((((w2.setCell ⟨q2, 0, none⟩ (.int .i64 k)).setCell ⟨q2, 1, none⟩ (.int .i64 d)).setCell ⟨q2, 2, none⟩ (.int .i64 0)).setCell ⟨q2, 3, none⟩ (.int .i64 0)).setCell ⟨q2, 4, none⟩ (.string ⟨#[]⟩)).setCell ⟨q2, 5, none⟩ (.int .i64 0)).setCell ⟨q2, 6, none⟩ (.int .i64 0)).setCell ⟨q2, 7, none⟩ (.int .i64 0)).setCell ⟨q2, 8, none⟩ (.int .i64 0)).setCell ⟨q2, 9, none⟩ (.int .i64 0)).setCell ⟨q2, 10, none⟩ (.int .i64 0)).setCell ⟨q2, 11, none⟩ (.int .i64 0)) = w4
    have k4 : Blk w4 q2 27 #[.int .i64 k, .int .i64 d, .int .i64 0, .int .i64 0, .string ⟨#[]⟩, .int .i64 0, .int .i64 0, .int .i64 0, .int .i64 0, .int .i64 0, .int .i64 0, .int .i64 0] := by rw [← hw4]; exact HJ.out.set12 (.int .i64 k) (.int .i64 d) (.int .i64 0) (.int .i64 0) (.string ⟨#[]⟩) (.int .i64 0) (.int .i64 0) (.int .i64 0) (.int .i64 0) (.int .i64 0) (.int .i64 0) (.int .i64 0)
    have hb4 : Below q1 w w4 := by rw [← hw4]; exact below_set12 HB2.out HO.out.1 (.int .i64 k) (.int .i64 d) (.int .i64 0) (.int .i64 0) (.string ⟨#[]⟩) (.int .i64 0) (.int .i64 0) (.int .i64 0) (.int .i64 0) (.int .i64 0) (.int .i64 0) (.int .i64 0)
    have d4 := k4.at12
    have hr4 := Below.refl w4.heap.size w4
    rw [← HE.out] at hb4
    clear hw4 g2 g3 hr2 k4
    (try simp only [Exit.inBlock, Exit.then])
    refine bodyPost_ret (v := .agg #[.int .i64 k, .int .i64 d, .int .i64 0, .int .i64 0, .string ⟨#[]⟩, .int .i64 0, .int .i64 0, .int .i64 0, .int .i64 0, .int .i64 0, .int .i64 0, .int .i64 0]) ?_ rfl ⟨by rw [HN.out], hb4⟩
    rw [results_cell_one rfl]
    go_simp
end Go.Proofs.YtmnkekepccdlcaaGreatDoor
