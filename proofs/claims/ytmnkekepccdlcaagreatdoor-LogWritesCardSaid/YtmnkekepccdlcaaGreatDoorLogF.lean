/-
  Which event may be.
  Conditions: none.
-/
import Derived.Test.YtmnkekepccdlcaaGreatDoorLogE
namespace Go.Proofs.YtmnkekepccdlcaaGreatDoor
set_option linter.unusedVariables false
set_option linter.unusedSimpArgs false
open Go.RowKit

set_option maxHeartbeats 4000000 in
set_option maxRecDepth 100000 in
theorem lGood_lo (k d n t : Int) (b : ByteArray) (er s1 s2 s3 s4 s5 s6 : Int) (w : World) (hs : b.size ≤ 1000000) (hx : (⟨k, d, n, t, b, er, s1, s2, s3, s4, s5, s6⟩ : Ev) = bareT ⟨k, d, n, t, b, er, s1, s2, s3, s4, s5, s6⟩) (hk : k < 1) : Calls Tryz.prog 44 #[.agg (evC ⟨k, d, n, t, b, er, s1, s2, s3, s4, s5, s6⟩)] w fun e w' => e = .returned (.bool (goodT ⟨k, d, n, t, b, er, s1, s2, s3, s4, s5, s6⟩)) ∧ Below w.heap.size w w' := by
  obtain ⟨w1, hw1⟩ : ∃ w1, w.alloc (.cells (evC ⟨k, d, n, t, b, er, s1, s2, s3, s4, s5, s6⟩) 27) = w1 := ⟨_, rfl⟩
  have k1 : Blk w1 w.heap.size 27 (evC ⟨k, d, n, t, b, er, s1, s2, s3, s4, s5, s6⟩) := by rw [← hw1]; exact Blk.new _ _ _
  have hb : Below w.heap.size w w1 := by rw [← hw1]; exact (Below.refl _ _).alloc (Nat.le_refl _) _
  have HW1 := Lib.hid hw1
  have HB := Lib.hid hb
  have G0 := fun w' (h : Below w1.heap.size w1 w') => bel_call h (lBare ⟨k, d, n, t, b, er, s1, s2, s3, s4, s5, s6⟩ w' hs)
  rw [← hx] at G0
  have G := Lib.hid G0
  clear hw1 hb hs G0
  have d1 := k1.at12
  have hr := Below.refl w1.heap.size w1
  have MK : Hid (∀ w', Below w1.heap.size w1 w' → Below w1.heap.size w1 w' ∧ (w'.cell? ⟨w.heap.size, 0, none⟩ = some (.int .i64 k) ∧ w'.cell? ⟨w.heap.size, 1, none⟩ = some (.int .i64 d) ∧ w'.cell? ⟨w.heap.size, 2, none⟩ = some (.int .i64 n) ∧ w'.cell? ⟨w.heap.size, 3, none⟩ = some (.int .i64 t) ∧ w'.cell? ⟨w.heap.size, 4, none⟩ = some (.string b) ∧ w'.cell? ⟨w.heap.size, 5, none⟩ = some (.int .i64 er) ∧ w'.cell? ⟨w.heap.size, 6, none⟩ = some (.int .i64 s1) ∧ w'.cell? ⟨w.heap.size, 7, none⟩ = some (.int .i64 s2) ∧ w'.cell? ⟨w.heap.size, 8, none⟩ = some (.int .i64 s3) ∧ w'.cell? ⟨w.heap.size, 9, none⟩ = some (.int .i64 s4) ∧ w'.cell? ⟨w.heap.size, 10, none⟩ = some (.int .i64 s5) ∧ w'.cell? ⟨w.heap.size, 11, none⟩ = some (.int .i64 s6))) := Lib.hid fun w' h => ⟨h, (d1 w' h).1, (d1 w' h).2.1, (d1 w' h).2.2.1, (d1 w' h).2.2.2.1, (d1 w' h).2.2.2.2.1, (d1 w' h).2.2.2.2.2.1, (d1 w' h).2.2.2.2.2.2.1, (d1 w' h).2.2.2.2.2.2.2.1, (d1 w' h).2.2.2.2.2.2.2.2.1, (d1 w' h).2.2.2.2.2.2.2.2.2.1, (d1 w' h).2.2.2.2.2.2.2.2.2.2.1, (d1 w' h).2.2.2.2.2.2.2.2.2.2.2.1⟩
  clear k1
  simp only [evC] at *
  have HG := Lib.hid (show goodT ⟨k, d, n, t, b, er, s1, s2, s3, s4, s5, s6⟩ = false by unfold goodT; rw [show inT k 1 9 = false by unfold inT; simp; omega]; simp)
  clear hx
  have f1 : decide (k < 1) = true := decide_eq_true hk
  clear hk
  go_enter Tryz.func44, Tryz.ntmps44
  go_upto_region 1 with fail
  rw [HW1.out]
  refine wp_region_lexH (S := (fun w' => Below w1.heap.size w1 w' ∧ (w'.cell? ⟨w.heap.size, 0, none⟩ = some (.int .i64 k) ∧ w'.cell? ⟨w.heap.size, 1, none⟩ = some (.int .i64 d) ∧ w'.cell? ⟨w.heap.size, 2, none⟩ = some (.int .i64 n) ∧ w'.cell? ⟨w.heap.size, 3, none⟩ = some (.int .i64 t) ∧ w'.cell? ⟨w.heap.size, 4, none⟩ = some (.string b) ∧ w'.cell? ⟨w.heap.size, 5, none⟩ = some (.int .i64 er) ∧ w'.cell? ⟨w.heap.size, 6, none⟩ = some (.int .i64 s1) ∧ w'.cell? ⟨w.heap.size, 7, none⟩ = some (.int .i64 s2) ∧ w'.cell? ⟨w.heap.size, 8, none⟩ = some (.int .i64 s3) ∧ w'.cell? ⟨w.heap.size, 9, none⟩ = some (.int .i64 s4) ∧ w'.cell? ⟨w.heap.size, 10, none⟩ = some (.int .i64 s5) ∧ w'.cell? ⟨w.heap.size, 11, none⟩ = some (.int .i64 s6)))) (by kernel_rfl) (by kernel_rfl) (by kernel_rfl) (MK.out _ (by (repeat' (first | exact Below.refl _ _ | assumption | exact And.left (by assumption) | apply bel_alloc | apply Below.drew)))) ?_
  clear d1 hr
  repeat (first | (refine lexH_skip (by rfl) ?_; simp only [Act.put, List.setIfInBounds_toArray, List.set_cons_zero, List.set_cons_succ]) | (refine lexH_take (v := ?_) (by rfl) ?_ ?_; rotate_left; (focus (intro w hSw; (try dsimp only at hSw); go_simp; (try with_reducible rfl))); simp only [Act.put, List.setIfInBounds_toArray, List.set_cons_zero, List.set_cons_succ]) | (refine lexH_call (by rfl) (by rfl) (fun K hK => ?_); go_simp; (first | (go_at_call 72; with_reducible (refine (G.out _ (by (repeat' (first | exact Below.refl _ _ | assumption | exact And.left (by assumption) | apply bel_alloc | apply Below.drew)))).mono ?_); rintro e w2 ⟨rfl, hbn, hbm⟩)); (try go_wp2_with fail); refine hK.out _ _ (MK.out _ (by (repeat' (first | exact Below.refl _ _ | assumption | exact And.left (by assumption) | apply bel_alloc | apply Below.drew)))) (fun _ => ?_); clear hK; (try simp only [Act.put, List.setIfInBounds_toArray, List.set_cons_zero, List.set_cons_succ])))
  refine lexH_done ?_
  have d2 := fun w' h => (MK.out w' h).2
  go_wp2_with fail
  go_ret
  exact ⟨by rw [HG.out]; rfl, HB.out.up hbn⟩

set_option maxHeartbeats 4000000 in
set_option maxRecDepth 100000 in
theorem lGood_hi (k d n t : Int) (b : ByteArray) (er s1 s2 s3 s4 s5 s6 : Int) (w : World) (hs : b.size ≤ 1000000) (hx : (⟨k, d, n, t, b, er, s1, s2, s3, s4, s5, s6⟩ : Ev) = bareT ⟨k, d, n, t, b, er, s1, s2, s3, s4, s5, s6⟩) (hk : 9 < k) : Calls Tryz.prog 44 #[.agg (evC ⟨k, d, n, t, b, er, s1, s2, s3, s4, s5, s6⟩)] w fun e w' => e = .returned (.bool (goodT ⟨k, d, n, t, b, er, s1, s2, s3, s4, s5, s6⟩)) ∧ Below w.heap.size w w' := by
  obtain ⟨w1, hw1⟩ : ∃ w1, w.alloc (.cells (evC ⟨k, d, n, t, b, er, s1, s2, s3, s4, s5, s6⟩) 27) = w1 := ⟨_, rfl⟩
  have k1 : Blk w1 w.heap.size 27 (evC ⟨k, d, n, t, b, er, s1, s2, s3, s4, s5, s6⟩) := by rw [← hw1]; exact Blk.new _ _ _
  have hb : Below w.heap.size w w1 := by rw [← hw1]; exact (Below.refl _ _).alloc (Nat.le_refl _) _
  have HW1 := Lib.hid hw1
  have HB := Lib.hid hb
  have G0 := fun w' (h : Below w1.heap.size w1 w') => bel_call h (lBare ⟨k, d, n, t, b, er, s1, s2, s3, s4, s5, s6⟩ w' hs)
  rw [← hx] at G0
  have G := Lib.hid G0
  clear hw1 hb hs G0
  have d1 := k1.at12
  have hr := Below.refl w1.heap.size w1
  have MK : Hid (∀ w', Below w1.heap.size w1 w' → Below w1.heap.size w1 w' ∧ (w'.cell? ⟨w.heap.size, 0, none⟩ = some (.int .i64 k) ∧ w'.cell? ⟨w.heap.size, 1, none⟩ = some (.int .i64 d) ∧ w'.cell? ⟨w.heap.size, 2, none⟩ = some (.int .i64 n) ∧ w'.cell? ⟨w.heap.size, 3, none⟩ = some (.int .i64 t) ∧ w'.cell? ⟨w.heap.size, 4, none⟩ = some (.string b) ∧ w'.cell? ⟨w.heap.size, 5, none⟩ = some (.int .i64 er) ∧ w'.cell? ⟨w.heap.size, 6, none⟩ = some (.int .i64 s1) ∧ w'.cell? ⟨w.heap.size, 7, none⟩ = some (.int .i64 s2) ∧ w'.cell? ⟨w.heap.size, 8, none⟩ = some (.int .i64 s3) ∧ w'.cell? ⟨w.heap.size, 9, none⟩ = some (.int .i64 s4) ∧ w'.cell? ⟨w.heap.size, 10, none⟩ = some (.int .i64 s5) ∧ w'.cell? ⟨w.heap.size, 11, none⟩ = some (.int .i64 s6))) := Lib.hid fun w' h => ⟨h, (d1 w' h).1, (d1 w' h).2.1, (d1 w' h).2.2.1, (d1 w' h).2.2.2.1, (d1 w' h).2.2.2.2.1, (d1 w' h).2.2.2.2.2.1, (d1 w' h).2.2.2.2.2.2.1, (d1 w' h).2.2.2.2.2.2.2.1, (d1 w' h).2.2.2.2.2.2.2.2.1, (d1 w' h).2.2.2.2.2.2.2.2.2.1, (d1 w' h).2.2.2.2.2.2.2.2.2.2.1, (d1 w' h).2.2.2.2.2.2.2.2.2.2.2.1⟩
  clear k1
  simp only [evC] at *
  have HG := Lib.hid (show goodT ⟨k, d, n, t, b, er, s1, s2, s3, s4, s5, s6⟩ = false by unfold goodT; rw [show inT k 1 9 = false by unfold inT; simp; omega]; simp)
  clear hx
  have f0 : decide (k < 1) = false := decide_eq_false (by omega)
  have f1 : decide (9 < k) = true := decide_eq_true hk
  clear hk
  go_enter Tryz.func44, Tryz.ntmps44
  go_upto_region 1 with fail
  rw [HW1.out]
  refine wp_region_lexH (S := (fun w' => Below w1.heap.size w1 w' ∧ (w'.cell? ⟨w.heap.size, 0, none⟩ = some (.int .i64 k) ∧ w'.cell? ⟨w.heap.size, 1, none⟩ = some (.int .i64 d) ∧ w'.cell? ⟨w.heap.size, 2, none⟩ = some (.int .i64 n) ∧ w'.cell? ⟨w.heap.size, 3, none⟩ = some (.int .i64 t) ∧ w'.cell? ⟨w.heap.size, 4, none⟩ = some (.string b) ∧ w'.cell? ⟨w.heap.size, 5, none⟩ = some (.int .i64 er) ∧ w'.cell? ⟨w.heap.size, 6, none⟩ = some (.int .i64 s1) ∧ w'.cell? ⟨w.heap.size, 7, none⟩ = some (.int .i64 s2) ∧ w'.cell? ⟨w.heap.size, 8, none⟩ = some (.int .i64 s3) ∧ w'.cell? ⟨w.heap.size, 9, none⟩ = some (.int .i64 s4) ∧ w'.cell? ⟨w.heap.size, 10, none⟩ = some (.int .i64 s5) ∧ w'.cell? ⟨w.heap.size, 11, none⟩ = some (.int .i64 s6)))) (by kernel_rfl) (by kernel_rfl) (by kernel_rfl) (MK.out _ (by (repeat' (first | exact Below.refl _ _ | assumption | exact And.left (by assumption) | apply bel_alloc | apply Below.drew)))) ?_
  clear d1 hr
  repeat (first | (refine lexH_skip (by rfl) ?_; simp only [Act.put, List.setIfInBounds_toArray, List.set_cons_zero, List.set_cons_succ]) | (refine lexH_take (v := ?_) (by rfl) ?_ ?_; rotate_left; (focus (intro w hSw; (try dsimp only at hSw); go_simp; (try with_reducible rfl))); simp only [Act.put, List.setIfInBounds_toArray, List.set_cons_zero, List.set_cons_succ]) | (refine lexH_call (by rfl) (by rfl) (fun K hK => ?_); go_simp; (first | (go_at_call 72; with_reducible (refine (G.out _ (by (repeat' (first | exact Below.refl _ _ | assumption | exact And.left (by assumption) | apply bel_alloc | apply Below.drew)))).mono ?_); rintro e w2 ⟨rfl, hbn, hbm⟩)); (try go_wp2_with fail); refine hK.out _ _ (MK.out _ (by (repeat' (first | exact Below.refl _ _ | assumption | exact And.left (by assumption) | apply bel_alloc | apply Below.drew)))) (fun _ => ?_); clear hK; (try simp only [Act.put, List.setIfInBounds_toArray, List.set_cons_zero, List.set_cons_succ])))
  refine lexH_done ?_
  have d2 := fun w' h => (MK.out w' h).2
  go_wp2_with fail
  go_ret
  exact ⟨by rw [HG.out]; rfl, HB.out.up hbn⟩

/-- good. -/
theorem lGood (x : Ev) (w : World) (hs : x.bytes.size ≤ 1000000) : Calls Tryz.prog 44 #[.agg (evC x)] w fun e w' => e = .returned (.bool (goodT x)) ∧ Below w.heap.size w w' := by
  by_cases hx : x = bareT x
  · obtain ⟨k, d, n, t, b, er, s1, s2, s3, s4, s5, s6⟩ := x
    by_cases h1 : k < 1
    · exact lGood_lo k d n t b er s1 s2 s3 s4 s5 s6 w hs hx h1
    by_cases h2 : 9 < k
    · exact lGood_hi k d n t b er s1 s2 s3 s4 s5 s6 w hs hx h2
    have hq : k = 1 ∨ k = 2 ∨ k = 3 ∨ k = 4 ∨ k = 5 ∨ k = 6 ∨ k = 7 ∨ k = 8 ∨ k = 9 := by omega
    rcases hq with rfl | rfl | rfl | rfl | rfl | rfl | rfl | rfl | rfl
    · exact lGood1 d n t b er s1 s2 s3 s4 s5 s6 w hs hx
    · exact lGood2 d n t b er s1 s2 s3 s4 s5 s6 w hs hx
    · exact lGood3 d n t b er s1 s2 s3 s4 s5 s6 w hs hx
    · exact lGood4 d n t b er s1 s2 s3 s4 s5 s6 w hs hx
    · exact lGood5 d n t b er s1 s2 s3 s4 s5 s6 w hs hx
    · exact lGood6 d n t b er s1 s2 s3 s4 s5 s6 w hs hx
    · exact lGood7 d n t b er s1 s2 s3 s4 s5 s6 w hs hx
    · exact lGood8 d n t b er s1 s2 s3 s4 s5 s6 w hs hx
    · exact lGood9 d n t b er s1 s2 s3 s4 s5 s6 w hs hx
  · have hg : goodT x = false := by unfold goodT; rw [decide_eq_false hx]; simp
    rw [hg]
    exact lGood_no x w hs hx
end Go.Proofs.YtmnkekepccdlcaaGreatDoor
