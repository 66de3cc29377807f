/-
  Which event may be: an event that has no part too much.
  Conditions: none.
-/
import Derived.Test.YtmnkekepccdlcaaGreatDoorLogD
namespace Go.Proofs.YtmnkekepccdlcaaGreatDoor
set_option linter.unusedVariables false
set_option linter.unusedSimpArgs false
open Go.RowKit

set_option maxHeartbeats 4000000 in
set_option maxRecDepth 100000 in
theorem lGood1 (d n t : Int) (b : ByteArray) (er s1 s2 s3 s4 s5 s6 : Int) (w : World) (hs : b.size ≤ 1000000) (hx : (⟨1, d, n, t, b, er, s1, s2, s3, s4, s5, s6⟩ : Ev) = bareT ⟨1, d, n, t, b, er, s1, s2, s3, s4, s5, s6⟩) : Calls Tryz.prog 44 #[.agg (evC ⟨1, d, n, t, b, er, s1, s2, s3, s4, s5, s6⟩)] w fun e w' => e = .returned (.bool (goodT ⟨1, d, n, t, b, er, s1, s2, s3, s4, s5, s6⟩)) ∧ Below w.heap.size w w' := by
  obtain ⟨w1, hw1⟩ : ∃ w1, w.alloc (.cells (evC ⟨1, d, n, t, b, er, s1, s2, s3, s4, s5, s6⟩) 27) = w1 := ⟨_, rfl⟩
  have k1 : Blk w1 w.heap.size 27 (evC ⟨1, d, n, t, b, er, s1, s2, s3, s4, s5, s6⟩) := by rw [← hw1]; exact Blk.new _ _ _
  have hb : Below w.heap.size w w1 := by rw [← hw1]; exact (Below.refl _ _).alloc (Nat.le_refl _) _
  have HW1 := Lib.hid hw1
  have HB := Lib.hid hb
  have G0 := fun w' (h : Below w1.heap.size w1 w') => bel_call h (lBare ⟨1, d, n, t, b, er, s1, s2, s3, s4, s5, s6⟩ w' hs)
  rw [← hx] at G0
  have G := Lib.hid G0
  clear hw1 hb hs G0
  have d1 := k1.at12
  have hr := Below.refl w1.heap.size w1
  have MK : Hid (∀ w', Below w1.heap.size w1 w' → Below w1.heap.size w1 w' ∧ (w'.cell? ⟨w.heap.size, 0, none⟩ = some (.int .i64 1) ∧ w'.cell? ⟨w.heap.size, 1, none⟩ = some (.int .i64 d) ∧ w'.cell? ⟨w.heap.size, 2, none⟩ = some (.int .i64 n) ∧ w'.cell? ⟨w.heap.size, 3, none⟩ = some (.int .i64 t) ∧ w'.cell? ⟨w.heap.size, 4, none⟩ = some (.string b) ∧ w'.cell? ⟨w.heap.size, 5, none⟩ = some (.int .i64 er) ∧ w'.cell? ⟨w.heap.size, 6, none⟩ = some (.int .i64 s1) ∧ w'.cell? ⟨w.heap.size, 7, none⟩ = some (.int .i64 s2) ∧ w'.cell? ⟨w.heap.size, 8, none⟩ = some (.int .i64 s3) ∧ w'.cell? ⟨w.heap.size, 9, none⟩ = some (.int .i64 s4) ∧ w'.cell? ⟨w.heap.size, 10, none⟩ = some (.int .i64 s5) ∧ w'.cell? ⟨w.heap.size, 11, none⟩ = some (.int .i64 s6))) := Lib.hid fun w' h => ⟨h, (d1 w' h).1, (d1 w' h).2.1, (d1 w' h).2.2.1, (d1 w' h).2.2.2.1, (d1 w' h).2.2.2.2.1, (d1 w' h).2.2.2.2.2.1, (d1 w' h).2.2.2.2.2.2.1, (d1 w' h).2.2.2.2.2.2.2.1, (d1 w' h).2.2.2.2.2.2.2.2.1, (d1 w' h).2.2.2.2.2.2.2.2.2.1, (d1 w' h).2.2.2.2.2.2.2.2.2.2.1, (d1 w' h).2.2.2.2.2.2.2.2.2.2.2.1⟩
  clear k1
  simp only [evC] at *
  have HG := Lib.hid (show goodT ⟨1, d, n, t, b, er, s1, s2, s3, s4, s5, s6⟩ = decide (0 ≤ t) by unfold goodT; rw [decide_eq_true hx]; rfl)
  clear hx
  go_enter Tryz.func44, Tryz.ntmps44
  go_upto_region 1 with fail
  rw [HW1.out]
  refine wp_region_lexH (S := (fun w' => Below w1.heap.size w1 w' ∧ (w'.cell? ⟨w.heap.size, 0, none⟩ = some (.int .i64 1) ∧ w'.cell? ⟨w.heap.size, 1, none⟩ = some (.int .i64 d) ∧ w'.cell? ⟨w.heap.size, 2, none⟩ = some (.int .i64 n) ∧ w'.cell? ⟨w.heap.size, 3, none⟩ = some (.int .i64 t) ∧ w'.cell? ⟨w.heap.size, 4, none⟩ = some (.string b) ∧ w'.cell? ⟨w.heap.size, 5, none⟩ = some (.int .i64 er) ∧ w'.cell? ⟨w.heap.size, 6, none⟩ = some (.int .i64 s1) ∧ w'.cell? ⟨w.heap.size, 7, none⟩ = some (.int .i64 s2) ∧ w'.cell? ⟨w.heap.size, 8, none⟩ = some (.int .i64 s3) ∧ w'.cell? ⟨w.heap.size, 9, none⟩ = some (.int .i64 s4) ∧ w'.cell? ⟨w.heap.size, 10, none⟩ = some (.int .i64 s5) ∧ w'.cell? ⟨w.heap.size, 11, none⟩ = some (.int .i64 s6)))) (by kernel_rfl) (by kernel_rfl) (by kernel_rfl) (MK.out _ (by (repeat' (first | exact Below.refl _ _ | assumption | exact And.left (by assumption) | apply bel_alloc | apply Below.drew)))) ?_
  clear d1 hr
  repeat (first | (refine lexH_skip (by rfl) ?_; simp only [Act.put, List.setIfInBounds_toArray, List.set_cons_zero, List.set_cons_succ]) | (refine lexH_take (v := ?_) (by rfl) ?_ ?_; rotate_left; (focus (intro w hSw; (try dsimp only at hSw); go_simp; (try with_reducible rfl))); simp only [Act.put, List.setIfInBounds_toArray, List.set_cons_zero, List.set_cons_succ]) | (refine lexH_call (by rfl) (by rfl) (fun K hK => ?_); go_simp; (first | (go_at_call 72; with_reducible (refine (G.out _ (by (repeat' (first | exact Below.refl _ _ | assumption | exact And.left (by assumption) | apply bel_alloc | apply Below.drew)))).mono ?_); rintro e w2 ⟨rfl, hbn, hbm⟩)); (try go_wp2_with fail); refine hK.out _ _ (MK.out _ (by (repeat' (first | exact Below.refl _ _ | assumption | exact And.left (by assumption) | apply bel_alloc | apply Below.drew)))) (fun _ => ?_); clear hK; (try simp only [Act.put, List.setIfInBounds_toArray, List.set_cons_zero, List.set_cons_succ])))
  refine lexH_done ?_
  have d2 := fun w' h => (MK.out w' h).2
  go_wp2_with fail
  refine (lIn _ _ _ _).mono ?_; rintro e w3 ⟨rfl, rfl⟩
  go_wp2_with fail
  go_ret
  exact ⟨by rw [HG.out]; rfl, HB.out.up hbn⟩

set_option maxHeartbeats 4000000 in
set_option maxRecDepth 100000 in
theorem lGood7 (d n t : Int) (b : ByteArray) (er s1 s2 s3 s4 s5 s6 : Int) (w : World) (hs : b.size ≤ 1000000) (hx : (⟨7, d, n, t, b, er, s1, s2, s3, s4, s5, s6⟩ : Ev) = bareT ⟨7, d, n, t, b, er, s1, s2, s3, s4, s5, s6⟩) : Calls Tryz.prog 44 #[.agg (evC ⟨7, d, n, t, b, er, s1, s2, s3, s4, s5, s6⟩)] w fun e w' => e = .returned (.bool (goodT ⟨7, d, n, t, b, er, s1, s2, s3, s4, s5, s6⟩)) ∧ Below w.heap.size w w' := by
  obtain ⟨w1, hw1⟩ : ∃ w1, w.alloc (.cells (evC ⟨7, d, n, t, b, er, s1, s2, s3, s4, s5, s6⟩) 27) = w1 := ⟨_, rfl⟩
  have k1 : Blk w1 w.heap.size 27 (evC ⟨7, d, n, t, b, er, s1, s2, s3, s4, s5, s6⟩) := by rw [← hw1]; exact Blk.new _ _ _
  have hb : Below w.heap.size w w1 := by rw [← hw1]; exact (Below.refl _ _).alloc (Nat.le_refl _) _
  have HW1 := Lib.hid hw1
  have HB := Lib.hid hb
  have G0 := fun w' (h : Below w1.heap.size w1 w') => bel_call h (lBare ⟨7, d, n, t, b, er, s1, s2, s3, s4, s5, s6⟩ w' hs)
  rw [← hx] at G0
  have G := Lib.hid G0
  clear hw1 hb hs G0
  have d1 := k1.at12
  have hr := Below.refl w1.heap.size w1
  have MK : Hid (∀ w', Below w1.heap.size w1 w' → Below w1.heap.size w1 w' ∧ (w'.cell? ⟨w.heap.size, 0, none⟩ = some (.int .i64 7) ∧ w'.cell? ⟨w.heap.size, 1, none⟩ = some (.int .i64 d) ∧ w'.cell? ⟨w.heap.size, 2, none⟩ = some (.int .i64 n) ∧ w'.cell? ⟨w.heap.size, 3, none⟩ = some (.int .i64 t) ∧ w'.cell? ⟨w.heap.size, 4, none⟩ = some (.string b) ∧ w'.cell? ⟨w.heap.size, 5, none⟩ = some (.int .i64 er) ∧ w'.cell? ⟨w.heap.size, 6, none⟩ = some (.int .i64 s1) ∧ w'.cell? ⟨w.heap.size, 7, none⟩ = some (.int .i64 s2) ∧ w'.cell? ⟨w.heap.size, 8, none⟩ = some (.int .i64 s3) ∧ w'.cell? ⟨w.heap.size, 9, none⟩ = some (.int .i64 s4) ∧ w'.cell? ⟨w.heap.size, 10, none⟩ = some (.int .i64 s5) ∧ w'.cell? ⟨w.heap.size, 11, none⟩ = some (.int .i64 s6))) := Lib.hid fun w' h => ⟨h, (d1 w' h).1, (d1 w' h).2.1, (d1 w' h).2.2.1, (d1 w' h).2.2.2.1, (d1 w' h).2.2.2.2.1, (d1 w' h).2.2.2.2.2.1, (d1 w' h).2.2.2.2.2.2.1, (d1 w' h).2.2.2.2.2.2.2.1, (d1 w' h).2.2.2.2.2.2.2.2.1, (d1 w' h).2.2.2.2.2.2.2.2.2.1, (d1 w' h).2.2.2.2.2.2.2.2.2.2.1, (d1 w' h).2.2.2.2.2.2.2.2.2.2.2.1⟩
  clear k1
  simp only [evC] at *
  have HG := Lib.hid (show goodT ⟨7, d, n, t, b, er, s1, s2, s3, s4, s5, s6⟩ = decide (0 ≤ t) by unfold goodT; rw [decide_eq_true hx]; rfl)
  clear hx
  go_enter Tryz.func44, Tryz.ntmps44
  go_upto_region 1 with fail
  rw [HW1.out]
  refine wp_region_lexH (S := (fun w' => Below w1.heap.size w1 w' ∧ (w'.cell? ⟨w.heap.size, 0, none⟩ = some (.int .i64 7) ∧ w'.cell? ⟨w.heap.size, 1, none⟩ = some (.int .i64 d) ∧ w'.cell? ⟨w.heap.size, 2, none⟩ = some (.int .i64 n) ∧ w'.cell? ⟨w.heap.size, 3, none⟩ = some (.int .i64 t) ∧ w'.cell? ⟨w.heap.size, 4, none⟩ = some (.string b) ∧ w'.cell? ⟨w.heap.size, 5, none⟩ = some (.int .i64 er) ∧ w'.cell? ⟨w.heap.size, 6, none⟩ = some (.int .i64 s1) ∧ w'.cell? ⟨w.heap.size, 7, none⟩ = some (.int .i64 s2) ∧ w'.cell? ⟨w.heap.size, 8, none⟩ = some (.int .i64 s3) ∧ w'.cell? ⟨w.heap.size, 9, none⟩ = some (.int .i64 s4) ∧ w'.cell? ⟨w.heap.size, 10, none⟩ = some (.int .i64 s5) ∧ w'.cell? ⟨w.heap.size, 11, none⟩ = some (.int .i64 s6)))) (by kernel_rfl) (by kernel_rfl) (by kernel_rfl) (MK.out _ (by (repeat' (first | exact Below.refl _ _ | assumption | exact And.left (by assumption) | apply bel_alloc | apply Below.drew)))) ?_
  clear d1 hr
  repeat (first | (refine lexH_skip (by rfl) ?_; simp only [Act.put, List.setIfInBounds_toArray, List.set_cons_zero, List.set_cons_succ]) | (refine lexH_take (v := ?_) (by rfl) ?_ ?_; rotate_left; (focus (intro w hSw; (try dsimp only at hSw); go_simp; (try with_reducible rfl))); simp only [Act.put, List.setIfInBounds_toArray, List.set_cons_zero, List.set_cons_succ]) | (refine lexH_call (by rfl) (by rfl) (fun K hK => ?_); go_simp; (first | (go_at_call 72; with_reducible (refine (G.out _ (by (repeat' (first | exact Below.refl _ _ | assumption | exact And.left (by assumption) | apply bel_alloc | apply Below.drew)))).mono ?_); rintro e w2 ⟨rfl, hbn, hbm⟩)); (try go_wp2_with fail); refine hK.out _ _ (MK.out _ (by (repeat' (first | exact Below.refl _ _ | assumption | exact And.left (by assumption) | apply bel_alloc | apply Below.drew)))) (fun _ => ?_); clear hK; (try simp only [Act.put, List.setIfInBounds_toArray, List.set_cons_zero, List.set_cons_succ])))
  refine lexH_done ?_
  have d2 := fun w' h => (MK.out w' h).2
  go_wp2_with fail
  refine (lIn _ _ _ _).mono ?_; rintro e w3 ⟨rfl, rfl⟩
  go_wp2_with fail
  go_ret
  exact ⟨by rw [HG.out]; rfl, HB.out.up hbn⟩

set_option maxHeartbeats 4000000 in
set_option maxRecDepth 100000 in
theorem lGood2 (d n t : Int) (b : ByteArray) (er s1 s2 s3 s4 s5 s6 : Int) (w : World) (hs : b.size ≤ 1000000) (hx : (⟨2, d, n, t, b, er, s1, s2, s3, s4, s5, s6⟩ : Ev) = bareT ⟨2, d, n, t, b, er, s1, s2, s3, s4, s5, s6⟩) : Calls Tryz.prog 44 #[.agg (evC ⟨2, d, n, t, b, er, s1, s2, s3, s4, s5, s6⟩)] w fun e w' => e = .returned (.bool (goodT ⟨2, d, n, t, b, er, s1, s2, s3, s4, s5, s6⟩)) ∧ Below w.heap.size w w' := by
  obtain ⟨w1, hw1⟩ : ∃ w1, w.alloc (.cells (evC ⟨2, d, n, t, b, er, s1, s2, s3, s4, s5, s6⟩) 27) = w1 := ⟨_, rfl⟩
  have k1 : Blk w1 w.heap.size 27 (evC ⟨2, d, n, t, b, er, s1, s2, s3, s4, s5, s6⟩) := by rw [← hw1]; exact Blk.new _ _ _
  have hb : Below w.heap.size w w1 := by rw [← hw1]; exact (Below.refl _ _).alloc (Nat.le_refl _) _
  have HW1 := Lib.hid hw1
  have HB := Lib.hid hb
  have G0 := fun w' (h : Below w1.heap.size w1 w') => bel_call h (lBare ⟨2, d, n, t, b, er, s1, s2, s3, s4, s5, s6⟩ w' hs)
  rw [← hx] at G0
  have G := Lib.hid G0
  clear hw1 hb hs G0
  have d1 := k1.at12
  have hr := Below.refl w1.heap.size w1
  have MK : Hid (∀ w', Below w1.heap.size w1 w' → Below w1.heap.size w1 w' ∧ (w'.cell? ⟨w.heap.size, 0, none⟩ = some (.int .i64 2) ∧ w'.cell? ⟨w.heap.size, 1, none⟩ = some (.int .i64 d) ∧ w'.cell? ⟨w.heap.size, 2, none⟩ = some (.int .i64 n) ∧ w'.cell? ⟨w.heap.size, 3, none⟩ = some (.int .i64 t) ∧ w'.cell? ⟨w.heap.size, 4, none⟩ = some (.string b) ∧ w'.cell? ⟨w.heap.size, 5, none⟩ = some (.int .i64 er) ∧ w'.cell? ⟨w.heap.size, 6, none⟩ = some (.int .i64 s1) ∧ w'.cell? ⟨w.heap.size, 7, none⟩ = some (.int .i64 s2) ∧ w'.cell? ⟨w.heap.size, 8, none⟩ = some (.int .i64 s3) ∧ w'.cell? ⟨w.heap.size, 9, none⟩ = some (.int .i64 s4) ∧ w'.cell? ⟨w.heap.size, 10, none⟩ = some (.int .i64 s5) ∧ w'.cell? ⟨w.heap.size, 11, none⟩ = some (.int .i64 s6))) := Lib.hid fun w' h => ⟨h, (d1 w' h).1, (d1 w' h).2.1, (d1 w' h).2.2.1, (d1 w' h).2.2.2.1, (d1 w' h).2.2.2.2.1, (d1 w' h).2.2.2.2.2.1, (d1 w' h).2.2.2.2.2.2.1, (d1 w' h).2.2.2.2.2.2.2.1, (d1 w' h).2.2.2.2.2.2.2.2.1, (d1 w' h).2.2.2.2.2.2.2.2.2.1, (d1 w' h).2.2.2.2.2.2.2.2.2.2.1, (d1 w' h).2.2.2.2.2.2.2.2.2.2.2.1⟩
  clear k1
  simp only [evC] at *
  have HG := Lib.hid (show goodT ⟨2, d, n, t, b, er, s1, s2, s3, s4, s5, s6⟩ = (inT d 0 4095 && inT n 0 63) by unfold goodT; rw [decide_eq_true hx]; rfl)
  clear hx
  cases c1 : inT d 0 4095
  · go_enter Tryz.func44, Tryz.ntmps44
    go_upto_region 1 with fail
    rw [HW1.out]
    refine wp_region_lexH (S := (fun w' => Below w1.heap.size w1 w' ∧ (w'.cell? ⟨w.heap.size, 0, none⟩ = some (.int .i64 2) ∧ w'.cell? ⟨w.heap.size, 1, none⟩ = some (.int .i64 d) ∧ w'.cell? ⟨w.heap.size, 2, none⟩ = some (.int .i64 n) ∧ w'.cell? ⟨w.heap.size, 3, none⟩ = some (.int .i64 t) ∧ w'.cell? ⟨w.heap.size, 4, none⟩ = some (.string b) ∧ w'.cell? ⟨w.heap.size, 5, none⟩ = some (.int .i64 er) ∧ w'.cell? ⟨w.heap.size, 6, none⟩ = some (.int .i64 s1) ∧ w'.cell? ⟨w.heap.size, 7, none⟩ = some (.int .i64 s2) ∧ w'.cell? ⟨w.heap.size, 8, none⟩ = some (.int .i64 s3) ∧ w'.cell? ⟨w.heap.size, 9, none⟩ = some (.int .i64 s4) ∧ w'.cell? ⟨w.heap.size, 10, none⟩ = some (.int .i64 s5) ∧ w'.cell? ⟨w.heap.size, 11, none⟩ = some (.int .i64 s6)))) (by kernel_rfl) (by kernel_rfl) (by kernel_rfl) (MK.out _ (by (repeat' (first | exact Below.refl _ _ | assumption | exact And.left (by assumption) | apply bel_alloc | apply Below.drew)))) ?_
    clear d1 hr
    repeat (first | (refine lexH_skip (by rfl) ?_; simp only [Act.put, List.setIfInBounds_toArray, List.set_cons_zero, List.set_cons_succ]) | (refine lexH_take (v := ?_) (by rfl) ?_ ?_; rotate_left; (focus (intro w hSw; (try dsimp only at hSw); go_simp; (try with_reducible rfl))); simp only [Act.put, List.setIfInBounds_toArray, List.set_cons_zero, List.set_cons_succ]) | (refine lexH_call (by rfl) (by rfl) (fun K hK => ?_); go_simp; (first | (go_at_call 72; with_reducible (refine (G.out _ (by (repeat' (first | exact Below.refl _ _ | assumption | exact And.left (by assumption) | apply bel_alloc | apply Below.drew)))).mono ?_); rintro e w2 ⟨rfl, hbn, hbm⟩)); (try go_wp2_with fail); refine hK.out _ _ (MK.out _ (by (repeat' (first | exact Below.refl _ _ | assumption | exact And.left (by assumption) | apply bel_alloc | apply Below.drew)))) (fun _ => ?_); clear hK; (try simp only [Act.put, List.setIfInBounds_toArray, List.set_cons_zero, List.set_cons_succ])))
    refine lexH_done ?_
    have d2 := fun w' h => (MK.out w' h).2
    have HI := Lib.hid fun w' => lInB c1 w'
    go_wp2_with fail
    refine (HI.out _).mono ?_; rintro e w3 ⟨rfl, rfl⟩
    go_wp2_with fail
    go_ret
    exact ⟨by rw [HG.out, c1]; rfl, HB.out.up hbn⟩
  · go_enter Tryz.func44, Tryz.ntmps44
    go_upto_region 1 with fail
    rw [HW1.out]
    refine wp_region_lexH (S := (fun w' => Below w1.heap.size w1 w' ∧ (w'.cell? ⟨w.heap.size, 0, none⟩ = some (.int .i64 2) ∧ w'.cell? ⟨w.heap.size, 1, none⟩ = some (.int .i64 d) ∧ w'.cell? ⟨w.heap.size, 2, none⟩ = some (.int .i64 n) ∧ w'.cell? ⟨w.heap.size, 3, none⟩ = some (.int .i64 t) ∧ w'.cell? ⟨w.heap.size, 4, none⟩ = some (.string b) ∧ w'.cell? ⟨w.heap.size, 5, none⟩ = some (.int .i64 er) ∧ w'.cell? ⟨w.heap.size, 6, none⟩ = some (.int .i64 s1) ∧ w'.cell? ⟨w.heap.size, 7, none⟩ = some (.int .i64 s2) ∧ w'.cell? ⟨w.heap.size, 8, none⟩ = some (.int .i64 s3) ∧ w'.cell? ⟨w.heap.size, 9, none⟩ = some (.int .i64 s4) ∧ w'.cell? ⟨w.heap.size, 10, none⟩ = some (.int .i64 s5) ∧ w'.cell? ⟨w.heap.size, 11, none⟩ = some (.int .i64 s6)))) (by kernel_rfl) (by kernel_rfl) (by kernel_rfl) (MK.out _ (by (repeat' (first | exact Below.refl _ _ | assumption | exact And.left (by assumption) | apply bel_alloc | apply Below.drew)))) ?_
    clear d1 hr
    repeat (first | (refine lexH_skip (by rfl) ?_; simp only [Act.put, List.setIfInBounds_toArray, List.set_cons_zero, List.set_cons_succ]) | (refine lexH_take (v := ?_) (by rfl) ?_ ?_; rotate_left; (focus (intro w hSw; (try dsimp only at hSw); go_simp; (try with_reducible rfl))); simp only [Act.put, List.setIfInBounds_toArray, List.set_cons_zero, List.set_cons_succ]) | (refine lexH_call (by rfl) (by rfl) (fun K hK => ?_); go_simp; (first | (go_at_call 72; with_reducible (refine (G.out _ (by (repeat' (first | exact Below.refl _ _ | assumption | exact And.left (by assumption) | apply bel_alloc | apply Below.drew)))).mono ?_); rintro e w2 ⟨rfl, hbn, hbm⟩)); (try go_wp2_with fail); refine hK.out _ _ (MK.out _ (by (repeat' (first | exact Below.refl _ _ | assumption | exact And.left (by assumption) | apply bel_alloc | apply Below.drew)))) (fun _ => ?_); clear hK; (try simp only [Act.put, List.setIfInBounds_toArray, List.set_cons_zero, List.set_cons_succ])))
    refine lexH_done ?_
    have d2 := fun w' h => (MK.out w' h).2
    have HI := Lib.hid fun w' => lInB c1 w'
    go_wp2_with fail
    refine (HI.out _).mono ?_; rintro e w3 ⟨rfl, rfl⟩
    go_wp2_with fail
    refine (lIn _ _ _ _).mono ?_; rintro e w4 ⟨rfl, rfl⟩
    go_wp2_with fail
    go_ret
    exact ⟨by rw [HG.out, c1]; rfl, HB.out.up hbn⟩

set_option maxHeartbeats 4000000 in
set_option maxRecDepth 100000 in
theorem lGood3 (d n t : Int) (b : ByteArray) (er s1 s2 s3 s4 s5 s6 : Int) (w : World) (hs : b.size ≤ 1000000) (hx : (⟨3, d, n, t, b, er, s1, s2, s3, s4, s5, s6⟩ : Ev) = bareT ⟨3, d, n, t, b, er, s1, s2, s3, s4, s5, s6⟩) : Calls Tryz.prog 44 #[.agg (evC ⟨3, d, n, t, b, er, s1, s2, s3, s4, s5, s6⟩)] w fun e w' => e = .returned (.bool (goodT ⟨3, d, n, t, b, er, s1, s2, s3, s4, s5, s6⟩)) ∧ Below w.heap.size w w' := by
  obtain ⟨w1, hw1⟩ : ∃ w1, w.alloc (.cells (evC ⟨3, d, n, t, b, er, s1, s2, s3, s4, s5, s6⟩) 27) = w1 := ⟨_, rfl⟩
  have k1 : Blk w1 w.heap.size 27 (evC ⟨3, d, n, t, b, er, s1, s2, s3, s4, s5, s6⟩) := by rw [← hw1]; exact Blk.new _ _ _
  have hb : Below w.heap.size w w1 := by rw [← hw1]; exact (Below.refl _ _).alloc (Nat.le_refl _) _
  have HW1 := Lib.hid hw1
  have HB := Lib.hid hb
  have G0 := fun w' (h : Below w1.heap.size w1 w') => bel_call h (lBare ⟨3, d, n, t, b, er, s1, s2, s3, s4, s5, s6⟩ w' hs)
  rw [← hx] at G0
  have G := Lib.hid G0
  clear hw1 hb hs G0
  have d1 := k1.at12
  have hr := Below.refl w1.heap.size w1
  have MK : Hid (∀ w', Below w1.heap.size w1 w' → Below w1.heap.size w1 w' ∧ (w'.cell? ⟨w.heap.size, 0, none⟩ = some (.int .i64 3) ∧ w'.cell? ⟨w.heap.size, 1, none⟩ = some (.int .i64 d) ∧ w'.cell? ⟨w.heap.size, 2, none⟩ = some (.int .i64 n) ∧ w'.cell? ⟨w.heap.size, 3, none⟩ = some (.int .i64 t) ∧ w'.cell? ⟨w.heap.size, 4, none⟩ = some (.string b) ∧ w'.cell? ⟨w.heap.size, 5, none⟩ = some (.int .i64 er) ∧ w'.cell? ⟨w.heap.size, 6, none⟩ = some (.int .i64 s1) ∧ w'.cell? ⟨w.heap.size, 7, none⟩ = some (.int .i64 s2) ∧ w'.cell? ⟨w.heap.size, 8, none⟩ = some (.int .i64 s3) ∧ w'.cell? ⟨w.heap.size, 9, none⟩ = some (.int .i64 s4) ∧ w'.cell? ⟨w.heap.size, 10, none⟩ = some (.int .i64 s5) ∧ w'.cell? ⟨w.heap.size, 11, none⟩ = some (.int .i64 s6))) := Lib.hid fun w' h => ⟨h, (d1 w' h).1, (d1 w' h).2.1, (d1 w' h).2.2.1, (d1 w' h).2.2.2.1, (d1 w' h).2.2.2.2.1, (d1 w' h).2.2.2.2.2.1, (d1 w' h).2.2.2.2.2.2.1, (d1 w' h).2.2.2.2.2.2.2.1, (d1 w' h).2.2.2.2.2.2.2.2.1, (d1 w' h).2.2.2.2.2.2.2.2.2.1, (d1 w' h).2.2.2.2.2.2.2.2.2.2.1, (d1 w' h).2.2.2.2.2.2.2.2.2.2.2.1⟩
  clear k1
  simp only [evC] at *
  have HG := Lib.hid (show goodT ⟨3, d, n, t, b, er, s1, s2, s3, s4, s5, s6⟩ = (inT d (-1) 4095 && inT er 1 13) by unfold goodT; rw [decide_eq_true hx]; rfl)
  clear hx
  cases c1 : inT d (-1) 4095
  · go_enter Tryz.func44, Tryz.ntmps44
    go_upto_region 1 with fail
    rw [HW1.out]
    refine wp_region_lexH (S := (fun w' => Below w1.heap.size w1 w' ∧ (w'.cell? ⟨w.heap.size, 0, none⟩ = some (.int .i64 3) ∧ w'.cell? ⟨w.heap.size, 1, none⟩ = some (.int .i64 d) ∧ w'.cell? ⟨w.heap.size, 2, none⟩ = some (.int .i64 n) ∧ w'.cell? ⟨w.heap.size, 3, none⟩ = some (.int .i64 t) ∧ w'.cell? ⟨w.heap.size, 4, none⟩ = some (.string b) ∧ w'.cell? ⟨w.heap.size, 5, none⟩ = some (.int .i64 er) ∧ w'.cell? ⟨w.heap.size, 6, none⟩ = some (.int .i64 s1) ∧ w'.cell? ⟨w.heap.size, 7, none⟩ = some (.int .i64 s2) ∧ w'.cell? ⟨w.heap.size, 8, none⟩ = some (.int .i64 s3) ∧ w'.cell? ⟨w.heap.size, 9, none⟩ = some (.int .i64 s4) ∧ w'.cell? ⟨w.heap.size, 10, none⟩ = some (.int .i64 s5) ∧ w'.cell? ⟨w.heap.size, 11, none⟩ = some (.int .i64 s6)))) (by kernel_rfl) (by kernel_rfl) (by kernel_rfl) (MK.out _ (by (repeat' (first | exact Below.refl _ _ | assumption | exact And.left (by assumption) | apply bel_alloc | apply Below.drew)))) ?_
    clear d1 hr
    repeat (first | (refine lexH_skip (by rfl) ?_; simp only [Act.put, List.setIfInBounds_toArray, List.set_cons_zero, List.set_cons_succ]) | (refine lexH_take (v := ?_) (by rfl) ?_ ?_; rotate_left; (focus (intro w hSw; (try dsimp only at hSw); go_simp; (try with_reducible rfl))); simp only [Act.put, List.setIfInBounds_toArray, List.set_cons_zero, List.set_cons_succ]) | (refine lexH_call (by rfl) (by rfl) (fun K hK => ?_); go_simp; (first | (go_at_call 72; with_reducible (refine (G.out _ (by (repeat' (first | exact Below.refl _ _ | assumption | exact And.left (by assumption) | apply bel_alloc | apply Below.drew)))).mono ?_); rintro e w2 ⟨rfl, hbn, hbm⟩)); (try go_wp2_with fail); refine hK.out _ _ (MK.out _ (by (repeat' (first | exact Below.refl _ _ | assumption | exact And.left (by assumption) | apply bel_alloc | apply Below.drew)))) (fun _ => ?_); clear hK; (try simp only [Act.put, List.setIfInBounds_toArray, List.set_cons_zero, List.set_cons_succ])))
    refine lexH_done ?_
    have d2 := fun w' h => (MK.out w' h).2
    have HI := Lib.hid fun w' => lInB c1 w'
    go_wp2_with fail
    refine (lIn _ _ _ _).mono ?_; rintro e w3 ⟨rfl, rfl⟩
    go_wp2_with fail
    refine (HI.out _).mono ?_; rintro e w4 ⟨rfl, rfl⟩
    go_wp2_with fail
    go_ret
    exact ⟨by rw [HG.out, c1]; rfl, HB.out.up hbn⟩
  · by_cases c2 : 1 ≤ er
    · by_cases c3 : er ≤ 13
      · go_enter Tryz.func44, Tryz.ntmps44
        go_upto_region 1 with fail
        rw [HW1.out]
        refine wp_region_lexH (S := (fun w' => Below w1.heap.size w1 w' ∧ (w'.cell? ⟨w.heap.size, 0, none⟩ = some (.int .i64 3) ∧ w'.cell? ⟨w.heap.size, 1, none⟩ = some (.int .i64 d) ∧ w'.cell? ⟨w.heap.size, 2, none⟩ = some (.int .i64 n) ∧ w'.cell? ⟨w.heap.size, 3, none⟩ = some (.int .i64 t) ∧ w'.cell? ⟨w.heap.size, 4, none⟩ = some (.string b) ∧ w'.cell? ⟨w.heap.size, 5, none⟩ = some (.int .i64 er) ∧ w'.cell? ⟨w.heap.size, 6, none⟩ = some (.int .i64 s1) ∧ w'.cell? ⟨w.heap.size, 7, none⟩ = some (.int .i64 s2) ∧ w'.cell? ⟨w.heap.size, 8, none⟩ = some (.int .i64 s3) ∧ w'.cell? ⟨w.heap.size, 9, none⟩ = some (.int .i64 s4) ∧ w'.cell? ⟨w.heap.size, 10, none⟩ = some (.int .i64 s5) ∧ w'.cell? ⟨w.heap.size, 11, none⟩ = some (.int .i64 s6)))) (by kernel_rfl) (by kernel_rfl) (by kernel_rfl) (MK.out _ (by (repeat' (first | exact Below.refl _ _ | assumption | exact And.left (by assumption) | apply bel_alloc | apply Below.drew)))) ?_
        clear d1 hr
        repeat (first | (refine lexH_skip (by rfl) ?_; simp only [Act.put, List.setIfInBounds_toArray, List.set_cons_zero, List.set_cons_succ]) | (refine lexH_take (v := ?_) (by rfl) ?_ ?_; rotate_left; (focus (intro w hSw; (try dsimp only at hSw); go_simp; (try with_reducible rfl))); simp only [Act.put, List.setIfInBounds_toArray, List.set_cons_zero, List.set_cons_succ]) | (refine lexH_call (by rfl) (by rfl) (fun K hK => ?_); go_simp; (first | (go_at_call 72; with_reducible (refine (G.out _ (by (repeat' (first | exact Below.refl _ _ | assumption | exact And.left (by assumption) | apply bel_alloc | apply Below.drew)))).mono ?_); rintro e w2 ⟨rfl, hbn, hbm⟩)); (try go_wp2_with fail); refine hK.out _ _ (MK.out _ (by (repeat' (first | exact Below.refl _ _ | assumption | exact And.left (by assumption) | apply bel_alloc | apply Below.drew)))) (fun _ => ?_); clear hK; (try simp only [Act.put, List.setIfInBounds_toArray, List.set_cons_zero, List.set_cons_succ])))
        refine lexH_done ?_
        have d2 := fun w' h => (MK.out w' h).2
        have HI := Lib.hid fun w' => lInB c1 w'
        go_wp2_with fail
        refine (lIn _ _ _ _).mono ?_; rintro e w3 ⟨rfl, rfl⟩
        go_wp2_with fail
        refine (HI.out _).mono ?_; rintro e w4 ⟨rfl, rfl⟩
        go_wp2_with fail
        go_ret
        exact ⟨by rw [HG.out, c1, show inT er 1 13 = true by unfold inT; simp; omega]; first | rfl | (simp; omega), HB.out.up hbn⟩
      · go_enter Tryz.func44, Tryz.ntmps44
        go_upto_region 1 with fail
        rw [HW1.out]
        refine wp_region_lexH (S := (fun w' => Below w1.heap.size w1 w' ∧ (w'.cell? ⟨w.heap.size, 0, none⟩ = some (.int .i64 3) ∧ w'.cell? ⟨w.heap.size, 1, none⟩ = some (.int .i64 d) ∧ w'.cell? ⟨w.heap.size, 2, none⟩ = some (.int .i64 n) ∧ w'.cell? ⟨w.heap.size, 3, none⟩ = some (.int .i64 t) ∧ w'.cell? ⟨w.heap.size, 4, none⟩ = some (.string b) ∧ w'.cell? ⟨w.heap.size, 5, none⟩ = some (.int .i64 er) ∧ w'.cell? ⟨w.heap.size, 6, none⟩ = some (.int .i64 s1) ∧ w'.cell? ⟨w.heap.size, 7, none⟩ = some (.int .i64 s2) ∧ w'.cell? ⟨w.heap.size, 8, none⟩ = some (.int .i64 s3) ∧ w'.cell? ⟨w.heap.size, 9, none⟩ = some (.int .i64 s4) ∧ w'.cell? ⟨w.heap.size, 10, none⟩ = some (.int .i64 s5) ∧ w'.cell? ⟨w.heap.size, 11, none⟩ = some (.int .i64 s6)))) (by kernel_rfl) (by kernel_rfl) (by kernel_rfl) (MK.out _ (by (repeat' (first | exact Below.refl _ _ | assumption | exact And.left (by assumption) | apply bel_alloc | apply Below.drew)))) ?_
        clear d1 hr
        repeat (first | (refine lexH_skip (by rfl) ?_; simp only [Act.put, List.setIfInBounds_toArray, List.set_cons_zero, List.set_cons_succ]) | (refine lexH_take (v := ?_) (by rfl) ?_ ?_; rotate_left; (focus (intro w hSw; (try dsimp only at hSw); go_simp; (try with_reducible rfl))); simp only [Act.put, List.setIfInBounds_toArray, List.set_cons_zero, List.set_cons_succ]) | (refine lexH_call (by rfl) (by rfl) (fun K hK => ?_); go_simp; (first | (go_at_call 72; with_reducible (refine (G.out _ (by (repeat' (first | exact Below.refl _ _ | assumption | exact And.left (by assumption) | apply bel_alloc | apply Below.drew)))).mono ?_); rintro e w2 ⟨rfl, hbn, hbm⟩)); (try go_wp2_with fail); refine hK.out _ _ (MK.out _ (by (repeat' (first | exact Below.refl _ _ | assumption | exact And.left (by assumption) | apply bel_alloc | apply Below.drew)))) (fun _ => ?_); clear hK; (try simp only [Act.put, List.setIfInBounds_toArray, List.set_cons_zero, List.set_cons_succ])))
        refine lexH_done ?_
        have d2 := fun w' h => (MK.out w' h).2
        have HI := Lib.hid fun w' => lInB c1 w'
        go_wp2_with fail
        refine (lIn _ _ _ _).mono ?_; rintro e w3 ⟨rfl, rfl⟩
        go_wp2_with fail
        refine (HI.out _).mono ?_; rintro e w4 ⟨rfl, rfl⟩
        go_wp2_with fail
        go_ret
        exact ⟨by rw [HG.out, c1, show inT er 1 13 = false by unfold inT; simp; omega]; first | rfl | (simp; omega), HB.out.up hbn⟩
    · go_enter Tryz.func44, Tryz.ntmps44
      go_upto_region 1 with fail
      rw [HW1.out]
      refine wp_region_lexH (S := (fun w' => Below w1.heap.size w1 w' ∧ (w'.cell? ⟨w.heap.size, 0, none⟩ = some (.int .i64 3) ∧ w'.cell? ⟨w.heap.size, 1, none⟩ = some (.int .i64 d) ∧ w'.cell? ⟨w.heap.size, 2, none⟩ = some (.int .i64 n) ∧ w'.cell? ⟨w.heap.size, 3, none⟩ = some (.int .i64 t) ∧ w'.cell? ⟨w.heap.size, 4, none⟩ = some (.string b) ∧ w'.cell? ⟨w.heap.size, 5, none⟩ = some (.int .i64 er) ∧ w'.cell? ⟨w.heap.size, 6, none⟩ = some (.int .i64 s1) ∧ w'.cell? ⟨w.heap.size, 7, none⟩ = some (.int .i64 s2) ∧ w'.cell? ⟨w.heap.size, 8, none⟩ = some (.int .i64 s3) ∧ w'.cell? ⟨w.heap.size, 9, none⟩ = some (.int .i64 s4) ∧ w'.cell? ⟨w.heap.size, 10, none⟩ = some (.int .i64 s5) ∧ w'.cell? ⟨w.heap.size, 11, none⟩ = some (.int .i64 s6)))) (by kernel_rfl) (by kernel_rfl) (by kernel_rfl) (MK.out _ (by (repeat' (first | exact Below.refl _ _ | assumption | exact And.left (by assumption) | apply bel_alloc | apply Below.drew)))) ?_
      clear d1 hr
      repeat (first | (refine lexH_skip (by rfl) ?_; simp only [Act.put, List.setIfInBounds_toArray, List.set_cons_zero, List.set_cons_succ]) | (refine lexH_take (v := ?_) (by rfl) ?_ ?_; rotate_left; (focus (intro w hSw; (try dsimp only at hSw); go_simp; (try with_reducible rfl))); simp only [Act.put, List.setIfInBounds_toArray, List.set_cons_zero, List.set_cons_succ]) | (refine lexH_call (by rfl) (by rfl) (fun K hK => ?_); go_simp; (first | (go_at_call 72; with_reducible (refine (G.out _ (by (repeat' (first | exact Below.refl _ _ | assumption | exact And.left (by assumption) | apply bel_alloc | apply Below.drew)))).mono ?_); rintro e w2 ⟨rfl, hbn, hbm⟩)); (try go_wp2_with fail); refine hK.out _ _ (MK.out _ (by (repeat' (first | exact Below.refl _ _ | assumption | exact And.left (by assumption) | apply bel_alloc | apply Below.drew)))) (fun _ => ?_); clear hK; (try simp only [Act.put, List.setIfInBounds_toArray, List.set_cons_zero, List.set_cons_succ])))
      refine lexH_done ?_
      have d2 := fun w' h => (MK.out w' h).2
      have HI := Lib.hid fun w' => lInB c1 w'
      go_wp2_with fail
      refine (lIn _ _ _ _).mono ?_; rintro e w3 ⟨rfl, rfl⟩
      go_wp2_with fail
      refine (HI.out _).mono ?_; rintro e w4 ⟨rfl, rfl⟩
      go_wp2_with fail
      go_ret
      exact ⟨by rw [HG.out, c1, show inT er 1 13 = false by unfold inT; simp; omega]; first | rfl | (simp; omega), HB.out.up hbn⟩

set_option maxHeartbeats 4000000 in
set_option maxRecDepth 100000 in
theorem lGood4 (d n t : Int) (b : ByteArray) (er s1 s2 s3 s4 s5 s6 : Int) (w : World) (hs : b.size ≤ 1000000) (hx : (⟨4, d, n, t, b, er, s1, s2, s3, s4, s5, s6⟩ : Ev) = bareT ⟨4, d, n, t, b, er, s1, s2, s3, s4, s5, s6⟩) : Calls Tryz.prog 44 #[.agg (evC ⟨4, d, n, t, b, er, s1, s2, s3, s4, s5, s6⟩)] w fun e w' => e = .returned (.bool (goodT ⟨4, d, n, t, b, er, s1, s2, s3, s4, s5, s6⟩)) ∧ Below w.heap.size w w' := by
  obtain ⟨w1, hw1⟩ : ∃ w1, w.alloc (.cells (evC ⟨4, d, n, t, b, er, s1, s2, s3, s4, s5, s6⟩) 27) = w1 := ⟨_, rfl⟩
  have k1 : Blk w1 w.heap.size 27 (evC ⟨4, d, n, t, b, er, s1, s2, s3, s4, s5, s6⟩) := by rw [← hw1]; exact Blk.new _ _ _
  have hb : Below w.heap.size w w1 := by rw [← hw1]; exact (Below.refl _ _).alloc (Nat.le_refl _) _
  have HW1 := Lib.hid hw1
  have HB := Lib.hid hb
  have G0 := fun w' (h : Below w1.heap.size w1 w') => bel_call h (lBare ⟨4, d, n, t, b, er, s1, s2, s3, s4, s5, s6⟩ w' hs)
  rw [← hx] at G0
  have G := Lib.hid G0
  clear hw1 hb hs G0
  have d1 := k1.at12
  have hr := Below.refl w1.heap.size w1
  have MK : Hid (∀ w', Below w1.heap.size w1 w' → Below w1.heap.size w1 w' ∧ (w'.cell? ⟨w.heap.size, 0, none⟩ = some (.int .i64 4) ∧ w'.cell? ⟨w.heap.size, 1, none⟩ = some (.int .i64 d) ∧ w'.cell? ⟨w.heap.size, 2, none⟩ = some (.int .i64 n) ∧ w'.cell? ⟨w.heap.size, 3, none⟩ = some (.int .i64 t) ∧ w'.cell? ⟨w.heap.size, 4, none⟩ = some (.string b) ∧ w'.cell? ⟨w.heap.size, 5, none⟩ = some (.int .i64 er) ∧ w'.cell? ⟨w.heap.size, 6, none⟩ = some (.int .i64 s1) ∧ w'.cell? ⟨w.heap.size, 7, none⟩ = some (.int .i64 s2) ∧ w'.cell? ⟨w.heap.size, 8, none⟩ = some (.int .i64 s3) ∧ w'.cell? ⟨w.heap.size, 9, none⟩ = some (.int .i64 s4) ∧ w'.cell? ⟨w.heap.size, 10, none⟩ = some (.int .i64 s5) ∧ w'.cell? ⟨w.heap.size, 11, none⟩ = some (.int .i64 s6))) := Lib.hid fun w' h => ⟨h, (d1 w' h).1, (d1 w' h).2.1, (d1 w' h).2.2.1, (d1 w' h).2.2.2.1, (d1 w' h).2.2.2.2.1, (d1 w' h).2.2.2.2.2.1, (d1 w' h).2.2.2.2.2.2.1, (d1 w' h).2.2.2.2.2.2.2.1, (d1 w' h).2.2.2.2.2.2.2.2.1, (d1 w' h).2.2.2.2.2.2.2.2.2.1, (d1 w' h).2.2.2.2.2.2.2.2.2.2.1, (d1 w' h).2.2.2.2.2.2.2.2.2.2.2.1⟩
  clear k1
  simp only [evC] at *
  have HG := Lib.hid (show goodT ⟨4, d, n, t, b, er, s1, s2, s3, s4, s5, s6⟩ = (inT d 0 4095 && inT n 1 4096) by unfold goodT; rw [decide_eq_true hx]; rfl)
  clear hx
  cases c1 : inT d 0 4095
  · go_enter Tryz.func44, Tryz.ntmps44
    go_upto_region 1 with fail
    rw [HW1.out]
    refine wp_region_lexH (S := (fun w' => Below w1.heap.size w1 w' ∧ (w'.cell? ⟨w.heap.size, 0, none⟩ = some (.int .i64 4) ∧ w'.cell? ⟨w.heap.size, 1, none⟩ = some (.int .i64 d) ∧ w'.cell? ⟨w.heap.size, 2, none⟩ = some (.int .i64 n) ∧ w'.cell? ⟨w.heap.size, 3, none⟩ = some (.int .i64 t) ∧ w'.cell? ⟨w.heap.size, 4, none⟩ = some (.string b) ∧ w'.cell? ⟨w.heap.size, 5, none⟩ = some (.int .i64 er) ∧ w'.cell? ⟨w.heap.size, 6, none⟩ = some (.int .i64 s1) ∧ w'.cell? ⟨w.heap.size, 7, none⟩ = some (.int .i64 s2) ∧ w'.cell? ⟨w.heap.size, 8, none⟩ = some (.int .i64 s3) ∧ w'.cell? ⟨w.heap.size, 9, none⟩ = some (.int .i64 s4) ∧ w'.cell? ⟨w.heap.size, 10, none⟩ = some (.int .i64 s5) ∧ w'.cell? ⟨w.heap.size, 11, none⟩ = some (.int .i64 s6)))) (by kernel_rfl) (by kernel_rfl) (by kernel_rfl) (MK.out _ (by (repeat' (first | exact Below.refl _ _ | assumption | exact And.left (by assumption) | apply bel_alloc | apply Below.drew)))) ?_
    clear d1 hr
    repeat (first | (refine lexH_skip (by rfl) ?_; simp only [Act.put, List.setIfInBounds_toArray, List.set_cons_zero, List.set_cons_succ]) | (refine lexH_take (v := ?_) (by rfl) ?_ ?_; rotate_left; (focus (intro w hSw; (try dsimp only at hSw); go_simp; (try with_reducible rfl))); simp only [Act.put, List.setIfInBounds_toArray, List.set_cons_zero, List.set_cons_succ]) | (refine lexH_call (by rfl) (by rfl) (fun K hK => ?_); go_simp; (first | (go_at_call 72; with_reducible (refine (G.out _ (by (repeat' (first | exact Below.refl _ _ | assumption | exact And.left (by assumption) | apply bel_alloc | apply Below.drew)))).mono ?_); rintro e w2 ⟨rfl, hbn, hbm⟩)); (try go_wp2_with fail); refine hK.out _ _ (MK.out _ (by (repeat' (first | exact Below.refl _ _ | assumption | exact And.left (by assumption) | apply bel_alloc | apply Below.drew)))) (fun _ => ?_); clear hK; (try simp only [Act.put, List.setIfInBounds_toArray, List.set_cons_zero, List.set_cons_succ])))
    refine lexH_done ?_
    have d2 := fun w' h => (MK.out w' h).2
    have HI := Lib.hid fun w' => lInB c1 w'
    go_wp2_with fail
    refine (HI.out _).mono ?_; rintro e w3 ⟨rfl, rfl⟩
    go_wp2_with fail
    go_ret
    exact ⟨by rw [HG.out, c1]; rfl, HB.out.up hbn⟩
  · go_enter Tryz.func44, Tryz.ntmps44
    go_upto_region 1 with fail
    rw [HW1.out]
    refine wp_region_lexH (S := (fun w' => Below w1.heap.size w1 w' ∧ (w'.cell? ⟨w.heap.size, 0, none⟩ = some (.int .i64 4) ∧ w'.cell? ⟨w.heap.size, 1, none⟩ = some (.int .i64 d) ∧ w'.cell? ⟨w.heap.size, 2, none⟩ = some (.int .i64 n) ∧ w'.cell? ⟨w.heap.size, 3, none⟩ = some (.int .i64 t) ∧ w'.cell? ⟨w.heap.size, 4, none⟩ = some (.string b) ∧ w'.cell? ⟨w.heap.size, 5, none⟩ = some (.int .i64 er) ∧ w'.cell? ⟨w.heap.size, 6, none⟩ = some (.int .i64 s1) ∧ w'.cell? ⟨w.heap.size, 7, none⟩ = some (.int .i64 s2) ∧ w'.cell? ⟨w.heap.size, 8, none⟩ = some (.int .i64 s3) ∧ w'.cell? ⟨w.heap.size, 9, none⟩ = some (.int .i64 s4) ∧ w'.cell? ⟨w.heap.size, 10, none⟩ = some (.int .i64 s5) ∧ w'.cell? ⟨w.heap.size, 11, none⟩ = some (.int .i64 s6)))) (by kernel_rfl) (by kernel_rfl) (by kernel_rfl) (MK.out _ (by (repeat' (first | exact Below.refl _ _ | assumption | exact And.left (by assumption) | apply bel_alloc | apply Below.drew)))) ?_
    clear d1 hr
    repeat (first | (refine lexH_skip (by rfl) ?_; simp only [Act.put, List.setIfInBounds_toArray, List.set_cons_zero, List.set_cons_succ]) | (refine lexH_take (v := ?_) (by rfl) ?_ ?_; rotate_left; (focus (intro w hSw; (try dsimp only at hSw); go_simp; (try with_reducible rfl))); simp only [Act.put, List.setIfInBounds_toArray, List.set_cons_zero, List.set_cons_succ]) | (refine lexH_call (by rfl) (by rfl) (fun K hK => ?_); go_simp; (first | (go_at_call 72; with_reducible (refine (G.out _ (by (repeat' (first | exact Below.refl _ _ | assumption | exact And.left (by assumption) | apply bel_alloc | apply Below.drew)))).mono ?_); rintro e w2 ⟨rfl, hbn, hbm⟩)); (try go_wp2_with fail); refine hK.out _ _ (MK.out _ (by (repeat' (first | exact Below.refl _ _ | assumption | exact And.left (by assumption) | apply bel_alloc | apply Below.drew)))) (fun _ => ?_); clear hK; (try simp only [Act.put, List.setIfInBounds_toArray, List.set_cons_zero, List.set_cons_succ])))
    refine lexH_done ?_
    have d2 := fun w' h => (MK.out w' h).2
    have HI := Lib.hid fun w' => lInB c1 w'
    go_wp2_with fail
    refine (HI.out _).mono ?_; rintro e w3 ⟨rfl, rfl⟩
    go_wp2_with fail
    refine (lIn _ _ _ _).mono ?_; rintro e w4 ⟨rfl, rfl⟩
    go_wp2_with fail
    go_ret
    exact ⟨by rw [HG.out, c1]; rfl, HB.out.up hbn⟩

set_option maxHeartbeats 4000000 in
set_option maxRecDepth 100000 in
theorem lGood6 (d n t : Int) (b : ByteArray) (er s1 s2 s3 s4 s5 s6 : Int) (w : World) (hs : b.size ≤ 1000000) (hx : (⟨6, d, n, t, b, er, s1, s2, s3, s4, s5, s6⟩ : Ev) = bareT ⟨6, d, n, t, b, er, s1, s2, s3, s4, s5, s6⟩) : Calls Tryz.prog 44 #[.agg (evC ⟨6, d, n, t, b, er, s1, s2, s3, s4, s5, s6⟩)] w fun e w' => e = .returned (.bool (goodT ⟨6, d, n, t, b, er, s1, s2, s3, s4, s5, s6⟩)) ∧ Below w.heap.size w w' := by
  obtain ⟨w1, hw1⟩ : ∃ w1, w.alloc (.cells (evC ⟨6, d, n, t, b, er, s1, s2, s3, s4, s5, s6⟩) 27) = w1 := ⟨_, rfl⟩
  have k1 : Blk w1 w.heap.size 27 (evC ⟨6, d, n, t, b, er, s1, s2, s3, s4, s5, s6⟩) := by rw [← hw1]; exact Blk.new _ _ _
  have hb : Below w.heap.size w w1 := by rw [← hw1]; exact (Below.refl _ _).alloc (Nat.le_refl _) _
  have HW1 := Lib.hid hw1
  have HB := Lib.hid hb
  have G0 := fun w' (h : Below w1.heap.size w1 w') => bel_call h (lBare ⟨6, d, n, t, b, er, s1, s2, s3, s4, s5, s6⟩ w' hs)
  rw [← hx] at G0
  have G := Lib.hid G0
  clear hw1 hb hs G0
  have d1 := k1.at12
  have hr := Below.refl w1.heap.size w1
  have MK : Hid (∀ w', Below w1.heap.size w1 w' → Below w1.heap.size w1 w' ∧ (w'.cell? ⟨w.heap.size, 0, none⟩ = some (.int .i64 6) ∧ w'.cell? ⟨w.heap.size, 1, none⟩ = some (.int .i64 d) ∧ w'.cell? ⟨w.heap.size, 2, none⟩ = some (.int .i64 n) ∧ w'.cell? ⟨w.heap.size, 3, none⟩ = some (.int .i64 t) ∧ w'.cell? ⟨w.heap.size, 4, none⟩ = some (.string b) ∧ w'.cell? ⟨w.heap.size, 5, none⟩ = some (.int .i64 er) ∧ w'.cell? ⟨w.heap.size, 6, none⟩ = some (.int .i64 s1) ∧ w'.cell? ⟨w.heap.size, 7, none⟩ = some (.int .i64 s2) ∧ w'.cell? ⟨w.heap.size, 8, none⟩ = some (.int .i64 s3) ∧ w'.cell? ⟨w.heap.size, 9, none⟩ = some (.int .i64 s4) ∧ w'.cell? ⟨w.heap.size, 10, none⟩ = some (.int .i64 s5) ∧ w'.cell? ⟨w.heap.size, 11, none⟩ = some (.int .i64 s6))) := Lib.hid fun w' h => ⟨h, (d1 w' h).1, (d1 w' h).2.1, (d1 w' h).2.2.1, (d1 w' h).2.2.2.1, (d1 w' h).2.2.2.2.1, (d1 w' h).2.2.2.2.2.1, (d1 w' h).2.2.2.2.2.2.1, (d1 w' h).2.2.2.2.2.2.2.1, (d1 w' h).2.2.2.2.2.2.2.2.1, (d1 w' h).2.2.2.2.2.2.2.2.2.1, (d1 w' h).2.2.2.2.2.2.2.2.2.2.1, (d1 w' h).2.2.2.2.2.2.2.2.2.2.2.1⟩
  clear k1
  simp only [evC] at *
  have HG := Lib.hid (show goodT ⟨6, d, n, t, b, er, s1, s2, s3, s4, s5, s6⟩ = (inT d 0 4095 && inT n 1 4096) by unfold goodT; rw [decide_eq_true hx]; rfl)
  clear hx
  cases c1 : inT d 0 4095
  · go_enter Tryz.func44, Tryz.ntmps44
    go_upto_region 1 with fail
    rw [HW1.out]
    refine wp_region_lexH (S := (fun w' => Below w1.heap.size w1 w' ∧ (w'.cell? ⟨w.heap.size, 0, none⟩ = some (.int .i64 6) ∧ w'.cell? ⟨w.heap.size, 1, none⟩ = some (.int .i64 d) ∧ w'.cell? ⟨w.heap.size, 2, none⟩ = some (.int .i64 n) ∧ w'.cell? ⟨w.heap.size, 3, none⟩ = some (.int .i64 t) ∧ w'.cell? ⟨w.heap.size, 4, none⟩ = some (.string b) ∧ w'.cell? ⟨w.heap.size, 5, none⟩ = some (.int .i64 er) ∧ w'.cell? ⟨w.heap.size, 6, none⟩ = some (.int .i64 s1) ∧ w'.cell? ⟨w.heap.size, 7, none⟩ = some (.int .i64 s2) ∧ w'.cell? ⟨w.heap.size, 8, none⟩ = some (.int .i64 s3) ∧ w'.cell? ⟨w.heap.size, 9, none⟩ = some (.int .i64 s4) ∧ w'.cell? ⟨w.heap.size, 10, none⟩ = some (.int .i64 s5) ∧ w'.cell? ⟨w.heap.size, 11, none⟩ = some (.int .i64 s6)))) (by kernel_rfl) (by kernel_rfl) (by kernel_rfl) (MK.out _ (by (repeat' (first | exact Below.refl _ _ | assumption | exact And.left (by assumption) | apply bel_alloc | apply Below.drew)))) ?_
    clear d1 hr
    repeat (first | (refine lexH_skip (by rfl) ?_; simp only [Act.put, List.setIfInBounds_toArray, List.set_cons_zero, List.set_cons_succ]) | (refine lexH_take (v := ?_) (by rfl) ?_ ?_; rotate_left; (focus (intro w hSw; (try dsimp only at hSw); go_simp; (try with_reducible rfl))); simp only [Act.put, List.setIfInBounds_toArray, List.set_cons_zero, List.set_cons_succ]) | (refine lexH_call (by rfl) (by rfl) (fun K hK => ?_); go_simp; (first | (go_at_call 72; with_reducible (refine (G.out _ (by (repeat' (first | exact Below.refl _ _ | assumption | exact And.left (by assumption) | apply bel_alloc | apply Below.drew)))).mono ?_); rintro e w2 ⟨rfl, hbn, hbm⟩)); (try go_wp2_with fail); refine hK.out _ _ (MK.out _ (by (repeat' (first | exact Below.refl _ _ | assumption | exact And.left (by assumption) | apply bel_alloc | apply Below.drew)))) (fun _ => ?_); clear hK; (try simp only [Act.put, List.setIfInBounds_toArray, List.set_cons_zero, List.set_cons_succ])))
    refine lexH_done ?_
    have d2 := fun w' h => (MK.out w' h).2
    have HI := Lib.hid fun w' => lInB c1 w'
    go_wp2_with fail
    refine (HI.out _).mono ?_; rintro e w3 ⟨rfl, rfl⟩
    go_wp2_with fail
    go_ret
    exact ⟨by rw [HG.out, c1]; rfl, HB.out.up hbn⟩
  · go_enter Tryz.func44, Tryz.ntmps44
    go_upto_region 1 with fail
    rw [HW1.out]
    refine wp_region_lexH (S := (fun w' => Below w1.heap.size w1 w' ∧ (w'.cell? ⟨w.heap.size, 0, none⟩ = some (.int .i64 6) ∧ w'.cell? ⟨w.heap.size, 1, none⟩ = some (.int .i64 d) ∧ w'.cell? ⟨w.heap.size, 2, none⟩ = some (.int .i64 n) ∧ w'.cell? ⟨w.heap.size, 3, none⟩ = some (.int .i64 t) ∧ w'.cell? ⟨w.heap.size, 4, none⟩ = some (.string b) ∧ w'.cell? ⟨w.heap.size, 5, none⟩ = some (.int .i64 er) ∧ w'.cell? ⟨w.heap.size, 6, none⟩ = some (.int .i64 s1) ∧ w'.cell? ⟨w.heap.size, 7, none⟩ = some (.int .i64 s2) ∧ w'.cell? ⟨w.heap.size, 8, none⟩ = some (.int .i64 s3) ∧ w'.cell? ⟨w.heap.size, 9, none⟩ = some (.int .i64 s4) ∧ w'.cell? ⟨w.heap.size, 10, none⟩ = some (.int .i64 s5) ∧ w'.cell? ⟨w.heap.size, 11, none⟩ = some (.int .i64 s6)))) (by kernel_rfl) (by kernel_rfl) (by kernel_rfl) (MK.out _ (by (repeat' (first | exact Below.refl _ _ | assumption | exact And.left (by assumption) | apply bel_alloc | apply Below.drew)))) ?_
    clear d1 hr
    repeat (first | (refine lexH_skip (by rfl) ?_; simp only [Act.put, List.setIfInBounds_toArray, List.set_cons_zero, List.set_cons_succ]) | (refine lexH_take (v := ?_) (by rfl) ?_ ?_; rotate_left; (focus (intro w hSw; (try dsimp only at hSw); go_simp; (try with_reducible rfl))); simp only [Act.put, List.setIfInBounds_toArray, List.set_cons_zero, List.set_cons_succ]) | (refine lexH_call (by rfl) (by rfl) (fun K hK => ?_); go_simp; (first | (go_at_call 72; with_reducible (refine (G.out _ (by (repeat' (first | exact Below.refl _ _ | assumption | exact And.left (by assumption) | apply bel_alloc | apply Below.drew)))).mono ?_); rintro e w2 ⟨rfl, hbn, hbm⟩)); (try go_wp2_with fail); refine hK.out _ _ (MK.out _ (by (repeat' (first | exact Below.refl _ _ | assumption | exact And.left (by assumption) | apply bel_alloc | apply Below.drew)))) (fun _ => ?_); clear hK; (try simp only [Act.put, List.setIfInBounds_toArray, List.set_cons_zero, List.set_cons_succ])))
    refine lexH_done ?_
    have d2 := fun w' h => (MK.out w' h).2
    have HI := Lib.hid fun w' => lInB c1 w'
    go_wp2_with fail
    refine (HI.out _).mono ?_; rintro e w3 ⟨rfl, rfl⟩
    go_wp2_with fail
    refine (lIn _ _ _ _).mono ?_; rintro e w4 ⟨rfl, rfl⟩
    go_wp2_with fail
    go_ret
    exact ⟨by rw [HG.out, c1]; rfl, HB.out.up hbn⟩

set_option maxHeartbeats 4000000 in
set_option maxRecDepth 100000 in
theorem lGood8 (d n t : Int) (b : ByteArray) (er s1 s2 s3 s4 s5 s6 : Int) (w : World) (hs : b.size ≤ 1000000) (hx : (⟨8, d, n, t, b, er, s1, s2, s3, s4, s5, s6⟩ : Ev) = bareT ⟨8, d, n, t, b, er, s1, s2, s3, s4, s5, s6⟩) : Calls Tryz.prog 44 #[.agg (evC ⟨8, d, n, t, b, er, s1, s2, s3, s4, s5, s6⟩)] w fun e w' => e = .returned (.bool (goodT ⟨8, d, n, t, b, er, s1, s2, s3, s4, s5, s6⟩)) ∧ Below w.heap.size w w' := by
  obtain ⟨w1, hw1⟩ : ∃ w1, w.alloc (.cells (evC ⟨8, d, n, t, b, er, s1, s2, s3, s4, s5, s6⟩) 27) = w1 := ⟨_, rfl⟩
  have k1 : Blk w1 w.heap.size 27 (evC ⟨8, d, n, t, b, er, s1, s2, s3, s4, s5, s6⟩) := by rw [← hw1]; exact Blk.new _ _ _
  have hb : Below w.heap.size w w1 := by rw [← hw1]; exact (Below.refl _ _).alloc (Nat.le_refl _) _
  have HW1 := Lib.hid hw1
  have HB := Lib.hid hb
  have G0 := fun w' (h : Below w1.heap.size w1 w') => bel_call h (lBare ⟨8, d, n, t, b, er, s1, s2, s3, s4, s5, s6⟩ w' hs)
  rw [← hx] at G0
  have G := Lib.hid G0
  clear hw1 hb hs G0
  have d1 := k1.at12
  have hr := Below.refl w1.heap.size w1
  have MK : Hid (∀ w', Below w1.heap.size w1 w' → Below w1.heap.size w1 w' ∧ (w'.cell? ⟨w.heap.size, 0, none⟩ = some (.int .i64 8) ∧ w'.cell? ⟨w.heap.size, 1, none⟩ = some (.int .i64 d) ∧ w'.cell? ⟨w.heap.size, 2, none⟩ = some (.int .i64 n) ∧ w'.cell? ⟨w.heap.size, 3, none⟩ = some (.int .i64 t) ∧ w'.cell? ⟨w.heap.size, 4, none⟩ = some (.string b) ∧ w'.cell? ⟨w.heap.size, 5, none⟩ = some (.int .i64 er) ∧ w'.cell? ⟨w.heap.size, 6, none⟩ = some (.int .i64 s1) ∧ w'.cell? ⟨w.heap.size, 7, none⟩ = some (.int .i64 s2) ∧ w'.cell? ⟨w.heap.size, 8, none⟩ = some (.int .i64 s3) ∧ w'.cell? ⟨w.heap.size, 9, none⟩ = some (.int .i64 s4) ∧ w'.cell? ⟨w.heap.size, 10, none⟩ = some (.int .i64 s5) ∧ w'.cell? ⟨w.heap.size, 11, none⟩ = some (.int .i64 s6))) := Lib.hid fun w' h => ⟨h, (d1 w' h).1, (d1 w' h).2.1, (d1 w' h).2.2.1, (d1 w' h).2.2.2.1, (d1 w' h).2.2.2.2.1, (d1 w' h).2.2.2.2.2.1, (d1 w' h).2.2.2.2.2.2.1, (d1 w' h).2.2.2.2.2.2.2.1, (d1 w' h).2.2.2.2.2.2.2.2.1, (d1 w' h).2.2.2.2.2.2.2.2.2.1, (d1 w' h).2.2.2.2.2.2.2.2.2.2.1, (d1 w' h).2.2.2.2.2.2.2.2.2.2.2.1⟩
  clear k1
  simp only [evC] at *
  have HG := Lib.hid (show goodT ⟨8, d, n, t, b, er, s1, s2, s3, s4, s5, s6⟩ = (inT d 0 4095 && stepT ⟨8, d, n, t, b, er, s1, s2, s3, s4, s5, s6⟩) by unfold goodT; rw [decide_eq_true hx]; rfl)
  clear hx
  cases c1 : inT d 0 4095
  · go_enter Tryz.func44, Tryz.ntmps44
    go_upto_region 1 with fail
    rw [HW1.out]
    refine wp_region_lexH (S := (fun w' => Below w1.heap.size w1 w' ∧ (w'.cell? ⟨w.heap.size, 0, none⟩ = some (.int .i64 8) ∧ w'.cell? ⟨w.heap.size, 1, none⟩ = some (.int .i64 d) ∧ w'.cell? ⟨w.heap.size, 2, none⟩ = some (.int .i64 n) ∧ w'.cell? ⟨w.heap.size, 3, none⟩ = some (.int .i64 t) ∧ w'.cell? ⟨w.heap.size, 4, none⟩ = some (.string b) ∧ w'.cell? ⟨w.heap.size, 5, none⟩ = some (.int .i64 er) ∧ w'.cell? ⟨w.heap.size, 6, none⟩ = some (.int .i64 s1) ∧ w'.cell? ⟨w.heap.size, 7, none⟩ = some (.int .i64 s2) ∧ w'.cell? ⟨w.heap.size, 8, none⟩ = some (.int .i64 s3) ∧ w'.cell? ⟨w.heap.size, 9, none⟩ = some (.int .i64 s4) ∧ w'.cell? ⟨w.heap.size, 10, none⟩ = some (.int .i64 s5) ∧ w'.cell? ⟨w.heap.size, 11, none⟩ = some (.int .i64 s6)))) (by kernel_rfl) (by kernel_rfl) (by kernel_rfl) (MK.out _ (by (repeat' (first | exact Below.refl _ _ | assumption | exact And.left (by assumption) | apply bel_alloc | apply Below.drew)))) ?_
    clear d1 hr
    repeat (first | (refine lexH_skip (by rfl) ?_; simp only [Act.put, List.setIfInBounds_toArray, List.set_cons_zero, List.set_cons_succ]) | (refine lexH_take (v := ?_) (by rfl) ?_ ?_; rotate_left; (focus (intro w hSw; (try dsimp only at hSw); go_simp; (try with_reducible rfl))); simp only [Act.put, List.setIfInBounds_toArray, List.set_cons_zero, List.set_cons_succ]) | (refine lexH_call (by rfl) (by rfl) (fun K hK => ?_); go_simp; (first | (go_at_call 72; with_reducible (refine (G.out _ (by (repeat' (first | exact Below.refl _ _ | assumption | exact And.left (by assumption) | apply bel_alloc | apply Below.drew)))).mono ?_); rintro e w2 ⟨rfl, hbn, hbm⟩)); (try go_wp2_with fail); refine hK.out _ _ (MK.out _ (by (repeat' (first | exact Below.refl _ _ | assumption | exact And.left (by assumption) | apply bel_alloc | apply Below.drew)))) (fun _ => ?_); clear hK; (try simp only [Act.put, List.setIfInBounds_toArray, List.set_cons_zero, List.set_cons_succ])))
    refine lexH_done ?_
    have d2 := fun w' h => (MK.out w' h).2
    have HI := Lib.hid fun w' => lInB c1 w'
    go_wp2_with fail
    refine (HI.out _).mono ?_; rintro e w3 ⟨rfl, rfl⟩
    go_wp2_with fail
    go_ret
    exact ⟨by rw [HG.out, c1]; rfl, HB.out.up hbn⟩
  · go_enter Tryz.func44, Tryz.ntmps44
    go_upto_region 1 with fail
    rw [HW1.out]
    refine wp_region_lexH (S := (fun w' => Below w1.heap.size w1 w' ∧ (w'.cell? ⟨w.heap.size, 0, none⟩ = some (.int .i64 8) ∧ w'.cell? ⟨w.heap.size, 1, none⟩ = some (.int .i64 d) ∧ w'.cell? ⟨w.heap.size, 2, none⟩ = some (.int .i64 n) ∧ w'.cell? ⟨w.heap.size, 3, none⟩ = some (.int .i64 t) ∧ w'.cell? ⟨w.heap.size, 4, none⟩ = some (.string b) ∧ w'.cell? ⟨w.heap.size, 5, none⟩ = some (.int .i64 er) ∧ w'.cell? ⟨w.heap.size, 6, none⟩ = some (.int .i64 s1) ∧ w'.cell? ⟨w.heap.size, 7, none⟩ = some (.int .i64 s2) ∧ w'.cell? ⟨w.heap.size, 8, none⟩ = some (.int .i64 s3) ∧ w'.cell? ⟨w.heap.size, 9, none⟩ = some (.int .i64 s4) ∧ w'.cell? ⟨w.heap.size, 10, none⟩ = some (.int .i64 s5) ∧ w'.cell? ⟨w.heap.size, 11, none⟩ = some (.int .i64 s6)))) (by kernel_rfl) (by kernel_rfl) (by kernel_rfl) (MK.out _ (by (repeat' (first | exact Below.refl _ _ | assumption | exact And.left (by assumption) | apply bel_alloc | apply Below.drew)))) ?_
    clear d1 hr
    repeat (first | (refine lexH_skip (by rfl) ?_; simp only [Act.put, List.setIfInBounds_toArray, List.set_cons_zero, List.set_cons_succ]) | (refine lexH_take (v := ?_) (by rfl) ?_ ?_; rotate_left; (focus (intro w hSw; (try dsimp only at hSw); go_simp; (try with_reducible rfl))); simp only [Act.put, List.setIfInBounds_toArray, List.set_cons_zero, List.set_cons_succ]) | (refine lexH_call (by rfl) (by rfl) (fun K hK => ?_); go_simp; (first | (go_at_call 72; with_reducible (refine (G.out _ (by (repeat' (first | exact Below.refl _ _ | assumption | exact And.left (by assumption) | apply bel_alloc | apply Below.drew)))).mono ?_); rintro e w2 ⟨rfl, hbn, hbm⟩)); (try go_wp2_with fail); refine hK.out _ _ (MK.out _ (by (repeat' (first | exact Below.refl _ _ | assumption | exact And.left (by assumption) | apply bel_alloc | apply Below.drew)))) (fun _ => ?_); clear hK; (try simp only [Act.put, List.setIfInBounds_toArray, List.set_cons_zero, List.set_cons_succ])))
    refine lexH_done ?_
    have d2 := fun w' h => (MK.out w' h).2
    have HI := Lib.hid fun w' => lInB c1 w'
    have HS := Lib.hid fun w' => lStep ⟨8, d, n, t, b, er, s1, s2, s3, s4, s5, s6⟩ w'
    simp only [stC] at HS
    go_wp2_with fail
    refine (HI.out _).mono ?_; rintro e w3 ⟨rfl, rfl⟩
    go_wp2_with fail
    refine (HS.out _).mono ?_; rintro e w4 ⟨rfl, hb4⟩
    go_wp2_with fail
    go_ret
    exact ⟨by rw [HG.out, c1]; rfl, HB.out.up (hbn.up hb4)⟩

set_option maxHeartbeats 4000000 in
set_option maxRecDepth 100000 in
theorem lGood5 (d n t : Int) (b : ByteArray) (er s1 s2 s3 s4 s5 s6 : Int) (w : World) (hs : b.size ≤ 1000000) (hx : (⟨5, d, n, t, b, er, s1, s2, s3, s4, s5, s6⟩ : Ev) = bareT ⟨5, d, n, t, b, er, s1, s2, s3, s4, s5, s6⟩) : Calls Tryz.prog 44 #[.agg (evC ⟨5, d, n, t, b, er, s1, s2, s3, s4, s5, s6⟩)] w fun e w' => e = .returned (.bool (goodT ⟨5, d, n, t, b, er, s1, s2, s3, s4, s5, s6⟩)) ∧ Below w.heap.size w w' := by
  obtain ⟨w1, hw1⟩ : ∃ w1, w.alloc (.cells (evC ⟨5, d, n, t, b, er, s1, s2, s3, s4, s5, s6⟩) 27) = w1 := ⟨_, rfl⟩
  have k1 : Blk w1 w.heap.size 27 (evC ⟨5, d, n, t, b, er, s1, s2, s3, s4, s5, s6⟩) := by rw [← hw1]; exact Blk.new _ _ _
  have hb : Below w.heap.size w w1 := by rw [← hw1]; exact (Below.refl _ _).alloc (Nat.le_refl _) _
  have HW1 := Lib.hid hw1
  have HB := Lib.hid hb
  have G0 := fun w' (h : Below w1.heap.size w1 w') => bel_call h (lBare ⟨5, d, n, t, b, er, s1, s2, s3, s4, s5, s6⟩ w' hs)
  rw [← hx] at G0
  have G := Lib.hid G0
  clear hw1 hb hs G0
  have d1 := k1.at12
  have hr := Below.refl w1.heap.size w1
  have MK : Hid (∀ w', Below w1.heap.size w1 w' → Below w1.heap.size w1 w' ∧ (w'.cell? ⟨w.heap.size, 0, none⟩ = some (.int .i64 5) ∧ w'.cell? ⟨w.heap.size, 1, none⟩ = some (.int .i64 d) ∧ w'.cell? ⟨w.heap.size, 2, none⟩ = some (.int .i64 n) ∧ w'.cell? ⟨w.heap.size, 3, none⟩ = some (.int .i64 t) ∧ w'.cell? ⟨w.heap.size, 4, none⟩ = some (.string b) ∧ w'.cell? ⟨w.heap.size, 5, none⟩ = some (.int .i64 er) ∧ w'.cell? ⟨w.heap.size, 6, none⟩ = some (.int .i64 s1) ∧ w'.cell? ⟨w.heap.size, 7, none⟩ = some (.int .i64 s2) ∧ w'.cell? ⟨w.heap.size, 8, none⟩ = some (.int .i64 s3) ∧ w'.cell? ⟨w.heap.size, 9, none⟩ = some (.int .i64 s4) ∧ w'.cell? ⟨w.heap.size, 10, none⟩ = some (.int .i64 s5) ∧ w'.cell? ⟨w.heap.size, 11, none⟩ = some (.int .i64 s6))) := Lib.hid fun w' h => ⟨h, (d1 w' h).1, (d1 w' h).2.1, (d1 w' h).2.2.1, (d1 w' h).2.2.2.1, (d1 w' h).2.2.2.2.1, (d1 w' h).2.2.2.2.2.1, (d1 w' h).2.2.2.2.2.2.1, (d1 w' h).2.2.2.2.2.2.2.1, (d1 w' h).2.2.2.2.2.2.2.2.1, (d1 w' h).2.2.2.2.2.2.2.2.2.1, (d1 w' h).2.2.2.2.2.2.2.2.2.2.1, (d1 w' h).2.2.2.2.2.2.2.2.2.2.2.1⟩
  clear k1
  simp only [evC] at *
  have HG := Lib.hid (show goodT ⟨5, d, n, t, b, er, s1, s2, s3, s4, s5, s6⟩ = inT d 0 4095 by unfold goodT; rw [decide_eq_true hx]; rfl)
  clear hx
  go_enter Tryz.func44, Tryz.ntmps44
  go_upto_region 1 with fail
  rw [HW1.out]
  refine wp_region_lexH (S := (fun w' => Below w1.heap.size w1 w' ∧ (w'.cell? ⟨w.heap.size, 0, none⟩ = some (.int .i64 5) ∧ w'.cell? ⟨w.heap.size, 1, none⟩ = some (.int .i64 d) ∧ w'.cell? ⟨w.heap.size, 2, none⟩ = some (.int .i64 n) ∧ w'.cell? ⟨w.heap.size, 3, none⟩ = some (.int .i64 t) ∧ w'.cell? ⟨w.heap.size, 4, none⟩ = some (.string b) ∧ w'.cell? ⟨w.heap.size, 5, none⟩ = some (.int .i64 er) ∧ w'.cell? ⟨w.heap.size, 6, none⟩ = some (.int .i64 s1) ∧ w'.cell? ⟨w.heap.size, 7, none⟩ = some (.int .i64 s2) ∧ w'.cell? ⟨w.heap.size, 8, none⟩ = some (.int .i64 s3) ∧ w'.cell? ⟨w.heap.size, 9, none⟩ = some (.int .i64 s4) ∧ w'.cell? ⟨w.heap.size, 10, none⟩ = some (.int .i64 s5) ∧ w'.cell? ⟨w.heap.size, 11, none⟩ = some (.int .i64 s6)))) (by kernel_rfl) (by kernel_rfl) (by kernel_rfl) (MK.out _ (by (repeat' (first | exact Below.refl _ _ | assumption | exact And.left (by assumption) | apply bel_alloc | apply Below.drew)))) ?_
  clear d1 hr
  repeat (first | (refine lexH_skip (by rfl) ?_; simp only [Act.put, List.setIfInBounds_toArray, List.set_cons_zero, List.set_cons_succ]) | (refine lexH_take (v := ?_) (by rfl) ?_ ?_; rotate_left; (focus (intro w hSw; (try dsimp only at hSw); go_simp; (try with_reducible rfl))); simp only [Act.put, List.setIfInBounds_toArray, List.set_cons_zero, List.set_cons_succ]) | (refine lexH_call (by rfl) (by rfl) (fun K hK => ?_); go_simp; (first | (go_at_call 72; with_reducible (refine (G.out _ (by (repeat' (first | exact Below.refl _ _ | assumption | exact And.left (by assumption) | apply bel_alloc | apply Below.drew)))).mono ?_); rintro e w2 ⟨rfl, hbn, hbm⟩)); (try go_wp2_with fail); refine hK.out _ _ (MK.out _ (by (repeat' (first | exact Below.refl _ _ | assumption | exact And.left (by assumption) | apply bel_alloc | apply Below.drew)))) (fun _ => ?_); clear hK; (try simp only [Act.put, List.setIfInBounds_toArray, List.set_cons_zero, List.set_cons_succ])))
  refine lexH_done ?_
  have d2 := fun w' h => (MK.out w' h).2
  go_wp2_with fail
  refine (lIn _ _ _ _).mono ?_; rintro e w3 ⟨rfl, rfl⟩
  go_wp2_with fail
  go_ret
  exact ⟨by rw [HG.out]; rfl, HB.out.up hbn⟩

set_option maxHeartbeats 4000000 in
set_option maxRecDepth 100000 in
theorem lGood9 (d n t : Int) (b : ByteArray) (er s1 s2 s3 s4 s5 s6 : Int) (w : World) (hs : b.size ≤ 1000000) (hx : (⟨9, d, n, t, b, er, s1, s2, s3, s4, s5, s6⟩ : Ev) = bareT ⟨9, d, n, t, b, er, s1, s2, s3, s4, s5, s6⟩) : Calls Tryz.prog 44 #[.agg (evC ⟨9, d, n, t, b, er, s1, s2, s3, s4, s5, s6⟩)] w fun e w' => e = .returned (.bool (goodT ⟨9, d, n, t, b, er, s1, s2, s3, s4, s5, s6⟩)) ∧ Below w.heap.size w w' := by
  obtain ⟨w1, hw1⟩ : ∃ w1, w.alloc (.cells (evC ⟨9, d, n, t, b, er, s1, s2, s3, s4, s5, s6⟩) 27) = w1 := ⟨_, rfl⟩
  have k1 : Blk w1 w.heap.size 27 (evC ⟨9, d, n, t, b, er, s1, s2, s3, s4, s5, s6⟩) := by rw [← hw1]; exact Blk.new _ _ _
  have hb : Below w.heap.size w w1 := by rw [← hw1]; exact (Below.refl _ _).alloc (Nat.le_refl _) _
  have HW1 := Lib.hid hw1
  have HB := Lib.hid hb
  have G0 := fun w' (h : Below w1.heap.size w1 w') => bel_call h (lBare ⟨9, d, n, t, b, er, s1, s2, s3, s4, s5, s6⟩ w' hs)
  rw [← hx] at G0
  have G := Lib.hid G0
  clear hw1 hb hs G0
  have d1 := k1.at12
  have hr := Below.refl w1.heap.size w1
  have MK : Hid (∀ w', Below w1.heap.size w1 w' → Below w1.heap.size w1 w' ∧ (w'.cell? ⟨w.heap.size, 0, none⟩ = some (.int .i64 9) ∧ w'.cell? ⟨w.heap.size, 1, none⟩ = some (.int .i64 d) ∧ w'.cell? ⟨w.heap.size, 2, none⟩ = some (.int .i64 n) ∧ w'.cell? ⟨w.heap.size, 3, none⟩ = some (.int .i64 t) ∧ w'.cell? ⟨w.heap.size, 4, none⟩ = some (.string b) ∧ w'.cell? ⟨w.heap.size, 5, none⟩ = some (.int .i64 er) ∧ w'.cell? ⟨w.heap.size, 6, none⟩ = some (.int .i64 s1) ∧ w'.cell? ⟨w.heap.size, 7, none⟩ = some (.int .i64 s2) ∧ w'.cell? ⟨w.heap.size, 8, none⟩ = some (.int .i64 s3) ∧ w'.cell? ⟨w.heap.size, 9, none⟩ = some (.int .i64 s4) ∧ w'.cell? ⟨w.heap.size, 10, none⟩ = some (.int .i64 s5) ∧ w'.cell? ⟨w.heap.size, 11, none⟩ = some (.int .i64 s6))) := Lib.hid fun w' h => ⟨h, (d1 w' h).1, (d1 w' h).2.1, (d1 w' h).2.2.1, (d1 w' h).2.2.2.1, (d1 w' h).2.2.2.2.1, (d1 w' h).2.2.2.2.2.1, (d1 w' h).2.2.2.2.2.2.1, (d1 w' h).2.2.2.2.2.2.2.1, (d1 w' h).2.2.2.2.2.2.2.2.1, (d1 w' h).2.2.2.2.2.2.2.2.2.1, (d1 w' h).2.2.2.2.2.2.2.2.2.2.1, (d1 w' h).2.2.2.2.2.2.2.2.2.2.2.1⟩
  clear k1
  simp only [evC] at *
  have HG := Lib.hid (show goodT ⟨9, d, n, t, b, er, s1, s2, s3, s4, s5, s6⟩ = inT d 0 4095 by unfold goodT; rw [decide_eq_true hx]; rfl)
  clear hx
  go_enter Tryz.func44, Tryz.ntmps44
  go_upto_region 1 with fail
  rw [HW1.out]
  refine wp_region_lexH (S := (fun w' => Below w1.heap.size w1 w' ∧ (w'.cell? ⟨w.heap.size, 0, none⟩ = some (.int .i64 9) ∧ w'.cell? ⟨w.heap.size, 1, none⟩ = some (.int .i64 d) ∧ w'.cell? ⟨w.heap.size, 2, none⟩ = some (.int .i64 n) ∧ w'.cell? ⟨w.heap.size, 3, none⟩ = some (.int .i64 t) ∧ w'.cell? ⟨w.heap.size, 4, none⟩ = some (.string b) ∧ w'.cell? ⟨w.heap.size, 5, none⟩ = some (.int .i64 er) ∧ w'.cell? ⟨w.heap.size, 6, none⟩ = some (.int .i64 s1) ∧ w'.cell? ⟨w.heap.size, 7, none⟩ = some (.int .i64 s2) ∧ w'.cell? ⟨w.heap.size, 8, none⟩ = some (.int .i64 s3) ∧ w'.cell? ⟨w.heap.size, 9, none⟩ = some (.int .i64 s4) ∧ w'.cell? ⟨w.heap.size, 10, none⟩ = some (.int .i64 s5) ∧ w'.cell? ⟨w.heap.size, 11, none⟩ = some (.int .i64 s6)))) (by kernel_rfl) (by kernel_rfl) (by kernel_rfl) (MK.out _ (by (repeat' (first | exact Below.refl _ _ | assumption | exact And.left (by assumption) | apply bel_alloc | apply Below.drew)))) ?_
  clear d1 hr
  repeat (first | (refine lexH_skip (by rfl) ?_; simp only [Act.put, List.setIfInBounds_toArray, List.set_cons_zero, List.set_cons_succ]) | (refine lexH_take (v := ?_) (by rfl) ?_ ?_; rotate_left; (focus (intro w hSw; (try dsimp only at hSw); go_simp; (try with_reducible rfl))); simp only [Act.put, List.setIfInBounds_toArray, List.set_cons_zero, List.set_cons_succ]) | (refine lexH_call (by rfl) (by rfl) (fun K hK => ?_); go_simp; (first | (go_at_call 72; with_reducible (refine (G.out _ (by (repeat' (first | exact Below.refl _ _ | assumption | exact And.left (by assumption) | apply bel_alloc | apply Below.drew)))).mono ?_); rintro e w2 ⟨rfl, hbn, hbm⟩)); (try go_wp2_with fail); refine hK.out _ _ (MK.out _ (by (repeat' (first | exact Below.refl _ _ | assumption | exact And.left (by assumption) | apply bel_alloc | apply Below.drew)))) (fun _ => ?_); clear hK; (try simp only [Act.put, List.setIfInBounds_toArray, List.set_cons_zero, List.set_cons_succ])))
  refine lexH_done ?_
  have d2 := fun w' h => (MK.out w' h).2
  go_wp2_with fail
  refine (lIn _ _ _ _).mono ?_; rintro e w3 ⟨rfl, rfl⟩
  go_wp2_with fail
  go_ret
  exact ⟨by rw [HG.out]; rfl, HB.out.up hbn⟩
end Go.Proofs.YtmnkekepccdlcaaGreatDoor
