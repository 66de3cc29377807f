/-
  The reference's line of an event of kind 1. And the others alike.
  Conditions: its numbers are numbers of the machine, its bytes are not too many.
-/
import Derived.Test.YtmnkekepccdlcaaGreatDoorRefP
namespace Go.Proofs.YtmnkekepccdlcaaGreatDoor
set_option linter.unusedVariables false
set_option linter.unusedSimpArgs false
open Go.RowKit

set_option maxHeartbeats 4000000 in
set_option maxRecDepth 100000 in
theorem rPrint1 (d n t : Int) (b : ByteArray) (er s1 s2 s3 s4 s5 s6 : Int) (w : World) (h64 : Ev64 ⟨1, d, n, t, b, er, s1, s2, s3, s4, s5, s6⟩) :
    Calls Tryz.prog 15 #[.agg (evC ⟨1, d, n, t, b, er, s1, s2, s3, s4, s5, s6⟩)] w fun e w' => e = .returned (.string ⟨(lineT ⟨1, d, n, t, b, er, s1, s2, s3, s4, s5, s6⟩).toArray⟩) ∧ Below w.heap.size w w' := by
  obtain ⟨w1, hw1⟩ : ∃ w1, w.alloc (.cells (evC ⟨1, d, n, t, b, er, s1, s2, s3, s4, s5, s6⟩) 27) = w1 := ⟨_, rfl⟩
  have k1 : Blk w1 w.heap.size 27 (evC ⟨1, d, n, t, b, er, s1, s2, s3, s4, s5, s6⟩) := by rw [← hw1]; exact Blk.new _ _ _
  have hb : Below w.heap.size w w1 := by rw [← hw1]; exact (Below.refl _ _).alloc (Nat.le_refl _) _
  have HW1 := Lib.hid hw1
  have HB := Lib.hid hb
  have H6 := Lib.hid h64
  have l1 : (Lib.itoa d).length ≤ 21 := itoa_21 h64.id
  have l2 : (Lib.itoa n).length ≤ 21 := itoa_21 h64.n
  have G1 := Lib.hid (fun w' => rNum d w' h64.id)
  have G2 := Lib.hid (fun w' => rNum n w' h64.n)

  clear hw1 hb h64
  simp only [evC] at k1 HW1 ⊢
  obtain ⟨q1, hq1⟩ : ∃ q, w.heap.size = q := ⟨_, rfl⟩
  have HQ := Lib.hid hq1
  rw [hq1] at k1
  clear hq1
  have d1 := k1.at12
  have hr := Below.refl w1.heap.size w1
  have MK : Hid (∀ w', Below w1.heap.size w1 w' → Below w1.heap.size w1 w' ∧ (w'.cell? ⟨q1, 0, none⟩ = some (.int .i64 1) ∧ w'.cell? ⟨q1, 1, none⟩ = some (.int .i64 d) ∧ w'.cell? ⟨q1, 2, none⟩ = some (.int .i64 n) ∧ w'.cell? ⟨q1, 3, none⟩ = some (.int .i64 t) ∧ w'.cell? ⟨q1, 4, none⟩ = some (.string b) ∧ w'.cell? ⟨q1, 5, none⟩ = some (.int .i64 er) ∧ w'.cell? ⟨q1, 6, none⟩ = some (.int .i64 s1) ∧ w'.cell? ⟨q1, 7, none⟩ = some (.int .i64 s2) ∧ w'.cell? ⟨q1, 8, none⟩ = some (.int .i64 s3) ∧ w'.cell? ⟨q1, 9, none⟩ = some (.int .i64 s4) ∧ w'.cell? ⟨q1, 10, none⟩ = some (.int .i64 s5) ∧ w'.cell? ⟨q1, 11, none⟩ = some (.int .i64 s6))) := Lib.hid fun w' h => ⟨h, (d1 w' h).1, (d1 w' h).2.1, (d1 w' h).2.2.1, (d1 w' h).2.2.2.1, (d1 w' h).2.2.2.2.1, (d1 w' h).2.2.2.2.2.1, (d1 w' h).2.2.2.2.2.2.1, (d1 w' h).2.2.2.2.2.2.2.1, (d1 w' h).2.2.2.2.2.2.2.2.1, (d1 w' h).2.2.2.2.2.2.2.2.2.1, (d1 w' h).2.2.2.2.2.2.2.2.2.2.1, (d1 w' h).2.2.2.2.2.2.2.2.2.2.2.1⟩
  clear k1
  have ba := bt_app
  go_enter Tryz.func15, Tryz.ntmps15
  go_upto_region 1 with fail
  rw [HW1.out, HQ.out]
  go_cut [3, 4, 5] (fun v3 v4 v5 wx => v3 = .string ⟨(32 :: Lib.itoa d).toArray⟩ ∧ v4 = .string ⟨(32 :: Lib.itoa n).toArray⟩ ∧ ∃ q5, v5 = .pointer (some ⟨q5, 0, none⟩) ∧ Blk wx q5 25 #[.int .i64 s1, .int .i64 s2, .int .i64 s3, .int .i64 s4, .int .i64 s5, .int .i64 s6] ∧ Below w1.heap.size w1 wx)
  case first =>
    have c1 : ¬ 9223372036854775807 < 1 + (Lib.itoa d).length := by omega
    have c2 : ¬ 9223372036854775807 < 1 + (Lib.itoa n).length := by omega
    go_region_held3 (fun w' => Below w1.heap.size w1 w' ∧ (w'.cell? ⟨q1, 0, none⟩ = some (.int .i64 1) ∧ w'.cell? ⟨q1, 1, none⟩ = some (.int .i64 d) ∧ w'.cell? ⟨q1, 2, none⟩ = some (.int .i64 n) ∧ w'.cell? ⟨q1, 3, none⟩ = some (.int .i64 t) ∧ w'.cell? ⟨q1, 4, none⟩ = some (.string b) ∧ w'.cell? ⟨q1, 5, none⟩ = some (.int .i64 er) ∧ w'.cell? ⟨q1, 6, none⟩ = some (.int .i64 s1) ∧ w'.cell? ⟨q1, 7, none⟩ = some (.int .i64 s2) ∧ w'.cell? ⟨q1, 8, none⟩ = some (.int .i64 s3) ∧ w'.cell? ⟨q1, 9, none⟩ = some (.int .i64 s4) ∧ w'.cell? ⟨q1, 10, none⟩ = some (.int .i64 s5) ∧ w'.cell? ⟨q1, 11, none⟩ = some (.int .i64 s6))) (exact MK.out _ (by (repeat' (first | exact Below.refl _ _ | assumption | apply Below.drew | apply below_drewN | refine Below.setCell ?_ (by first | assumption | (simp; done) | (simp <;> omega)) _ | refine Below.alloc ?_ (by first | exact Nat.le_refl _ | assumption | (simp; done) | (simp <;> omega)) _)))) (first | (go_at_call 41; with_reducible (refine (G1.out _).mono ?_); rintro e wn ⟨rfl, rfl⟩) | (go_at_call 41; with_reducible (refine (G2.out _).mono ?_); rintro e wn ⟨rfl, rfl⟩))
    all_goals go_wp2_with fail
    all_goals go_meet
    all_goals exact ⟨rfl, rfl, _, rfl, by first | exact (Blk.new _ _ _).drew | exact Blk.new _ _ _, by (repeat' (first | exact Below.refl _ _ | assumption | apply Below.drew | apply below_drewN | refine Below.setCell ?_ (by first | assumption | (simp; done) | (simp <;> omega)) _ | refine Below.alloc ?_ (by first | exact Nat.le_refl _ | assumption | (simp; done) | (simp <;> omega)) _))⟩
  case rest =>
    obtain ⟨rfl, rfl, q5, rfl, k5, hbx⟩ := hcut
    have d2 := fun w' h => (MK.out w' h).2
    have HBX := Lib.hid hbx
    clear d1 hr
    have l3 := text_21 H6.out.tick
    go_wp2_with fail
    refine (rText t _ H6.out.tick).mono ?_; rintro e w2 ⟨rfl, rfl⟩
    go_wp2_with fail
    go_ret
    exact ⟨by simp [lineT, joinL, evWords], HB.out.up hbx⟩

set_option maxHeartbeats 4000000 in
set_option maxRecDepth 100000 in
theorem rPrint2 (d n t : Int) (b : ByteArray) (er s1 s2 s3 s4 s5 s6 : Int) (w : World) (h64 : Ev64 ⟨2, d, n, t, b, er, s1, s2, s3, s4, s5, s6⟩) :
    Calls Tryz.prog 15 #[.agg (evC ⟨2, d, n, t, b, er, s1, s2, s3, s4, s5, s6⟩)] w fun e w' => e = .returned (.string ⟨(lineT ⟨2, d, n, t, b, er, s1, s2, s3, s4, s5, s6⟩).toArray⟩) ∧ Below w.heap.size w w' := by
  obtain ⟨w1, hw1⟩ : ∃ w1, w.alloc (.cells (evC ⟨2, d, n, t, b, er, s1, s2, s3, s4, s5, s6⟩) 27) = w1 := ⟨_, rfl⟩
  have k1 : Blk w1 w.heap.size 27 (evC ⟨2, d, n, t, b, er, s1, s2, s3, s4, s5, s6⟩) := by rw [← hw1]; exact Blk.new _ _ _
  have hb : Below w.heap.size w w1 := by rw [← hw1]; exact (Below.refl _ _).alloc (Nat.le_refl _) _
  have HW1 := Lib.hid hw1
  have HB := Lib.hid hb
  have H6 := Lib.hid h64
  have l1 : (Lib.itoa d).length ≤ 21 := itoa_21 h64.id
  have l2 : (Lib.itoa n).length ≤ 21 := itoa_21 h64.n
  have G1 := Lib.hid (fun w' => rNum d w' h64.id)
  have G2 := Lib.hid (fun w' => rNum n w' h64.n)

  clear hw1 hb h64
  simp only [evC] at k1 HW1 ⊢
  obtain ⟨q1, hq1⟩ : ∃ q, w.heap.size = q := ⟨_, rfl⟩
  have HQ := Lib.hid hq1
  rw [hq1] at k1
  clear hq1
  have d1 := k1.at12
  have hr := Below.refl w1.heap.size w1
  have MK : Hid (∀ w', Below w1.heap.size w1 w' → Below w1.heap.size w1 w' ∧ (w'.cell? ⟨q1, 0, none⟩ = some (.int .i64 2) ∧ w'.cell? ⟨q1, 1, none⟩ = some (.int .i64 d) ∧ w'.cell? ⟨q1, 2, none⟩ = some (.int .i64 n) ∧ w'.cell? ⟨q1, 3, none⟩ = some (.int .i64 t) ∧ w'.cell? ⟨q1, 4, none⟩ = some (.string b) ∧ w'.cell? ⟨q1, 5, none⟩ = some (.int .i64 er) ∧ w'.cell? ⟨q1, 6, none⟩ = some (.int .i64 s1) ∧ w'.cell? ⟨q1, 7, none⟩ = some (.int .i64 s2) ∧ w'.cell? ⟨q1, 8, none⟩ = some (.int .i64 s3) ∧ w'.cell? ⟨q1, 9, none⟩ = some (.int .i64 s4) ∧ w'.cell? ⟨q1, 10, none⟩ = some (.int .i64 s5) ∧ w'.cell? ⟨q1, 11, none⟩ = some (.int .i64 s6))) := Lib.hid fun w' h => ⟨h, (d1 w' h).1, (d1 w' h).2.1, (d1 w' h).2.2.1, (d1 w' h).2.2.2.1, (d1 w' h).2.2.2.2.1, (d1 w' h).2.2.2.2.2.1, (d1 w' h).2.2.2.2.2.2.1, (d1 w' h).2.2.2.2.2.2.2.1, (d1 w' h).2.2.2.2.2.2.2.2.1, (d1 w' h).2.2.2.2.2.2.2.2.2.1, (d1 w' h).2.2.2.2.2.2.2.2.2.2.1, (d1 w' h).2.2.2.2.2.2.2.2.2.2.2.1⟩
  clear k1
  have ba := bt_app
  go_enter Tryz.func15, Tryz.ntmps15
  go_upto_region 1 with fail
  rw [HW1.out, HQ.out]
  go_cut [3, 4, 5] (fun v3 v4 v5 wx => v3 = .string ⟨(32 :: Lib.itoa d).toArray⟩ ∧ v4 = .string ⟨(32 :: Lib.itoa n).toArray⟩ ∧ ∃ q5, v5 = .pointer (some ⟨q5, 0, none⟩) ∧ Blk wx q5 25 #[.int .i64 s1, .int .i64 s2, .int .i64 s3, .int .i64 s4, .int .i64 s5, .int .i64 s6] ∧ Below w1.heap.size w1 wx)
  case first =>
    have c1 : ¬ 9223372036854775807 < 1 + (Lib.itoa d).length := by omega
    have c2 : ¬ 9223372036854775807 < 1 + (Lib.itoa n).length := by omega
    go_region_held3 (fun w' => Below w1.heap.size w1 w' ∧ (w'.cell? ⟨q1, 0, none⟩ = some (.int .i64 2) ∧ w'.cell? ⟨q1, 1, none⟩ = some (.int .i64 d) ∧ w'.cell? ⟨q1, 2, none⟩ = some (.int .i64 n) ∧ w'.cell? ⟨q1, 3, none⟩ = some (.int .i64 t) ∧ w'.cell? ⟨q1, 4, none⟩ = some (.string b) ∧ w'.cell? ⟨q1, 5, none⟩ = some (.int .i64 er) ∧ w'.cell? ⟨q1, 6, none⟩ = some (.int .i64 s1) ∧ w'.cell? ⟨q1, 7, none⟩ = some (.int .i64 s2) ∧ w'.cell? ⟨q1, 8, none⟩ = some (.int .i64 s3) ∧ w'.cell? ⟨q1, 9, none⟩ = some (.int .i64 s4) ∧ w'.cell? ⟨q1, 10, none⟩ = some (.int .i64 s5) ∧ w'.cell? ⟨q1, 11, none⟩ = some (.int .i64 s6))) (exact MK.out _ (by (repeat' (first | exact Below.refl _ _ | assumption | apply Below.drew | apply below_drewN | refine Below.setCell ?_ (by first | assumption | (simp; done) | (simp <;> omega)) _ | refine Below.alloc ?_ (by first | exact Nat.le_refl _ | assumption | (simp; done) | (simp <;> omega)) _)))) (first | (go_at_call 41; with_reducible (refine (G1.out _).mono ?_); rintro e wn ⟨rfl, rfl⟩) | (go_at_call 41; with_reducible (refine (G2.out _).mono ?_); rintro e wn ⟨rfl, rfl⟩))
    all_goals go_wp2_with fail
    all_goals go_meet
    all_goals exact ⟨rfl, rfl, _, rfl, by first | exact (Blk.new _ _ _).drew | exact Blk.new _ _ _, by (repeat' (first | exact Below.refl _ _ | assumption | apply Below.drew | apply below_drewN | refine Below.setCell ?_ (by first | assumption | (simp; done) | (simp <;> omega)) _ | refine Below.alloc ?_ (by first | exact Nat.le_refl _ | assumption | (simp; done) | (simp <;> omega)) _))⟩
  case rest =>
    obtain ⟨rfl, rfl, q5, rfl, k5, hbx⟩ := hcut
    have d2 := fun w' h => (MK.out w' h).2
    have HBX := Lib.hid hbx
    clear d1 hr
    go_wp2_with fail
    go_ret
    exact ⟨by simp [lineT, joinL, evWords], HB.out.up hbx⟩

set_option maxHeartbeats 4000000 in
set_option maxRecDepth 100000 in
theorem rPrint3 (d n t : Int) (b : ByteArray) (er s1 s2 s3 s4 s5 s6 : Int) (w : World) (h64 : Ev64 ⟨3, d, n, t, b, er, s1, s2, s3, s4, s5, s6⟩) :
    Calls Tryz.prog 15 #[.agg (evC ⟨3, d, n, t, b, er, s1, s2, s3, s4, s5, s6⟩)] w fun e w' => e = .returned (.string ⟨(lineT ⟨3, d, n, t, b, er, s1, s2, s3, s4, s5, s6⟩).toArray⟩) ∧ Below w.heap.size w w' := by
  obtain ⟨w1, hw1⟩ : ∃ w1, w.alloc (.cells (evC ⟨3, d, n, t, b, er, s1, s2, s3, s4, s5, s6⟩) 27) = w1 := ⟨_, rfl⟩
  have k1 : Blk w1 w.heap.size 27 (evC ⟨3, d, n, t, b, er, s1, s2, s3, s4, s5, s6⟩) := by rw [← hw1]; exact Blk.new _ _ _
  have hb : Below w.heap.size w w1 := by rw [← hw1]; exact (Below.refl _ _).alloc (Nat.le_refl _) _
  have HW1 := Lib.hid hw1
  have HB := Lib.hid hb
  have H6 := Lib.hid h64
  have l1 : (Lib.itoa d).length ≤ 21 := itoa_21 h64.id
  have l2 : (Lib.itoa n).length ≤ 21 := itoa_21 h64.n
  have G1 := Lib.hid (fun w' => rNum d w' h64.id)
  have G2 := Lib.hid (fun w' => rNum n w' h64.n)

  clear hw1 hb h64
  simp only [evC] at k1 HW1 ⊢
  obtain ⟨q1, hq1⟩ : ∃ q, w.heap.size = q := ⟨_, rfl⟩
  have HQ := Lib.hid hq1
  rw [hq1] at k1
  clear hq1
  have d1 := k1.at12
  have hr := Below.refl w1.heap.size w1
  have MK : Hid (∀ w', Below w1.heap.size w1 w' → Below w1.heap.size w1 w' ∧ (w'.cell? ⟨q1, 0, none⟩ = some (.int .i64 3) ∧ w'.cell? ⟨q1, 1, none⟩ = some (.int .i64 d) ∧ w'.cell? ⟨q1, 2, none⟩ = some (.int .i64 n) ∧ w'.cell? ⟨q1, 3, none⟩ = some (.int .i64 t) ∧ w'.cell? ⟨q1, 4, none⟩ = some (.string b) ∧ w'.cell? ⟨q1, 5, none⟩ = some (.int .i64 er) ∧ w'.cell? ⟨q1, 6, none⟩ = some (.int .i64 s1) ∧ w'.cell? ⟨q1, 7, none⟩ = some (.int .i64 s2) ∧ w'.cell? ⟨q1, 8, none⟩ = some (.int .i64 s3) ∧ w'.cell? ⟨q1, 9, none⟩ = some (.int .i64 s4) ∧ w'.cell? ⟨q1, 10, none⟩ = some (.int .i64 s5) ∧ w'.cell? ⟨q1, 11, none⟩ = some (.int .i64 s6))) := Lib.hid fun w' h => ⟨h, (d1 w' h).1, (d1 w' h).2.1, (d1 w' h).2.2.1, (d1 w' h).2.2.2.1, (d1 w' h).2.2.2.2.1, (d1 w' h).2.2.2.2.2.1, (d1 w' h).2.2.2.2.2.2.1, (d1 w' h).2.2.2.2.2.2.2.1, (d1 w' h).2.2.2.2.2.2.2.2.1, (d1 w' h).2.2.2.2.2.2.2.2.2.1, (d1 w' h).2.2.2.2.2.2.2.2.2.2.1, (d1 w' h).2.2.2.2.2.2.2.2.2.2.2.1⟩
  clear k1
  have ba := bt_app
  go_enter Tryz.func15, Tryz.ntmps15
  go_upto_region 1 with fail
  rw [HW1.out, HQ.out]
  go_cut [3, 4, 5] (fun v3 v4 v5 wx => v3 = .string ⟨(32 :: Lib.itoa d).toArray⟩ ∧ v4 = .string ⟨(32 :: Lib.itoa n).toArray⟩ ∧ ∃ q5, v5 = .pointer (some ⟨q5, 0, none⟩) ∧ Blk wx q5 25 #[.int .i64 s1, .int .i64 s2, .int .i64 s3, .int .i64 s4, .int .i64 s5, .int .i64 s6] ∧ Below w1.heap.size w1 wx)
  case first =>
    have c1 : ¬ 9223372036854775807 < 1 + (Lib.itoa d).length := by omega
    have c2 : ¬ 9223372036854775807 < 1 + (Lib.itoa n).length := by omega
    go_region_held3 (fun w' => Below w1.heap.size w1 w' ∧ (w'.cell? ⟨q1, 0, none⟩ = some (.int .i64 3) ∧ w'.cell? ⟨q1, 1, none⟩ = some (.int .i64 d) ∧ w'.cell? ⟨q1, 2, none⟩ = some (.int .i64 n) ∧ w'.cell? ⟨q1, 3, none⟩ = some (.int .i64 t) ∧ w'.cell? ⟨q1, 4, none⟩ = some (.string b) ∧ w'.cell? ⟨q1, 5, none⟩ = some (.int .i64 er) ∧ w'.cell? ⟨q1, 6, none⟩ = some (.int .i64 s1) ∧ w'.cell? ⟨q1, 7, none⟩ = some (.int .i64 s2) ∧ w'.cell? ⟨q1, 8, none⟩ = some (.int .i64 s3) ∧ w'.cell? ⟨q1, 9, none⟩ = some (.int .i64 s4) ∧ w'.cell? ⟨q1, 10, none⟩ = some (.int .i64 s5) ∧ w'.cell? ⟨q1, 11, none⟩ = some (.int .i64 s6))) (exact MK.out _ (by (repeat' (first | exact Below.refl _ _ | assumption | apply Below.drew | apply below_drewN | refine Below.setCell ?_ (by first | assumption | (simp; done) | (simp <;> omega)) _ | refine Below.alloc ?_ (by first | exact Nat.le_refl _ | assumption | (simp; done) | (simp <;> omega)) _)))) (first | (go_at_call 41; with_reducible (refine (G1.out _).mono ?_); rintro e wn ⟨rfl, rfl⟩) | (go_at_call 41; with_reducible (refine (G2.out _).mono ?_); rintro e wn ⟨rfl, rfl⟩))
    all_goals go_wp2_with fail
    all_goals go_meet
    all_goals exact ⟨rfl, rfl, _, rfl, by first | exact (Blk.new _ _ _).drew | exact Blk.new _ _ _, by (repeat' (first | exact Below.refl _ _ | assumption | apply Below.drew | apply below_drewN | refine Below.setCell ?_ (by first | assumption | (simp; done) | (simp <;> omega)) _ | refine Below.alloc ?_ (by first | exact Nat.le_refl _ | assumption | (simp; done) | (simp <;> omega)) _))⟩
  case rest =>
    obtain ⟨rfl, rfl, q5, rfl, k5, hbx⟩ := hcut
    have d2 := fun w' h => (MK.out w' h).2
    have HBX := Lib.hid hbx
    clear d1 hr
    have l3 := itoa_21 H6.out.err
    go_wp2_with fail
    refine (rNum er _ H6.out.err).mono ?_; rintro e w2 ⟨rfl, rfl⟩
    go_wp2_with fail
    go_ret
    exact ⟨by simp [lineT, joinL, evWords], HB.out.up hbx⟩

set_option maxHeartbeats 4000000 in
set_option maxRecDepth 100000 in
theorem rPrint4 (d n t : Int) (b : ByteArray) (er s1 s2 s3 s4 s5 s6 : Int) (w : World) (h64 : Ev64 ⟨4, d, n, t, b, er, s1, s2, s3, s4, s5, s6⟩) :
    Calls Tryz.prog 15 #[.agg (evC ⟨4, d, n, t, b, er, s1, s2, s3, s4, s5, s6⟩)] w fun e w' => e = .returned (.string ⟨(lineT ⟨4, d, n, t, b, er, s1, s2, s3, s4, s5, s6⟩).toArray⟩) ∧ Below w.heap.size w w' := by
  obtain ⟨w1, hw1⟩ : ∃ w1, w.alloc (.cells (evC ⟨4, d, n, t, b, er, s1, s2, s3, s4, s5, s6⟩) 27) = w1 := ⟨_, rfl⟩
  have k1 : Blk w1 w.heap.size 27 (evC ⟨4, d, n, t, b, er, s1, s2, s3, s4, s5, s6⟩) := by rw [← hw1]; exact Blk.new _ _ _
  have hb : Below w.heap.size w w1 := by rw [← hw1]; exact (Below.refl _ _).alloc (Nat.le_refl _) _
  have HW1 := Lib.hid hw1
  have HB := Lib.hid hb
  have H6 := Lib.hid h64
  have l1 : (Lib.itoa d).length ≤ 21 := itoa_21 h64.id
  have l2 : (Lib.itoa n).length ≤ 21 := itoa_21 h64.n
  have G1 := Lib.hid (fun w' => rNum d w' h64.id)
  have G2 := Lib.hid (fun w' => rNum n w' h64.n)

  clear hw1 hb h64
  simp only [evC] at k1 HW1 ⊢
  obtain ⟨q1, hq1⟩ : ∃ q, w.heap.size = q := ⟨_, rfl⟩
  have HQ := Lib.hid hq1
  rw [hq1] at k1
  clear hq1
  have d1 := k1.at12
  have hr := Below.refl w1.heap.size w1
  have MK : Hid (∀ w', Below w1.heap.size w1 w' → Below w1.heap.size w1 w' ∧ (w'.cell? ⟨q1, 0, none⟩ = some (.int .i64 4) ∧ w'.cell? ⟨q1, 1, none⟩ = some (.int .i64 d) ∧ w'.cell? ⟨q1, 2, none⟩ = some (.int .i64 n) ∧ w'.cell? ⟨q1, 3, none⟩ = some (.int .i64 t) ∧ w'.cell? ⟨q1, 4, none⟩ = some (.string b) ∧ w'.cell? ⟨q1, 5, none⟩ = some (.int .i64 er) ∧ w'.cell? ⟨q1, 6, none⟩ = some (.int .i64 s1) ∧ w'.cell? ⟨q1, 7, none⟩ = some (.int .i64 s2) ∧ w'.cell? ⟨q1, 8, none⟩ = some (.int .i64 s3) ∧ w'.cell? ⟨q1, 9, none⟩ = some (.int .i64 s4) ∧ w'.cell? ⟨q1, 10, none⟩ = some (.int .i64 s5) ∧ w'.cell? ⟨q1, 11, none⟩ = some (.int .i64 s6))) := Lib.hid fun w' h => ⟨h, (d1 w' h).1, (d1 w' h).2.1, (d1 w' h).2.2.1, (d1 w' h).2.2.2.1, (d1 w' h).2.2.2.2.1, (d1 w' h).2.2.2.2.2.1, (d1 w' h).2.2.2.2.2.2.1, (d1 w' h).2.2.2.2.2.2.2.1, (d1 w' h).2.2.2.2.2.2.2.2.1, (d1 w' h).2.2.2.2.2.2.2.2.2.1, (d1 w' h).2.2.2.2.2.2.2.2.2.2.1, (d1 w' h).2.2.2.2.2.2.2.2.2.2.2.1⟩
  clear k1
  have ba := bt_app
  go_enter Tryz.func15, Tryz.ntmps15
  go_upto_region 1 with fail
  rw [HW1.out, HQ.out]
  go_cut [3, 4, 5] (fun v3 v4 v5 wx => v3 = .string ⟨(32 :: Lib.itoa d).toArray⟩ ∧ v4 = .string ⟨(32 :: Lib.itoa n).toArray⟩ ∧ ∃ q5, v5 = .pointer (some ⟨q5, 0, none⟩) ∧ Blk wx q5 25 #[.int .i64 s1, .int .i64 s2, .int .i64 s3, .int .i64 s4, .int .i64 s5, .int .i64 s6] ∧ Below w1.heap.size w1 wx)
  case first =>
    have c1 : ¬ 9223372036854775807 < 1 + (Lib.itoa d).length := by omega
    have c2 : ¬ 9223372036854775807 < 1 + (Lib.itoa n).length := by omega
    go_region_held3 (fun w' => Below w1.heap.size w1 w' ∧ (w'.cell? ⟨q1, 0, none⟩ = some (.int .i64 4) ∧ w'.cell? ⟨q1, 1, none⟩ = some (.int .i64 d) ∧ w'.cell? ⟨q1, 2, none⟩ = some (.int .i64 n) ∧ w'.cell? ⟨q1, 3, none⟩ = some (.int .i64 t) ∧ w'.cell? ⟨q1, 4, none⟩ = some (.string b) ∧ w'.cell? ⟨q1, 5, none⟩ = some (.int .i64 er) ∧ w'.cell? ⟨q1, 6, none⟩ = some (.int .i64 s1) ∧ w'.cell? ⟨q1, 7, none⟩ = some (.int .i64 s2) ∧ w'.cell? ⟨q1, 8, none⟩ = some (.int .i64 s3) ∧ w'.cell? ⟨q1, 9, none⟩ = some (.int .i64 s4) ∧ w'.cell? ⟨q1, 10, none⟩ = some (.int .i64 s5) ∧ w'.cell? ⟨q1, 11, none⟩ = some (.int .i64 s6))) (exact MK.out _ (by (repeat' (first | exact Below.refl _ _ | assumption | apply Below.drew | apply below_drewN | refine Below.setCell ?_ (by first | assumption | (simp; done) | (simp <;> omega)) _ | refine Below.alloc ?_ (by first | exact Nat.le_refl _ | assumption | (simp; done) | (simp <;> omega)) _)))) (first | (go_at_call 41; with_reducible (refine (G1.out _).mono ?_); rintro e wn ⟨rfl, rfl⟩) | (go_at_call 41; with_reducible (refine (G2.out _).mono ?_); rintro e wn ⟨rfl, rfl⟩))
    all_goals go_wp2_with fail
    all_goals go_meet
    all_goals exact ⟨rfl, rfl, _, rfl, by first | exact (Blk.new _ _ _).drew | exact Blk.new _ _ _, by (repeat' (first | exact Below.refl _ _ | assumption | apply Below.drew | apply below_drewN | refine Below.setCell ?_ (by first | assumption | (simp; done) | (simp <;> omega)) _ | refine Below.alloc ?_ (by first | exact Nat.le_refl _ | assumption | (simp; done) | (simp <;> omega)) _))⟩
  case rest =>
    obtain ⟨rfl, rfl, q5, rfl, k5, hbx⟩ := hcut
    have d2 := fun w' h => (MK.out w' h).2
    have HBX := Lib.hid hbx
    clear d1 hr
    have l3 := quote_len b H6.out.bytes
    go_wp2_with fail
    refine (rQuote b _ (Nat.le_trans H6.out.bytes (by decide))).mono ?_; rintro e w2 ⟨rfl, hb2⟩
    obtain ⟨qt, hqt⟩ : ∃ q, quoteT b.data.toList = q := ⟨_, rfl⟩
    rw [hqt] at l3 ⊢
    have HT := Lib.hid hqt
    clear hqt
    go_wp2_with fail
    go_ret
    exact ⟨by simp [lineT, joinL, evWords, HT.out], HB.out.up (hbx.up hb2)⟩

set_option maxHeartbeats 4000000 in
set_option maxRecDepth 100000 in
theorem rPrint5 (d n t : Int) (b : ByteArray) (er s1 s2 s3 s4 s5 s6 : Int) (w : World) (h64 : Ev64 ⟨5, d, n, t, b, er, s1, s2, s3, s4, s5, s6⟩) :
    Calls Tryz.prog 15 #[.agg (evC ⟨5, d, n, t, b, er, s1, s2, s3, s4, s5, s6⟩)] w fun e w' => e = .returned (.string ⟨(lineT ⟨5, d, n, t, b, er, s1, s2, s3, s4, s5, s6⟩).toArray⟩) ∧ Below w.heap.size w w' := by
  obtain ⟨w1, hw1⟩ : ∃ w1, w.alloc (.cells (evC ⟨5, d, n, t, b, er, s1, s2, s3, s4, s5, s6⟩) 27) = w1 := ⟨_, rfl⟩
  have k1 : Blk w1 w.heap.size 27 (evC ⟨5, d, n, t, b, er, s1, s2, s3, s4, s5, s6⟩) := by rw [← hw1]; exact Blk.new _ _ _
  have hb : Below w.heap.size w w1 := by rw [← hw1]; exact (Below.refl _ _).alloc (Nat.le_refl _) _
  have HW1 := Lib.hid hw1
  have HB := Lib.hid hb
  have H6 := Lib.hid h64
  have l1 : (Lib.itoa d).length ≤ 21 := itoa_21 h64.id
  have l2 : (Lib.itoa n).length ≤ 21 := itoa_21 h64.n
  have G1 := Lib.hid (fun w' => rNum d w' h64.id)
  have G2 := Lib.hid (fun w' => rNum n w' h64.n)

  clear hw1 hb h64
  simp only [evC] at k1 HW1 ⊢
  obtain ⟨q1, hq1⟩ : ∃ q, w.heap.size = q := ⟨_, rfl⟩
  have HQ := Lib.hid hq1
  rw [hq1] at k1
  clear hq1
  have d1 := k1.at12
  have hr := Below.refl w1.heap.size w1
  have MK : Hid (∀ w', Below w1.heap.size w1 w' → Below w1.heap.size w1 w' ∧ (w'.cell? ⟨q1, 0, none⟩ = some (.int .i64 5) ∧ w'.cell? ⟨q1, 1, none⟩ = some (.int .i64 d) ∧ w'.cell? ⟨q1, 2, none⟩ = some (.int .i64 n) ∧ w'.cell? ⟨q1, 3, none⟩ = some (.int .i64 t) ∧ w'.cell? ⟨q1, 4, none⟩ = some (.string b) ∧ w'.cell? ⟨q1, 5, none⟩ = some (.int .i64 er) ∧ w'.cell? ⟨q1, 6, none⟩ = some (.int .i64 s1) ∧ w'.cell? ⟨q1, 7, none⟩ = some (.int .i64 s2) ∧ w'.cell? ⟨q1, 8, none⟩ = some (.int .i64 s3) ∧ w'.cell? ⟨q1, 9, none⟩ = some (.int .i64 s4) ∧ w'.cell? ⟨q1, 10, none⟩ = some (.int .i64 s5) ∧ w'.cell? ⟨q1, 11, none⟩ = some (.int .i64 s6))) := Lib.hid fun w' h => ⟨h, (d1 w' h).1, (d1 w' h).2.1, (d1 w' h).2.2.1, (d1 w' h).2.2.2.1, (d1 w' h).2.2.2.2.1, (d1 w' h).2.2.2.2.2.1, (d1 w' h).2.2.2.2.2.2.1, (d1 w' h).2.2.2.2.2.2.2.1, (d1 w' h).2.2.2.2.2.2.2.2.1, (d1 w' h).2.2.2.2.2.2.2.2.2.1, (d1 w' h).2.2.2.2.2.2.2.2.2.2.1, (d1 w' h).2.2.2.2.2.2.2.2.2.2.2.1⟩
  clear k1
  have ba := bt_app
  go_enter Tryz.func15, Tryz.ntmps15
  go_upto_region 1 with fail
  rw [HW1.out, HQ.out]
  go_cut [3, 4, 5] (fun v3 v4 v5 wx => v3 = .string ⟨(32 :: Lib.itoa d).toArray⟩ ∧ v4 = .string ⟨(32 :: Lib.itoa n).toArray⟩ ∧ ∃ q5, v5 = .pointer (some ⟨q5, 0, none⟩) ∧ Blk wx q5 25 #[.int .i64 s1, .int .i64 s2, .int .i64 s3, .int .i64 s4, .int .i64 s5, .int .i64 s6] ∧ Below w1.heap.size w1 wx)
  case first =>
    have c1 : ¬ 9223372036854775807 < 1 + (Lib.itoa d).length := by omega
    have c2 : ¬ 9223372036854775807 < 1 + (Lib.itoa n).length := by omega
    go_region_held3 (fun w' => Below w1.heap.size w1 w' ∧ (w'.cell? ⟨q1, 0, none⟩ = some (.int .i64 5) ∧ w'.cell? ⟨q1, 1, none⟩ = some (.int .i64 d) ∧ w'.cell? ⟨q1, 2, none⟩ = some (.int .i64 n) ∧ w'.cell? ⟨q1, 3, none⟩ = some (.int .i64 t) ∧ w'.cell? ⟨q1, 4, none⟩ = some (.string b) ∧ w'.cell? ⟨q1, 5, none⟩ = some (.int .i64 er) ∧ w'.cell? ⟨q1, 6, none⟩ = some (.int .i64 s1) ∧ w'.cell? ⟨q1, 7, none⟩ = some (.int .i64 s2) ∧ w'.cell? ⟨q1, 8, none⟩ = some (.int .i64 s3) ∧ w'.cell? ⟨q1, 9, none⟩ = some (.int .i64 s4) ∧ w'.cell? ⟨q1, 10, none⟩ = some (.int .i64 s5) ∧ w'.cell? ⟨q1, 11, none⟩ = some (.int .i64 s6))) (exact MK.out _ (by (repeat' (first | exact Below.refl _ _ | assumption | apply Below.drew | apply below_drewN | refine Below.setCell ?_ (by first | assumption | (simp; done) | (simp <;> omega)) _ | refine Below.alloc ?_ (by first | exact Nat.le_refl _ | assumption | (simp; done) | (simp <;> omega)) _)))) (first | (go_at_call 41; with_reducible (refine (G1.out _).mono ?_); rintro e wn ⟨rfl, rfl⟩) | (go_at_call 41; with_reducible (refine (G2.out _).mono ?_); rintro e wn ⟨rfl, rfl⟩))
    all_goals go_wp2_with fail
    all_goals go_meet
    all_goals exact ⟨rfl, rfl, _, rfl, by first | exact (Blk.new _ _ _).drew | exact Blk.new _ _ _, by (repeat' (first | exact Below.refl _ _ | assumption | apply Below.drew | apply below_drewN | refine Below.setCell ?_ (by first | assumption | (simp; done) | (simp <;> omega)) _ | refine Below.alloc ?_ (by first | exact Nat.le_refl _ | assumption | (simp; done) | (simp <;> omega)) _))⟩
  case rest =>
    obtain ⟨rfl, rfl, q5, rfl, k5, hbx⟩ := hcut
    have d2 := fun w' h => (MK.out w' h).2
    have HBX := Lib.hid hbx
    clear d1 hr
    go_wp2_with fail
    go_ret
    exact ⟨by simp [lineT, joinL, evWords], HB.out.up hbx⟩
end Go.Proofs.YtmnkekepccdlcaaGreatDoor
