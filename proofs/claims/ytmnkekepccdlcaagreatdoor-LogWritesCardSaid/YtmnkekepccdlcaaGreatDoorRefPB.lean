/-
  The reference's line of an event of kind 6. And the others alike.
  Conditions: its numbers are numbers of the machine, its bytes are not too many.
-/
import Derived.Test.YtmnkekepccdlcaaGreatDoorRefP
namespace Go.Proofs.YtmnkekepccdlcaaGreatDoor
set_option linter.unusedVariables false
set_option linter.unusedSimpArgs false
open Go.RowKit

set_option maxHeartbeats 4000000 in
set_option maxRecDepth 100000 in
theorem rPrint6 (d n t : Int) (b : ByteArray) (er s1 s2 s3 s4 s5 s6 : Int) (w : World) (h64 : Ev64 ⟨6, d, n, t, b, er, s1, s2, s3, s4, s5, s6⟩) :
    Calls Tryz.prog 15 #[.agg (evC ⟨6, d, n, t, b, er, s1, s2, s3, s4, s5, s6⟩)] w fun e w' => e = .returned (.string ⟨(lineT ⟨6, d, n, t, b, er, s1, s2, s3, s4, s5, s6⟩).toArray⟩) ∧ Below w.heap.size w w' := by
  obtain ⟨w1, hw1⟩ : ∃ w1, w.alloc (.cells (evC ⟨6, d, n, t, b, er, s1, s2, s3, s4, s5, s6⟩) 27) = w1 := ⟨_, rfl⟩
  have k1 : Blk w1 w.heap.size 27 (evC ⟨6, d, n, t, b, er, s1, s2, s3, s4, s5, s6⟩) := by rw [← hw1]; exact Blk.new _ _ _
  have hb : Below w.heap.size w w1 := by rw [← hw1]; exact (Below.refl _ _).alloc (Nat.le_refl _) _
  have HW1 := Lib.hid hw1
  have HB := Lib.hid hb
  have H6 := Lib.hid h64
  have l1 : (Lib.itoa d).length ≤ 21 := itoa_21 h64.id
  have l2 : (Lib.itoa n).length ≤ 21 := itoa_21 h64.n
  have G1 := Lib.hid (fun w' => rNum d w' h64.id)
  have G2 := Lib.hid (fun w' => rNum n w' h64.n)

  clear hw1 hb h64
  simp only [evC] at k1 HW1 ⊢
  obtain ⟨q1, hq1⟩ : ∃ q, w.heap.size = q := ⟨_, rfl⟩
  have HQ := Lib.hid hq1
  rw [hq1] at k1
  clear hq1
  have d1 := k1.at12
  have hr := Below.refl w1.heap.size w1
  have MK : Hid (∀ w', Below w1.heap.size w1 w' → Below w1.heap.size w1 w' ∧ (w'.cell? ⟨q1, 0, none⟩ = some (.int .i64 6) ∧ w'.cell? ⟨q1, 1, none⟩ = some (.int .i64 d) ∧ w'.cell? ⟨q1, 2, none⟩ = some (.int .i64 n) ∧ w'.cell? ⟨q1, 3, none⟩ = some (.int .i64 t) ∧ w'.cell? ⟨q1, 4, none⟩ = some (.string b) ∧ w'.cell? ⟨q1, 5, none⟩ = some (.int .i64 er) ∧ w'.cell? ⟨q1, 6, none⟩ = some (.int .i64 s1) ∧ w'.cell? ⟨q1, 7, none⟩ = some (.int .i64 s2) ∧ w'.cell? ⟨q1, 8, none⟩ = some (.int .i64 s3) ∧ w'.cell? ⟨q1, 9, none⟩ = some (.int .i64 s4) ∧ w'.cell? ⟨q1, 10, none⟩ = some (.int .i64 s5) ∧ w'.cell? ⟨q1, 11, none⟩ = some (.int .i64 s6))) := Lib.hid fun w' h => ⟨h, (d1 w' h).1, (d1 w' h).2.1, (d1 w' h).2.2.1, (d1 w' h).2.2.2.1, (d1 w' h).2.2.2.2.1, (d1 w' h).2.2.2.2.2.1, (d1 w' h).2.2.2.2.2.2.1, (d1 w' h).2.2.2.2.2.2.2.1, (d1 w' h).2.2.2.2.2.2.2.2.1, (d1 w' h).2.2.2.2.2.2.2.2.2.1, (d1 w' h).2.2.2.2.2.2.2.2.2.2.1, (d1 w' h).2.2.2.2.2.2.2.2.2.2.2.1⟩
  clear k1
  have ba := bt_app
  go_enter Tryz.func15, Tryz.ntmps15
  go_upto_region 1 with fail
  rw [HW1.out, HQ.out]
  go_cut [3, 4, 5] (fun v3 v4 v5 wx => v3 = .string ⟨(32 :: Lib.itoa d).toArray⟩ ∧ v4 = .string ⟨(32 :: Lib.itoa n).toArray⟩ ∧ ∃ q5, v5 = .pointer (some ⟨q5, 0, none⟩) ∧ Blk wx q5 25 #[.int .i64 s1, .int .i64 s2, .int .i64 s3, .int .i64 s4, .int .i64 s5, .int .i64 s6] ∧ Below w1.heap.size w1 wx)
  case first =>
    have c1 : ¬ 9223372036854775807 < 1 + (Lib.itoa d).length := by omega
    have c2 : ¬ 9223372036854775807 < 1 + (Lib.itoa n).length := by omega
    go_region_held3 (fun w' => Below w1.heap.size w1 w' ∧ (w'.cell? ⟨q1, 0, none⟩ = some (.int .i64 6) ∧ w'.cell? ⟨q1, 1, none⟩ = some (.int .i64 d) ∧ w'.cell? ⟨q1, 2, none⟩ = some (.int .i64 n) ∧ w'.cell? ⟨q1, 3, none⟩ = some (.int .i64 t) ∧ w'.cell? ⟨q1, 4, none⟩ = some (.string b) ∧ w'.cell? ⟨q1, 5, none⟩ = some (.int .i64 er) ∧ w'.cell? ⟨q1, 6, none⟩ = some (.int .i64 s1) ∧ w'.cell? ⟨q1, 7, none⟩ = some (.int .i64 s2) ∧ w'.cell? ⟨q1, 8, none⟩ = some (.int .i64 s3) ∧ w'.cell? ⟨q1, 9, none⟩ = some (.int .i64 s4) ∧ w'.cell? ⟨q1, 10, none⟩ = some (.int .i64 s5) ∧ w'.cell? ⟨q1, 11, none⟩ = some (.int .i64 s6))) (exact MK.out _ (by (repeat' (first | exact Below.refl _ _ | assumption | apply Below.drew | apply below_drewN | refine Below.setCell ?_ (by first | assumption | (simp; done) | (simp <;> omega)) _ | refine Below.alloc ?_ (by first | exact Nat.le_refl _ | assumption | (simp; done) | (simp <;> omega)) _)))) (first | (go_at_call 41; with_reducible (refine (G1.out _).mono ?_); rintro e wn ⟨rfl, rfl⟩) | (go_at_call 41; with_reducible (refine (G2.out _).mono ?_); rintro e wn ⟨rfl, rfl⟩))
    all_goals go_wp2_with fail
    all_goals go_meet
    all_goals exact ⟨rfl, rfl, _, rfl, by first | exact (Blk.new _ _ _).drew | exact Blk.new _ _ _, by (repeat' (first | exact Below.refl _ _ | assumption | apply Below.drew | apply below_drewN | refine Below.setCell ?_ (by first | assumption | (simp; done) | (simp <;> omega)) _ | refine Below.alloc ?_ (by first | exact Nat.le_refl _ | assumption | (simp; done) | (simp <;> omega)) _))⟩
  case rest =>
    obtain ⟨rfl, rfl, q5, rfl, k5, hbx⟩ := hcut
    have d2 := fun w' h => (MK.out w' h).2
    have HBX := Lib.hid hbx
    clear d1 hr
    have l3 := quote_len b H6.out.bytes
    go_wp2_with fail
    refine (rQuote b _ (Nat.le_trans H6.out.bytes (by decide))).mono ?_; rintro e w2 ⟨rfl, hb2⟩
    obtain ⟨qt, hqt⟩ : ∃ q, quoteT b.data.toList = q := ⟨_, rfl⟩
    rw [hqt] at l3 ⊢
    have HT := Lib.hid hqt
    clear hqt
    go_wp2_with fail
    go_ret
    exact ⟨by simp [lineT, joinL, evWords, HT.out], HB.out.up (hbx.up hb2)⟩

set_option maxHeartbeats 4000000 in
set_option maxRecDepth 100000 in
theorem rPrint7 (d n t : Int) (b : ByteArray) (er s1 s2 s3 s4 s5 s6 : Int) (w : World) (h64 : Ev64 ⟨7, d, n, t, b, er, s1, s2, s3, s4, s5, s6⟩) :
    Calls Tryz.prog 15 #[.agg (evC ⟨7, d, n, t, b, er, s1, s2, s3, s4, s5, s6⟩)] w fun e w' => e = .returned (.string ⟨(lineT ⟨7, d, n, t, b, er, s1, s2, s3, s4, s5, s6⟩).toArray⟩) ∧ Below w.heap.size w w' := by
  obtain ⟨w1, hw1⟩ : ∃ w1, w.alloc (.cells (evC ⟨7, d, n, t, b, er, s1, s2, s3, s4, s5, s6⟩) 27) = w1 := ⟨_, rfl⟩
  have k1 : Blk w1 w.heap.size 27 (evC ⟨7, d, n, t, b, er, s1, s2, s3, s4, s5, s6⟩) := by rw [← hw1]; exact Blk.new _ _ _
  have hb : Below w.heap.size w w1 := by rw [← hw1]; exact (Below.refl _ _).alloc (Nat.le_refl _) _
  have HW1 := Lib.hid hw1
  have HB := Lib.hid hb
  have H6 := Lib.hid h64
  have l1 : (Lib.itoa d).length ≤ 21 := itoa_21 h64.id
  have l2 : (Lib.itoa n).length ≤ 21 := itoa_21 h64.n
  have G1 := Lib.hid (fun w' => rNum d w' h64.id)
  have G2 := Lib.hid (fun w' => rNum n w' h64.n)

  clear hw1 hb h64
  simp only [evC] at k1 HW1 ⊢
  obtain ⟨q1, hq1⟩ : ∃ q, w.heap.size = q := ⟨_, rfl⟩
  have HQ := Lib.hid hq1
  rw [hq1] at k1
  clear hq1
  have d1 := k1.at12
  have hr := Below.refl w1.heap.size w1
  have MK : Hid (∀ w', Below w1.heap.size w1 w' → Below w1.heap.size w1 w' ∧ (w'.cell? ⟨q1, 0, none⟩ = some (.int .i64 7) ∧ w'.cell? ⟨q1, 1, none⟩ = some (.int .i64 d) ∧ w'.cell? ⟨q1, 2, none⟩ = some (.int .i64 n) ∧ w'.cell? ⟨q1, 3, none⟩ = some (.int .i64 t) ∧ w'.cell? ⟨q1, 4, none⟩ = some (.string b) ∧ w'.cell? ⟨q1, 5, none⟩ = some (.int .i64 er) ∧ w'.cell? ⟨q1, 6, none⟩ = some (.int .i64 s1) ∧ w'.cell? ⟨q1, 7, none⟩ = some (.int .i64 s2) ∧ w'.cell? ⟨q1, 8, none⟩ = some (.int .i64 s3) ∧ w'.cell? ⟨q1, 9, none⟩ = some (.int .i64 s4) ∧ w'.cell? ⟨q1, 10, none⟩ = some (.int .i64 s5) ∧ w'.cell? ⟨q1, 11, none⟩ = some (.int .i64 s6))) := Lib.hid fun w' h => ⟨h, (d1 w' h).1, (d1 w' h).2.1, (d1 w' h).2.2.1, (d1 w' h).2.2.2.1, (d1 w' h).2.2.2.2.1, (d1 w' h).2.2.2.2.2.1, (d1 w' h).2.2.2.2.2.2.1, (d1 w' h).2.2.2.2.2.2.2.1, (d1 w' h).2.2.2.2.2.2.2.2.1, (d1 w' h).2.2.2.2.2.2.2.2.2.1, (d1 w' h).2.2.2.2.2.2.2.2.2.2.1, (d1 w' h).2.2.2.2.2.2.2.2.2.2.2.1⟩
  clear k1
  have ba := bt_app
  go_enter Tryz.func15, Tryz.ntmps15
  go_upto_region 1 with fail
  rw [HW1.out, HQ.out]
  go_cut [3, 4, 5] (fun v3 v4 v5 wx => v3 = .string ⟨(32 :: Lib.itoa d).toArray⟩ ∧ v4 = .string ⟨(32 :: Lib.itoa n).toArray⟩ ∧ ∃ q5, v5 = .pointer (some ⟨q5, 0, none⟩) ∧ Blk wx q5 25 #[.int .i64 s1, .int .i64 s2, .int .i64 s3, .int .i64 s4, .int .i64 s5, .int .i64 s6] ∧ Below w1.heap.size w1 wx)
  case first =>
    have c1 : ¬ 9223372036854775807 < 1 + (Lib.itoa d).length := by omega
    have c2 : ¬ 9223372036854775807 < 1 + (Lib.itoa n).length := by omega
    go_region_held3 (fun w' => Below w1.heap.size w1 w' ∧ (w'.cell? ⟨q1, 0, none⟩ = some (.int .i64 7) ∧ w'.cell? ⟨q1, 1, none⟩ = some (.int .i64 d) ∧ w'.cell? ⟨q1, 2, none⟩ = some (.int .i64 n) ∧ w'.cell? ⟨q1, 3, none⟩ = some (.int .i64 t) ∧ w'.cell? ⟨q1, 4, none⟩ = some (.string b) ∧ w'.cell? ⟨q1, 5, none⟩ = some (.int .i64 er) ∧ w'.cell? ⟨q1, 6, none⟩ = some (.int .i64 s1) ∧ w'.cell? ⟨q1, 7, none⟩ = some (.int .i64 s2) ∧ w'.cell? ⟨q1, 8, none⟩ = some (.int .i64 s3) ∧ w'.cell? ⟨q1, 9, none⟩ = some (.int .i64 s4) ∧ w'.cell? ⟨q1, 10, none⟩ = some (.int .i64 s5) ∧ w'.cell? ⟨q1, 11, none⟩ = some (.int .i64 s6))) (exact MK.out _ (by (repeat' (first | exact Below.refl _ _ | assumption | apply Below.drew | apply below_drewN | refine Below.setCell ?_ (by first | assumption | (simp; done) | (simp <;> omega)) _ | refine Below.alloc ?_ (by first | exact Nat.le_refl _ | assumption | (simp; done) | (simp <;> omega)) _)))) (first | (go_at_call 41; with_reducible (refine (G1.out _).mono ?_); rintro e wn ⟨rfl, rfl⟩) | (go_at_call 41; with_reducible (refine (G2.out _).mono ?_); rintro e wn ⟨rfl, rfl⟩))
    all_goals go_wp2_with fail
    all_goals go_meet
    all_goals exact ⟨rfl, rfl, _, rfl, by first | exact (Blk.new _ _ _).drew | exact Blk.new _ _ _, by (repeat' (first | exact Below.refl _ _ | assumption | apply Below.drew | apply below_drewN | refine Below.setCell ?_ (by first | assumption | (simp; done) | (simp <;> omega)) _ | refine Below.alloc ?_ (by first | exact Nat.le_refl _ | assumption | (simp; done) | (simp <;> omega)) _))⟩
  case rest =>
    obtain ⟨rfl, rfl, q5, rfl, k5, hbx⟩ := hcut
    have d2 := fun w' h => (MK.out w' h).2
    have HBX := Lib.hid hbx
    clear d1 hr
    have l3 := text_21 H6.out.tick
    go_wp2_with fail
    refine (rText t _ H6.out.tick).mono ?_; rintro e w2 ⟨rfl, rfl⟩
    go_wp2_with fail
    go_ret
    exact ⟨by simp [lineT, joinL, evWords], HB.out.up hbx⟩

set_option maxHeartbeats 4000000 in
set_option maxRecDepth 100000 in
theorem rPrint8 (d n t : Int) (b : ByteArray) (er s1 s2 s3 s4 s5 s6 : Int) (w : World) (h64 : Ev64 ⟨8, d, n, t, b, er, s1, s2, s3, s4, s5, s6⟩) :
    Calls Tryz.prog 15 #[.agg (evC ⟨8, d, n, t, b, er, s1, s2, s3, s4, s5, s6⟩)] w fun e w' => e = .returned (.string ⟨(lineT ⟨8, d, n, t, b, er, s1, s2, s3, s4, s5, s6⟩).toArray⟩) ∧ Below w.heap.size w w' := by
  obtain ⟨w1, hw1⟩ : ∃ w1, w.alloc (.cells (evC ⟨8, d, n, t, b, er, s1, s2, s3, s4, s5, s6⟩) 27) = w1 := ⟨_, rfl⟩
  have k1 : Blk w1 w.heap.size 27 (evC ⟨8, d, n, t, b, er, s1, s2, s3, s4, s5, s6⟩) := by rw [← hw1]; exact Blk.new _ _ _
  have hb : Below w.heap.size w w1 := by rw [← hw1]; exact (Below.refl _ _).alloc (Nat.le_refl _) _
  have HW1 := Lib.hid hw1
  have HB := Lib.hid hb
  have H6 := Lib.hid h64
  have l1 : (Lib.itoa d).length ≤ 21 := itoa_21 h64.id
  have l2 : (Lib.itoa n).length ≤ 21 := itoa_21 h64.n
  have G1 := Lib.hid (fun w' => rNum d w' h64.id)
  have G2 := Lib.hid (fun w' => rNum n w' h64.n)

  clear hw1 hb h64
  simp only [evC] at k1 HW1 ⊢
  obtain ⟨q1, hq1⟩ : ∃ q, w.heap.size = q := ⟨_, rfl⟩
  have HQ := Lib.hid hq1
  rw [hq1] at k1
  clear hq1
  have d1 := k1.at12
  have hr := Below.refl w1.heap.size w1
  have MK : Hid (∀ w', Below w1.heap.size w1 w' → Below w1.heap.size w1 w' ∧ (w'.cell? ⟨q1, 0, none⟩ = some (.int .i64 8) ∧ w'.cell? ⟨q1, 1, none⟩ = some (.int .i64 d) ∧ w'.cell? ⟨q1, 2, none⟩ = some (.int .i64 n) ∧ w'.cell? ⟨q1, 3, none⟩ = some (.int .i64 t) ∧ w'.cell? ⟨q1, 4, none⟩ = some (.string b) ∧ w'.cell? ⟨q1, 5, none⟩ = some (.int .i64 er) ∧ w'.cell? ⟨q1, 6, none⟩ = some (.int .i64 s1) ∧ w'.cell? ⟨q1, 7, none⟩ = some (.int .i64 s2) ∧ w'.cell? ⟨q1, 8, none⟩ = some (.int .i64 s3) ∧ w'.cell? ⟨q1, 9, none⟩ = some (.int .i64 s4) ∧ w'.cell? ⟨q1, 10, none⟩ = some (.int .i64 s5) ∧ w'.cell? ⟨q1, 11, none⟩ = some (.int .i64 s6))) := Lib.hid fun w' h => ⟨h, (d1 w' h).1, (d1 w' h).2.1, (d1 w' h).2.2.1, (d1 w' h).2.2.2.1, (d1 w' h).2.2.2.2.1, (d1 w' h).2.2.2.2.2.1, (d1 w' h).2.2.2.2.2.2.1, (d1 w' h).2.2.2.2.2.2.2.1, (d1 w' h).2.2.2.2.2.2.2.2.1, (d1 w' h).2.2.2.2.2.2.2.2.2.1, (d1 w' h).2.2.2.2.2.2.2.2.2.2.1, (d1 w' h).2.2.2.2.2.2.2.2.2.2.2.1⟩
  clear k1
  have ba := bt_app
  go_enter Tryz.func15, Tryz.ntmps15
  go_upto_region 1 with fail
  rw [HW1.out, HQ.out]
  go_cut [3, 4, 5] (fun v3 v4 v5 wx => v3 = .string ⟨(32 :: Lib.itoa d).toArray⟩ ∧ v4 = .string ⟨(32 :: Lib.itoa n).toArray⟩ ∧ ∃ q5, v5 = .pointer (some ⟨q5, 0, none⟩) ∧ Blk wx q5 25 #[.int .i64 s1, .int .i64 s2, .int .i64 s3, .int .i64 s4, .int .i64 s5, .int .i64 s6] ∧ Below w1.heap.size w1 wx)
  case first =>
    have c1 : ¬ 9223372036854775807 < 1 + (Lib.itoa d).length := by omega
    have c2 : ¬ 9223372036854775807 < 1 + (Lib.itoa n).length := by omega
    go_region_held3 (fun w' => Below w1.heap.size w1 w' ∧ (w'.cell? ⟨q1, 0, none⟩ = some (.int .i64 8) ∧ w'.cell? ⟨q1, 1, none⟩ = some (.int .i64 d) ∧ w'.cell? ⟨q1, 2, none⟩ = some (.int .i64 n) ∧ w'.cell? ⟨q1, 3, none⟩ = some (.int .i64 t) ∧ w'.cell? ⟨q1, 4, none⟩ = some (.string b) ∧ w'.cell? ⟨q1, 5, none⟩ = some (.int .i64 er) ∧ w'.cell? ⟨q1, 6, none⟩ = some (.int .i64 s1) ∧ w'.cell? ⟨q1, 7, none⟩ = some (.int .i64 s2) ∧ w'.cell? ⟨q1, 8, none⟩ = some (.int .i64 s3) ∧ w'.cell? ⟨q1, 9, none⟩ = some (.int .i64 s4) ∧ w'.cell? ⟨q1, 10, none⟩ = some (.int .i64 s5) ∧ w'.cell? ⟨q1, 11, none⟩ = some (.int .i64 s6))) (exact MK.out _ (by (repeat' (first | exact Below.refl _ _ | assumption | apply Below.drew | apply below_drewN | refine Below.setCell ?_ (by first | assumption | (simp; done) | (simp <;> omega)) _ | refine Below.alloc ?_ (by first | exact Nat.le_refl _ | assumption | (simp; done) | (simp <;> omega)) _)))) (first | (go_at_call 41; with_reducible (refine (G1.out _).mono ?_); rintro e wn ⟨rfl, rfl⟩) | (go_at_call 41; with_reducible (refine (G2.out _).mono ?_); rintro e wn ⟨rfl, rfl⟩))
    all_goals go_wp2_with fail
    all_goals go_meet
    all_goals exact ⟨rfl, rfl, _, rfl, by first | exact (Blk.new _ _ _).drew | exact Blk.new _ _ _, by (repeat' (first | exact Below.refl _ _ | assumption | apply Below.drew | apply below_drewN | refine Below.setCell ?_ (by first | assumption | (simp; done) | (simp <;> omega)) _ | refine Below.alloc ?_ (by first | exact Nat.le_refl _ | assumption | (simp; done) | (simp <;> omega)) _))⟩
  case rest =>
    obtain ⟨rfl, rfl, q5, rfl, k5, hbx⟩ := hcut
    have d2 := fun w' h => (MK.out w' h).2
    have HBX := Lib.hid hbx
    clear d1 hr
    have d5 := k5.at6
    have hr := Below.refl wc.heap.size wc
    have l3 : (textT s1).length ≤ 21 := text_21 H6.out.sT
    have l4 : (Lib.itoa s2).length ≤ 21 := itoa_21 H6.out.sA
    have l5 : (whatT s3).length ≤ 100 := word_100 _ (by decide) s3
    have l6 : (Lib.itoa s4).length ≤ 21 := itoa_21 H6.out.sR
    have l7 : (Lib.itoa s5).length ≤ 21 := itoa_21 H6.out.sN
    have l8 : (statT s6).length ≤ 100 := word_100 _ (by decide) s6
    have F1 := Lib.hid (fun w' => rText s1 w' H6.out.sT)
    have F2 := Lib.hid (fun w' => rNum s2 w' H6.out.sA)
    have F3 := Lib.hid (fun w' => rWhat s3 w' H6.out.sW)
    have F4 := Lib.hid (fun w' => rNum s4 w' H6.out.sR)
    have F5 := Lib.hid (fun w' => rNum s5 w' H6.out.sN)
    have F6 := Lib.hid (fun w' => rStatus s6 w' H6.out.sS)
    obtain ⟨T3, h3⟩ : ∃ q, whatT s3 = q := ⟨_, rfl⟩
    obtain ⟨T6, h6⟩ : ∃ q, statT s6 = q := ⟨_, rfl⟩
    rw [h3] at l5 F3
    rw [h6] at l8 F6
    have HT := Lib.hid (And.intro h3 h6)
    clear h3 h6
    go_upto_region 18 with fail
    refine wp_region_later wc.heap.size (by kernel_rfl) (by kernel_rfl) ?_
    have hu : ∀ u : Later wc.heap.size wc, Below wc.heap.size wc u.world := Later.below
    repeat (go_big_quiet_step ((first | (go_at_call 42; exact later_same (F1.out _)) | (go_at_call 19; exact later_below (Nat.le_refl _) (F3.out _)) | (go_at_call 21; exact later_below (Nat.le_refl _) (F6.out _)) | (go_at_call 41; exact later_same (by first | with_reducible (exact F2.out _) | with_reducible (exact F4.out _) | with_reducible (exact F5.out _))))))
    refine wpQuiet_nil ?_
    intro w2 hb2
    clear hu
    go_wp2_with fail
    go_ret
    exact ⟨by simp [lineT, joinL, evWords, HT.out.1, HT.out.2], HB.out.up (hbx.up hb2)⟩

set_option maxHeartbeats 4000000 in
set_option maxRecDepth 100000 in
theorem rPrint9 (d n t : Int) (b : ByteArray) (er s1 s2 s3 s4 s5 s6 : Int) (w : World) (h64 : Ev64 ⟨9, d, n, t, b, er, s1, s2, s3, s4, s5, s6⟩) :
    Calls Tryz.prog 15 #[.agg (evC ⟨9, d, n, t, b, er, s1, s2, s3, s4, s5, s6⟩)] w fun e w' => e = .returned (.string ⟨(lineT ⟨9, d, n, t, b, er, s1, s2, s3, s4, s5, s6⟩).toArray⟩) ∧ Below w.heap.size w w' := by
  obtain ⟨w1, hw1⟩ : ∃ w1, w.alloc (.cells (evC ⟨9, d, n, t, b, er, s1, s2, s3, s4, s5, s6⟩) 27) = w1 := ⟨_, rfl⟩
  have k1 : Blk w1 w.heap.size 27 (evC ⟨9, d, n, t, b, er, s1, s2, s3, s4, s5, s6⟩) := by rw [← hw1]; exact Blk.new _ _ _
  have hb : Below w.heap.size w w1 := by rw [← hw1]; exact (Below.refl _ _).alloc (Nat.le_refl _) _
  have HW1 := Lib.hid hw1
  have HB := Lib.hid hb
  have H6 := Lib.hid h64
  have l1 : (Lib.itoa d).length ≤ 21 := itoa_21 h64.id
  have l2 : (Lib.itoa n).length ≤ 21 := itoa_21 h64.n
  have G1 := Lib.hid (fun w' => rNum d w' h64.id)
  have G2 := Lib.hid (fun w' => rNum n w' h64.n)

  clear hw1 hb h64
  simp only [evC] at k1 HW1 ⊢
  obtain ⟨q1, hq1⟩ : ∃ q, w.heap.size = q := ⟨_, rfl⟩
  have HQ := Lib.hid hq1
  rw [hq1] at k1
  clear hq1
  have d1 := k1.at12
  have hr := Below.refl w1.heap.size w1
  have MK : Hid (∀ w', Below w1.heap.size w1 w' → Below w1.heap.size w1 w' ∧ (w'.cell? ⟨q1, 0, none⟩ = some (.int .i64 9) ∧ w'.cell? ⟨q1, 1, none⟩ = some (.int .i64 d) ∧ w'.cell? ⟨q1, 2, none⟩ = some (.int .i64 n) ∧ w'.cell? ⟨q1, 3, none⟩ = some (.int .i64 t) ∧ w'.cell? ⟨q1, 4, none⟩ = some (.string b) ∧ w'.cell? ⟨q1, 5, none⟩ = some (.int .i64 er) ∧ w'.cell? ⟨q1, 6, none⟩ = some (.int .i64 s1) ∧ w'.cell? ⟨q1, 7, none⟩ = some (.int .i64 s2) ∧ w'.cell? ⟨q1, 8, none⟩ = some (.int .i64 s3) ∧ w'.cell? ⟨q1, 9, none⟩ = some (.int .i64 s4) ∧ w'.cell? ⟨q1, 10, none⟩ = some (.int .i64 s5) ∧ w'.cell? ⟨q1, 11, none⟩ = some (.int .i64 s6))) := Lib.hid fun w' h => ⟨h, (d1 w' h).1, (d1 w' h).2.1, (d1 w' h).2.2.1, (d1 w' h).2.2.2.1, (d1 w' h).2.2.2.2.1, (d1 w' h).2.2.2.2.2.1, (d1 w' h).2.2.2.2.2.2.1, (d1 w' h).2.2.2.2.2.2.2.1, (d1 w' h).2.2.2.2.2.2.2.2.1, (d1 w' h).2.2.2.2.2.2.2.2.2.1, (d1 w' h).2.2.2.2.2.2.2.2.2.2.1, (d1 w' h).2.2.2.2.2.2.2.2.2.2.2.1⟩
  clear k1
  have ba := bt_app
  go_enter Tryz.func15, Tryz.ntmps15
  go_upto_region 1 with fail
  rw [HW1.out, HQ.out]
  go_cut [3, 4, 5] (fun v3 v4 v5 wx => v3 = .string ⟨(32 :: Lib.itoa d).toArray⟩ ∧ v4 = .string ⟨(32 :: Lib.itoa n).toArray⟩ ∧ ∃ q5, v5 = .pointer (some ⟨q5, 0, none⟩) ∧ Blk wx q5 25 #[.int .i64 s1, .int .i64 s2, .int .i64 s3, .int .i64 s4, .int .i64 s5, .int .i64 s6] ∧ Below w1.heap.size w1 wx)
  case first =>
    have c1 : ¬ 9223372036854775807 < 1 + (Lib.itoa d).length := by omega
    have c2 : ¬ 9223372036854775807 < 1 + (Lib.itoa n).length := by omega
    go_region_held3 (fun w' => Below w1.heap.size w1 w' ∧ (w'.cell? ⟨q1, 0, none⟩ = some (.int .i64 9) ∧ w'.cell? ⟨q1, 1, none⟩ = some (.int .i64 d) ∧ w'.cell? ⟨q1, 2, none⟩ = some (.int .i64 n) ∧ w'.cell? ⟨q1, 3, none⟩ = some (.int .i64 t) ∧ w'.cell? ⟨q1, 4, none⟩ = some (.string b) ∧ w'.cell? ⟨q1, 5, none⟩ = some (.int .i64 er) ∧ w'.cell? ⟨q1, 6, none⟩ = some (.int .i64 s1) ∧ w'.cell? ⟨q1, 7, none⟩ = some (.int .i64 s2) ∧ w'.cell? ⟨q1, 8, none⟩ = some (.int .i64 s3) ∧ w'.cell? ⟨q1, 9, none⟩ = some (.int .i64 s4) ∧ w'.cell? ⟨q1, 10, none⟩ = some (.int .i64 s5) ∧ w'.cell? ⟨q1, 11, none⟩ = some (.int .i64 s6))) (exact MK.out _ (by (repeat' (first | exact Below.refl _ _ | assumption | apply Below.drew | apply below_drewN | refine Below.setCell ?_ (by first | assumption | (simp; done) | (simp <;> omega)) _ | refine Below.alloc ?_ (by first | exact Nat.le_refl _ | assumption | (simp; done) | (simp <;> omega)) _)))) (first | (go_at_call 41; with_reducible (refine (G1.out _).mono ?_); rintro e wn ⟨rfl, rfl⟩) | (go_at_call 41; with_reducible (refine (G2.out _).mono ?_); rintro e wn ⟨rfl, rfl⟩))
    all_goals go_wp2_with fail
    all_goals go_meet
    all_goals exact ⟨rfl, rfl, _, rfl, by first | exact (Blk.new _ _ _).drew | exact Blk.new _ _ _, by (repeat' (first | exact Below.refl _ _ | assumption | apply Below.drew | apply below_drewN | refine Below.setCell ?_ (by first | assumption | (simp; done) | (simp <;> omega)) _ | refine Below.alloc ?_ (by first | exact Nat.le_refl _ | assumption | (simp; done) | (simp <;> omega)) _))⟩
  case rest =>
    obtain ⟨rfl, rfl, q5, rfl, k5, hbx⟩ := hcut
    have d2 := fun w' h => (MK.out w' h).2
    have HBX := Lib.hid hbx
    clear d1 hr
    go_wp2_with fail
    go_ret
    exact ⟨by simp [lineT, joinL, evWords], HB.out.up hbx⟩
end Go.Proofs.YtmnkekepccdlcaaGreatDoor
