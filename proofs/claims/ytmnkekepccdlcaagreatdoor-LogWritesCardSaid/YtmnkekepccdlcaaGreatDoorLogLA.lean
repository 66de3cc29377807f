/-
  An event's line: kind 1. And the others alike.
  Conditions: its numbers are numbers of the machine, its bytes are not too many; the table of powers is laid.
-/
import Derived.Test.YtmnkekepccdlcaaGreatDoorLogL
namespace Go.Proofs.YtmnkekepccdlcaaGreatDoor
set_option linter.unusedVariables false
set_option linter.unusedSimpArgs false
open Go.RowKit

set_option maxHeartbeats 4000000 in
set_option maxRecDepth 100000 in
theorem lLine1 (d n t : Int) (b : ByteArray) (er s1 s2 s3 s4 s5 s6 : Int) (w : World) (h64 : Ev64 ⟨1, d, n, t, b, er, s1, s2, s3, s4, s5, s6⟩) (hp : Pow w) :
    Calls Tryz.prog 45 #[.agg (evC ⟨1, d, n, t, b, er, s1, s2, s3, s4, s5, s6⟩)] w fun e w' => e = .returned (.string ⟨(lineT ⟨1, d, n, t, b, er, s1, s2, s3, s4, s5, s6⟩).toArray⟩) ∧ Below w.heap.size w w' := by
  have hz : ∀ x ∈ ([wRound, textT t] : List (List UInt8)), x.length ≤ 100000 := by
    intro x hx
    simp only [List.mem_cons, List.not_mem_nil, or_false] at hx
    rcases hx with rfl | rfl
    · exact (by decide)
    · exact (text_len _ h64.tick)
  obtain ⟨w1, hw1⟩ : ∃ w1, w.alloc (.cells (evC ⟨1, d, n, t, b, er, s1, s2, s3, s4, s5, s6⟩) 27) = w1 := ⟨_, rfl⟩
  have k1 : Blk w1 w.heap.size 27 (evC ⟨1, d, n, t, b, er, s1, s2, s3, s4, s5, s6⟩) := by rw [← hw1]; exact Blk.new _ _ _
  have hb : Below w.heap.size w w1 := by rw [← hw1]; exact (Below.refl _ _).alloc (Nat.le_refl _) _
  have HW1 := Lib.hid hw1
  have HB := Lib.hid hb
  have HZ := Lib.hid hz
  have HP : Hid (∀ w', Below w1.heap.size w1 w' → Pow w') := Lib.hid fun w' h => pow_later hp (hb.up h)
  have H6 := Lib.hid h64
  have FI := Lib.hid (fun w' (h : Below w1.heap.size w1 w') => lItoa d w' h64.id (HP.out w' h))
  have FN := Lib.hid (fun w' (h : Below w1.heap.size w1 w') => lItoa n w' h64.n (HP.out w' h))
  clear hw1 hb hz hp h64
  simp only [evC] at k1 HW1 ⊢
  obtain ⟨q1, hq1⟩ : ∃ q, w.heap.size = q := ⟨_, rfl⟩
  have HQ := Lib.hid hq1
  rw [hq1] at k1
  clear hq1
  have d1 := k1.at12
  have hr := Below.refl w1.heap.size w1
  have K1 := Lib.hid k1
  clear k1
  go_enter Tryz.func45, Tryz.ntmps45
  go_upto_region 1 with fail
  rw [HW1.out, HQ.out]
  refine wp_region_later w1.heap.size (by kernel_rfl) (by kernel_rfl) ?_
  have hu : ∀ u : Later w1.heap.size w1, Below w1.heap.size w1 u.world := Later.below
  repeat (go_big_quiet_step ((go_at_call 75; exact later_below (Nat.le_refl _) (by first | with_reducible (exact FI.out _ (Later.below _)) | with_reducible (exact FN.out _ (Later.below _))))))
  refine wpQuiet_nil ?_
  intro w2 hb2
  clear hu hr
  have k2 := K1.out.later hb2
  have d2 := k2.at12
  have hr := Below.refl w2.heap.size w2
  clear d1 K1
  go_upto_region 4 with fail
  generalize hw3 : w2.alloc (.cells #[.int .i64 s1, .int .i64 s2, .int .i64 s3, .int .i64 s4, .int .i64 s5, .int .i64 s6] 25) = w3
  have hb3 : Below w1.heap.size w1 w3 := by rw [← hw3]; exact bel_alloc hb2 _
  have k3 : Blk w3 q1 27 #[.int .i64 1, .int .i64 d, .int .i64 n, .int .i64 t, .string b, .int .i64 er, .int .i64 s1, .int .i64 s2, .int .i64 s3, .int .i64 s4, .int .i64 s5, .int .i64 s6] := by rw [← hw3]; exact k2.alloc _
  have k6 : Blk w3 w2.heap.size 25 #[.int .i64 s1, .int .i64 s2, .int .i64 s3, .int .i64 s4, .int .i64 s5, .int .i64 s6] := by rw [← hw3]; exact Blk.new _ _ _
  obtain ⟨q6, hq6⟩ : ∃ q, w2.heap.size = q := ⟨_, rfl⟩
  rw [hq6] at k6 ⊢
  clear hw3 hq6 hr d2 k2 hb2
  have d3 := k3.at12
  have d6 := k6.at6
  have hr := Below.refl w3.heap.size w3
  have HB3 := Lib.hid hb3
  clear k3 k6
  go_wp2_with fail
  refine (tText t _ H6.out.tick (HP.out _ hb3)).mono ?_; rintro e w4 ⟨rfl, hb4⟩
  have hb5 := hb3.up hb4
  go_wp2_with fail
  refine (tJoin ([wRound, textT t] : List (List UInt8)) _ 2 _ (wl_of (Blk.new _ _ _)) (by simp) (Nat.le_refl _) (by simp) HZ.out).mono ?_; rintro e w6 ⟨rfl, hb6⟩
  have hb7 : Below w1.heap.size w1 w6 := (bel_alloc hb5 _).up hb6
  go_wp2_with fail
  go_ret
  exact ⟨rfl, HB.out.up hb7⟩

set_option maxHeartbeats 4000000 in
set_option maxRecDepth 100000 in
theorem lLine2 (d n t : Int) (b : ByteArray) (er s1 s2 s3 s4 s5 s6 : Int) (w : World) (h64 : Ev64 ⟨2, d, n, t, b, er, s1, s2, s3, s4, s5, s6⟩) (hp : Pow w) :
    Calls Tryz.prog 45 #[.agg (evC ⟨2, d, n, t, b, er, s1, s2, s3, s4, s5, s6⟩)] w fun e w' => e = .returned (.string ⟨(lineT ⟨2, d, n, t, b, er, s1, s2, s3, s4, s5, s6⟩).toArray⟩) ∧ Below w.heap.size w w' := by
  have hz : ∀ x ∈ ([wOpen, Lib.itoa d, Lib.itoa n] : List (List UInt8)), x.length ≤ 100000 := by
    intro x hx
    simp only [List.mem_cons, List.not_mem_nil, or_false] at hx
    rcases hx with rfl | rfl | rfl
    · exact (by decide)
    · exact (itoa_len _ h64.id)
    · exact (itoa_len _ h64.n)
  obtain ⟨w1, hw1⟩ : ∃ w1, w.alloc (.cells (evC ⟨2, d, n, t, b, er, s1, s2, s3, s4, s5, s6⟩) 27) = w1 := ⟨_, rfl⟩
  have k1 : Blk w1 w.heap.size 27 (evC ⟨2, d, n, t, b, er, s1, s2, s3, s4, s5, s6⟩) := by rw [← hw1]; exact Blk.new _ _ _
  have hb : Below w.heap.size w w1 := by rw [← hw1]; exact (Below.refl _ _).alloc (Nat.le_refl _) _
  have HW1 := Lib.hid hw1
  have HB := Lib.hid hb
  have HZ := Lib.hid hz
  have HP : Hid (∀ w', Below w1.heap.size w1 w' → Pow w') := Lib.hid fun w' h => pow_later hp (hb.up h)
  have H6 := Lib.hid h64
  have FI := Lib.hid (fun w' (h : Below w1.heap.size w1 w') => lItoa d w' h64.id (HP.out w' h))
  have FN := Lib.hid (fun w' (h : Below w1.heap.size w1 w') => lItoa n w' h64.n (HP.out w' h))
  clear hw1 hb hz hp h64
  simp only [evC] at k1 HW1 ⊢
  obtain ⟨q1, hq1⟩ : ∃ q, w.heap.size = q := ⟨_, rfl⟩
  have HQ := Lib.hid hq1
  rw [hq1] at k1
  clear hq1
  have d1 := k1.at12
  have hr := Below.refl w1.heap.size w1
  have K1 := Lib.hid k1
  clear k1
  go_enter Tryz.func45, Tryz.ntmps45
  go_upto_region 1 with fail
  rw [HW1.out, HQ.out]
  refine wp_region_later w1.heap.size (by kernel_rfl) (by kernel_rfl) ?_
  have hu : ∀ u : Later w1.heap.size w1, Below w1.heap.size w1 u.world := Later.below
  repeat (go_big_quiet_step ((go_at_call 75; exact later_below (Nat.le_refl _) (by first | with_reducible (exact FI.out _ (Later.below _)) | with_reducible (exact FN.out _ (Later.below _))))))
  refine wpQuiet_nil ?_
  intro w2 hb2
  clear hu hr
  have k2 := K1.out.later hb2
  have d2 := k2.at12
  have hr := Below.refl w2.heap.size w2
  clear d1 K1
  go_upto_region 4 with fail
  generalize hw3 : w2.alloc (.cells #[.int .i64 s1, .int .i64 s2, .int .i64 s3, .int .i64 s4, .int .i64 s5, .int .i64 s6] 25) = w3
  have hb3 : Below w1.heap.size w1 w3 := by rw [← hw3]; exact bel_alloc hb2 _
  have k3 : Blk w3 q1 27 #[.int .i64 2, .int .i64 d, .int .i64 n, .int .i64 t, .string b, .int .i64 er, .int .i64 s1, .int .i64 s2, .int .i64 s3, .int .i64 s4, .int .i64 s5, .int .i64 s6] := by rw [← hw3]; exact k2.alloc _
  have k6 : Blk w3 w2.heap.size 25 #[.int .i64 s1, .int .i64 s2, .int .i64 s3, .int .i64 s4, .int .i64 s5, .int .i64 s6] := by rw [← hw3]; exact Blk.new _ _ _
  obtain ⟨q6, hq6⟩ : ∃ q, w2.heap.size = q := ⟨_, rfl⟩
  rw [hq6] at k6 ⊢
  clear hw3 hq6 hr d2 k2 hb2
  have d3 := k3.at12
  have d6 := k6.at6
  have hr := Below.refl w3.heap.size w3
  have HB3 := Lib.hid hb3
  clear k3 k6
  have hb5 := hb3
  go_wp2_with fail
  refine (tJoin ([wOpen, Lib.itoa d, Lib.itoa n] : List (List UInt8)) _ 3 _ (wl_of (Blk.new _ _ _)) (by simp) (Nat.le_refl _) (by simp) HZ.out).mono ?_; rintro e w6 ⟨rfl, hb6⟩
  have hb7 : Below w1.heap.size w1 w6 := (bel_alloc hb5 _).up hb6
  go_wp2_with fail
  go_ret
  exact ⟨rfl, HB.out.up hb7⟩

set_option maxHeartbeats 4000000 in
set_option maxRecDepth 100000 in
theorem lLine3 (d n t : Int) (b : ByteArray) (er s1 s2 s3 s4 s5 s6 : Int) (w : World) (h64 : Ev64 ⟨3, d, n, t, b, er, s1, s2, s3, s4, s5, s6⟩) (hp : Pow w) :
    Calls Tryz.prog 45 #[.agg (evC ⟨3, d, n, t, b, er, s1, s2, s3, s4, s5, s6⟩)] w fun e w' => e = .returned (.string ⟨(lineT ⟨3, d, n, t, b, er, s1, s2, s3, s4, s5, s6⟩).toArray⟩) ∧ Below w.heap.size w w' := by
  have hz : ∀ x ∈ ([wRefuse, Lib.itoa d, Lib.itoa n, Lib.itoa er] : List (List UInt8)), x.length ≤ 100000 := by
    intro x hx
    simp only [List.mem_cons, List.not_mem_nil, or_false] at hx
    rcases hx with rfl | rfl | rfl | rfl
    · exact (by decide)
    · exact (itoa_len _ h64.id)
    · exact (itoa_len _ h64.n)
    · exact (itoa_len _ h64.err)
  obtain ⟨w1, hw1⟩ : ∃ w1, w.alloc (.cells (evC ⟨3, d, n, t, b, er, s1, s2, s3, s4, s5, s6⟩) 27) = w1 := ⟨_, rfl⟩
  have k1 : Blk w1 w.heap.size 27 (evC ⟨3, d, n, t, b, er, s1, s2, s3, s4, s5, s6⟩) := by rw [← hw1]; exact Blk.new _ _ _
  have hb : Below w.heap.size w w1 := by rw [← hw1]; exact (Below.refl _ _).alloc (Nat.le_refl _) _
  have HW1 := Lib.hid hw1
  have HB := Lib.hid hb
  have HZ := Lib.hid hz
  have HP : Hid (∀ w', Below w1.heap.size w1 w' → Pow w') := Lib.hid fun w' h => pow_later hp (hb.up h)
  have H6 := Lib.hid h64
  have FI := Lib.hid (fun w' (h : Below w1.heap.size w1 w') => lItoa d w' h64.id (HP.out w' h))
  have FN := Lib.hid (fun w' (h : Below w1.heap.size w1 w') => lItoa n w' h64.n (HP.out w' h))
  clear hw1 hb hz hp h64
  simp only [evC] at k1 HW1 ⊢
  obtain ⟨q1, hq1⟩ : ∃ q, w.heap.size = q := ⟨_, rfl⟩
  have HQ := Lib.hid hq1
  rw [hq1] at k1
  clear hq1
  have d1 := k1.at12
  have hr := Below.refl w1.heap.size w1
  have K1 := Lib.hid k1
  clear k1
  go_enter Tryz.func45, Tryz.ntmps45
  go_upto_region 1 with fail
  rw [HW1.out, HQ.out]
  refine wp_region_later w1.heap.size (by kernel_rfl) (by kernel_rfl) ?_
  have hu : ∀ u : Later w1.heap.size w1, Below w1.heap.size w1 u.world := Later.below
  repeat (go_big_quiet_step ((go_at_call 75; exact later_below (Nat.le_refl _) (by first | with_reducible (exact FI.out _ (Later.below _)) | with_reducible (exact FN.out _ (Later.below _))))))
  refine wpQuiet_nil ?_
  intro w2 hb2
  clear hu hr
  have k2 := K1.out.later hb2
  have d2 := k2.at12
  have hr := Below.refl w2.heap.size w2
  clear d1 K1
  go_upto_region 4 with fail
  generalize hw3 : w2.alloc (.cells #[.int .i64 s1, .int .i64 s2, .int .i64 s3, .int .i64 s4, .int .i64 s5, .int .i64 s6] 25) = w3
  have hb3 : Below w1.heap.size w1 w3 := by rw [← hw3]; exact bel_alloc hb2 _
  have k3 : Blk w3 q1 27 #[.int .i64 3, .int .i64 d, .int .i64 n, .int .i64 t, .string b, .int .i64 er, .int .i64 s1, .int .i64 s2, .int .i64 s3, .int .i64 s4, .int .i64 s5, .int .i64 s6] := by rw [← hw3]; exact k2.alloc _
  have k6 : Blk w3 w2.heap.size 25 #[.int .i64 s1, .int .i64 s2, .int .i64 s3, .int .i64 s4, .int .i64 s5, .int .i64 s6] := by rw [← hw3]; exact Blk.new _ _ _
  obtain ⟨q6, hq6⟩ : ∃ q, w2.heap.size = q := ⟨_, rfl⟩
  rw [hq6] at k6 ⊢
  clear hw3 hq6 hr d2 k2 hb2
  have d3 := k3.at12
  have d6 := k6.at6
  have hr := Below.refl w3.heap.size w3
  have HB3 := Lib.hid hb3
  clear k3 k6
  go_wp2_with fail
  refine (lItoa er _ H6.out.err (HP.out _ hb3)).mono ?_; rintro e w4 ⟨rfl, hb4⟩
  have hb5 := hb3.up hb4
  go_wp2_with fail
  refine (tJoin ([wRefuse, Lib.itoa d, Lib.itoa n, Lib.itoa er] : List (List UInt8)) _ 4 _ (wl_of (Blk.new _ _ _)) (by simp) (Nat.le_refl _) (by simp) HZ.out).mono ?_; rintro e w6 ⟨rfl, hb6⟩
  have hb7 : Below w1.heap.size w1 w6 := (bel_alloc hb5 _).up hb6
  go_wp2_with fail
  go_ret
  exact ⟨rfl, HB.out.up hb7⟩

set_option maxHeartbeats 4000000 in
set_option maxRecDepth 100000 in
theorem lLine4 (d n t : Int) (b : ByteArray) (er s1 s2 s3 s4 s5 s6 : Int) (w : World) (h64 : Ev64 ⟨4, d, n, t, b, er, s1, s2, s3, s4, s5, s6⟩) (hp : Pow w) :
    Calls Tryz.prog 45 #[.agg (evC ⟨4, d, n, t, b, er, s1, s2, s3, s4, s5, s6⟩)] w fun e w' => e = .returned (.string ⟨(lineT ⟨4, d, n, t, b, er, s1, s2, s3, s4, s5, s6⟩).toArray⟩) ∧ Below w.heap.size w w' := by
  have hz : ∀ x ∈ ([wRead, Lib.itoa d, quoteT b.data.toList] : List (List UInt8)), x.length ≤ 100000 := by
    intro x hx
    simp only [List.mem_cons, List.not_mem_nil, or_false] at hx
    rcases hx with rfl | rfl | rfl
    · exact (by decide)
    · exact (itoa_len _ h64.id)
    · exact (quote_len b h64.bytes)
  obtain ⟨w1, hw1⟩ : ∃ w1, w.alloc (.cells (evC ⟨4, d, n, t, b, er, s1, s2, s3, s4, s5, s6⟩) 27) = w1 := ⟨_, rfl⟩
  have k1 : Blk w1 w.heap.size 27 (evC ⟨4, d, n, t, b, er, s1, s2, s3, s4, s5, s6⟩) := by rw [← hw1]; exact Blk.new _ _ _
  have hb : Below w.heap.size w w1 := by rw [← hw1]; exact (Below.refl _ _).alloc (Nat.le_refl _) _
  have HW1 := Lib.hid hw1
  have HB := Lib.hid hb
  have HZ := Lib.hid hz
  have HP : Hid (∀ w', Below w1.heap.size w1 w' → Pow w') := Lib.hid fun w' h => pow_later hp (hb.up h)
  have H6 := Lib.hid h64
  have FI := Lib.hid (fun w' (h : Below w1.heap.size w1 w') => lItoa d w' h64.id (HP.out w' h))
  have FN := Lib.hid (fun w' (h : Below w1.heap.size w1 w') => lItoa n w' h64.n (HP.out w' h))
  clear hw1 hb hz hp h64
  simp only [evC] at k1 HW1 ⊢
  obtain ⟨q1, hq1⟩ : ∃ q, w.heap.size = q := ⟨_, rfl⟩
  have HQ := Lib.hid hq1
  rw [hq1] at k1
  clear hq1
  have d1 := k1.at12
  have hr := Below.refl w1.heap.size w1
  have K1 := Lib.hid k1
  clear k1
  go_enter Tryz.func45, Tryz.ntmps45
  go_upto_region 1 with fail
  rw [HW1.out, HQ.out]
  refine wp_region_later w1.heap.size (by kernel_rfl) (by kernel_rfl) ?_
  have hu : ∀ u : Later w1.heap.size w1, Below w1.heap.size w1 u.world := Later.below
  repeat (go_big_quiet_step ((go_at_call 75; exact later_below (Nat.le_refl _) (by first | with_reducible (exact FI.out _ (Later.below _)) | with_reducible (exact FN.out _ (Later.below _))))))
  refine wpQuiet_nil ?_
  intro w2 hb2
  clear hu hr
  have k2 := K1.out.later hb2
  have d2 := k2.at12
  have hr := Below.refl w2.heap.size w2
  clear d1 K1
  go_upto_region 4 with fail
  generalize hw3 : w2.alloc (.cells #[.int .i64 s1, .int .i64 s2, .int .i64 s3, .int .i64 s4, .int .i64 s5, .int .i64 s6] 25) = w3
  have hb3 : Below w1.heap.size w1 w3 := by rw [← hw3]; exact bel_alloc hb2 _
  have k3 : Blk w3 q1 27 #[.int .i64 4, .int .i64 d, .int .i64 n, .int .i64 t, .string b, .int .i64 er, .int .i64 s1, .int .i64 s2, .int .i64 s3, .int .i64 s4, .int .i64 s5, .int .i64 s6] := by rw [← hw3]; exact k2.alloc _
  have k6 : Blk w3 w2.heap.size 25 #[.int .i64 s1, .int .i64 s2, .int .i64 s3, .int .i64 s4, .int .i64 s5, .int .i64 s6] := by rw [← hw3]; exact Blk.new _ _ _
  obtain ⟨q6, hq6⟩ : ∃ q, w2.heap.size = q := ⟨_, rfl⟩
  rw [hq6] at k6 ⊢
  clear hw3 hq6 hr d2 k2 hb2
  have d3 := k3.at12
  have d6 := k6.at6
  have hr := Below.refl w3.heap.size w3
  have HB3 := Lib.hid hb3
  clear k3 k6
  go_wp2_with fail
  refine (qQuote b _ (Nat.le_trans H6.out.bytes (by decide))).mono ?_; rintro e w4 ⟨rfl, hb4⟩
  have hb5 := hb3.up hb4
  go_wp2_with fail
  refine (tJoin ([wRead, Lib.itoa d, quoteT b.data.toList] : List (List UInt8)) _ 3 _ (wl_of (Blk.new _ _ _)) (by simp) (Nat.le_refl _) (by simp) HZ.out).mono ?_; rintro e w6 ⟨rfl, hb6⟩
  have hb7 : Below w1.heap.size w1 w6 := (bel_alloc hb5 _).up hb6
  go_wp2_with fail
  go_ret
  exact ⟨rfl, HB.out.up hb7⟩

set_option maxHeartbeats 4000000 in
set_option maxRecDepth 100000 in
theorem lLine5 (d n t : Int) (b : ByteArray) (er s1 s2 s3 s4 s5 s6 : Int) (w : World) (h64 : Ev64 ⟨5, d, n, t, b, er, s1, s2, s3, s4, s5, s6⟩) (hp : Pow w) :
    Calls Tryz.prog 45 #[.agg (evC ⟨5, d, n, t, b, er, s1, s2, s3, s4, s5, s6⟩)] w fun e w' => e = .returned (.string ⟨(lineT ⟨5, d, n, t, b, er, s1, s2, s3, s4, s5, s6⟩).toArray⟩) ∧ Below w.heap.size w w' := by
  have hz : ∀ x ∈ ([wEof, Lib.itoa d] : List (List UInt8)), x.length ≤ 100000 := by
    intro x hx
    simp only [List.mem_cons, List.not_mem_nil, or_false] at hx
    rcases hx with rfl | rfl
    · exact (by decide)
    · exact (itoa_len _ h64.id)
  obtain ⟨w1, hw1⟩ : ∃ w1, w.alloc (.cells (evC ⟨5, d, n, t, b, er, s1, s2, s3, s4, s5, s6⟩) 27) = w1 := ⟨_, rfl⟩
  have k1 : Blk w1 w.heap.size 27 (evC ⟨5, d, n, t, b, er, s1, s2, s3, s4, s5, s6⟩) := by rw [← hw1]; exact Blk.new _ _ _
  have hb : Below w.heap.size w w1 := by rw [← hw1]; exact (Below.refl _ _).alloc (Nat.le_refl _) _
  have HW1 := Lib.hid hw1
  have HB := Lib.hid hb
  have HZ := Lib.hid hz
  have HP : Hid (∀ w', Below w1.heap.size w1 w' → Pow w') := Lib.hid fun w' h => pow_later hp (hb.up h)
  have H6 := Lib.hid h64
  have FI := Lib.hid (fun w' (h : Below w1.heap.size w1 w') => lItoa d w' h64.id (HP.out w' h))
  have FN := Lib.hid (fun w' (h : Below w1.heap.size w1 w') => lItoa n w' h64.n (HP.out w' h))
  clear hw1 hb hz hp h64
  simp only [evC] at k1 HW1 ⊢
  obtain ⟨q1, hq1⟩ : ∃ q, w.heap.size = q := ⟨_, rfl⟩
  have HQ := Lib.hid hq1
  rw [hq1] at k1
  clear hq1
  have d1 := k1.at12
  have hr := Below.refl w1.heap.size w1
  have K1 := Lib.hid k1
  clear k1
  go_enter Tryz.func45, Tryz.ntmps45
  go_upto_region 1 with fail
  rw [HW1.out, HQ.out]
  refine wp_region_later w1.heap.size (by kernel_rfl) (by kernel_rfl) ?_
  have hu : ∀ u : Later w1.heap.size w1, Below w1.heap.size w1 u.world := Later.below
  repeat (go_big_quiet_step ((go_at_call 75; exact later_below (Nat.le_refl _) (by first | with_reducible (exact FI.out _ (Later.below _)) | with_reducible (exact FN.out _ (Later.below _))))))
  refine wpQuiet_nil ?_
  intro w2 hb2
  clear hu hr
  have k2 := K1.out.later hb2
  have d2 := k2.at12
  have hr := Below.refl w2.heap.size w2
  clear d1 K1
  go_upto_region 4 with fail
  generalize hw3 : w2.alloc (.cells #[.int .i64 s1, .int .i64 s2, .int .i64 s3, .int .i64 s4, .int .i64 s5, .int .i64 s6] 25) = w3
  have hb3 : Below w1.heap.size w1 w3 := by rw [← hw3]; exact bel_alloc hb2 _
  have k3 : Blk w3 q1 27 #[.int .i64 5, .int .i64 d, .int .i64 n, .int .i64 t, .string b, .int .i64 er, .int .i64 s1, .int .i64 s2, .int .i64 s3, .int .i64 s4, .int .i64 s5, .int .i64 s6] := by rw [← hw3]; exact k2.alloc _
  have k6 : Blk w3 w2.heap.size 25 #[.int .i64 s1, .int .i64 s2, .int .i64 s3, .int .i64 s4, .int .i64 s5, .int .i64 s6] := by rw [← hw3]; exact Blk.new _ _ _
  obtain ⟨q6, hq6⟩ : ∃ q, w2.heap.size = q := ⟨_, rfl⟩
  rw [hq6] at k6 ⊢
  clear hw3 hq6 hr d2 k2 hb2
  have d3 := k3.at12
  have d6 := k6.at6
  have hr := Below.refl w3.heap.size w3
  have HB3 := Lib.hid hb3
  clear k3 k6
  have hb5 := hb3
  go_wp2_with fail
  refine (tJoin ([wEof, Lib.itoa d] : List (List UInt8)) _ 2 _ (wl_of (Blk.new _ _ _)) (by simp) (Nat.le_refl _) (by simp) HZ.out).mono ?_; rintro e w6 ⟨rfl, hb6⟩
  have hb7 : Below w1.heap.size w1 w6 := (bel_alloc hb5 _).up hb6
  go_wp2_with fail
  go_ret
  exact ⟨rfl, HB.out.up hb7⟩

set_option maxHeartbeats 4000000 in
set_option maxRecDepth 100000 in
theorem lLine6 (d n t : Int) (b : ByteArray) (er s1 s2 s3 s4 s5 s6 : Int) (w : World) (h64 : Ev64 ⟨6, d, n, t, b, er, s1, s2, s3, s4, s5, s6⟩) (hp : Pow w) :
    Calls Tryz.prog 45 #[.agg (evC ⟨6, d, n, t, b, er, s1, s2, s3, s4, s5, s6⟩)] w fun e w' => e = .returned (.string ⟨(lineT ⟨6, d, n, t, b, er, s1, s2, s3, s4, s5, s6⟩).toArray⟩) ∧ Below w.heap.size w w' := by
  have hz : ∀ x ∈ ([wWrite, Lib.itoa d, quoteT b.data.toList] : List (List UInt8)), x.length ≤ 100000 := by
    intro x hx
    simp only [List.mem_cons, List.not_mem_nil, or_false] at hx
    rcases hx with rfl | rfl | rfl
    · exact (by decide)
    · exact (itoa_len _ h64.id)
    · exact (quote_len b h64.bytes)
  obtain ⟨w1, hw1⟩ : ∃ w1, w.alloc (.cells (evC ⟨6, d, n, t, b, er, s1, s2, s3, s4, s5, s6⟩) 27) = w1 := ⟨_, rfl⟩
  have k1 : Blk w1 w.heap.size 27 (evC ⟨6, d, n, t, b, er, s1, s2, s3, s4, s5, s6⟩) := by rw [← hw1]; exact Blk.new _ _ _
  have hb : Below w.heap.size w w1 := by rw [← hw1]; exact (Below.refl _ _).alloc (Nat.le_refl _) _
  have HW1 := Lib.hid hw1
  have HB := Lib.hid hb
  have HZ := Lib.hid hz
  have HP : Hid (∀ w', Below w1.heap.size w1 w' → Pow w') := Lib.hid fun w' h => pow_later hp (hb.up h)
  have H6 := Lib.hid h64
  have FI := Lib.hid (fun w' (h : Below w1.heap.size w1 w') => lItoa d w' h64.id (HP.out w' h))
  have FN := Lib.hid (fun w' (h : Below w1.heap.size w1 w') => lItoa n w' h64.n (HP.out w' h))
  clear hw1 hb hz hp h64
  simp only [evC] at k1 HW1 ⊢
  obtain ⟨q1, hq1⟩ : ∃ q, w.heap.size = q := ⟨_, rfl⟩
  have HQ := Lib.hid hq1
  rw [hq1] at k1
  clear hq1
  have d1 := k1.at12
  have hr := Below.refl w1.heap.size w1
  have K1 := Lib.hid k1
  clear k1
  go_enter Tryz.func45, Tryz.ntmps45
  go_upto_region 1 with fail
  rw [HW1.out, HQ.out]
  refine wp_region_later w1.heap.size (by kernel_rfl) (by kernel_rfl) ?_
  have hu : ∀ u : Later w1.heap.size w1, Below w1.heap.size w1 u.world := Later.below
  repeat (go_big_quiet_step ((go_at_call 75; exact later_below (Nat.le_refl _) (by first | with_reducible (exact FI.out _ (Later.below _)) | with_reducible (exact FN.out _ (Later.below _))))))
  refine wpQuiet_nil ?_
  intro w2 hb2
  clear hu hr
  have k2 := K1.out.later hb2
  have d2 := k2.at12
  have hr := Below.refl w2.heap.size w2
  clear d1 K1
  go_upto_region 4 with fail
  generalize hw3 : w2.alloc (.cells #[.int .i64 s1, .int .i64 s2, .int .i64 s3, .int .i64 s4, .int .i64 s5, .int .i64 s6] 25) = w3
  have hb3 : Below w1.heap.size w1 w3 := by rw [← hw3]; exact bel_alloc hb2 _
  have k3 : Blk w3 q1 27 #[.int .i64 6, .int .i64 d, .int .i64 n, .int .i64 t, .string b, .int .i64 er, .int .i64 s1, .int .i64 s2, .int .i64 s3, .int .i64 s4, .int .i64 s5, .int .i64 s6] := by rw [← hw3]; exact k2.alloc _
  have k6 : Blk w3 w2.heap.size 25 #[.int .i64 s1, .int .i64 s2, .int .i64 s3, .int .i64 s4, .int .i64 s5, .int .i64 s6] := by rw [← hw3]; exact Blk.new _ _ _
  obtain ⟨q6, hq6⟩ : ∃ q, w2.heap.size = q := ⟨_, rfl⟩
  rw [hq6] at k6 ⊢
  clear hw3 hq6 hr d2 k2 hb2
  have d3 := k3.at12
  have d6 := k6.at6
  have hr := Below.refl w3.heap.size w3
  have HB3 := Lib.hid hb3
  clear k3 k6
  go_wp2_with fail
  refine (qQuote b _ (Nat.le_trans H6.out.bytes (by decide))).mono ?_; rintro e w4 ⟨rfl, hb4⟩
  have hb5 := hb3.up hb4
  go_wp2_with fail
  refine (tJoin ([wWrite, Lib.itoa d, quoteT b.data.toList] : List (List UInt8)) _ 3 _ (wl_of (Blk.new _ _ _)) (by simp) (Nat.le_refl _) (by simp) HZ.out).mono ?_; rintro e w6 ⟨rfl, hb6⟩
  have hb7 : Below w1.heap.size w1 w6 := (bel_alloc hb5 _).up hb6
  go_wp2_with fail
  go_ret
  exact ⟨rfl, HB.out.up hb7⟩

set_option maxHeartbeats 4000000 in
set_option maxRecDepth 100000 in
theorem lLine7 (d n t : Int) (b : ByteArray) (er s1 s2 s3 s4 s5 s6 : Int) (w : World) (h64 : Ev64 ⟨7, d, n, t, b, er, s1, s2, s3, s4, s5, s6⟩) (hp : Pow w) :
    Calls Tryz.prog 45 #[.agg (evC ⟨7, d, n, t, b, er, s1, s2, s3, s4, s5, s6⟩)] w fun e w' => e = .returned (.string ⟨(lineT ⟨7, d, n, t, b, er, s1, s2, s3, s4, s5, s6⟩).toArray⟩) ∧ Below w.heap.size w w' := by
  have hz : ∀ x ∈ ([wDrain, textT t] : List (List UInt8)), x.length ≤ 100000 := by
    intro x hx
    simp only [List.mem_cons, List.not_mem_nil, or_false] at hx
    rcases hx with rfl | rfl
    · exact (by decide)
    · exact (text_len _ h64.tick)
  obtain ⟨w1, hw1⟩ : ∃ w1, w.alloc (.cells (evC ⟨7, d, n, t, b, er, s1, s2, s3, s4, s5, s6⟩) 27) = w1 := ⟨_, rfl⟩
  have k1 : Blk w1 w.heap.size 27 (evC ⟨7, d, n, t, b, er, s1, s2, s3, s4, s5, s6⟩) := by rw [← hw1]; exact Blk.new _ _ _
  have hb : Below w.heap.size w w1 := by rw [← hw1]; exact (Below.refl _ _).alloc (Nat.le_refl _) _
  have HW1 := Lib.hid hw1
  have HB := Lib.hid hb
  have HZ := Lib.hid hz
  have HP : Hid (∀ w', Below w1.heap.size w1 w' → Pow w') := Lib.hid fun w' h => pow_later hp (hb.up h)
  have H6 := Lib.hid h64
  have FI := Lib.hid (fun w' (h : Below w1.heap.size w1 w') => lItoa d w' h64.id (HP.out w' h))
  have FN := Lib.hid (fun w' (h : Below w1.heap.size w1 w') => lItoa n w' h64.n (HP.out w' h))
  clear hw1 hb hz hp h64
  simp only [evC] at k1 HW1 ⊢
  obtain ⟨q1, hq1⟩ : ∃ q, w.heap.size = q := ⟨_, rfl⟩
  have HQ := Lib.hid hq1
  rw [hq1] at k1
  clear hq1
  have d1 := k1.at12
  have hr := Below.refl w1.heap.size w1
  have K1 := Lib.hid k1
  clear k1
  go_enter Tryz.func45, Tryz.ntmps45
  go_upto_region 1 with fail
  rw [HW1.out, HQ.out]
  refine wp_region_later w1.heap.size (by kernel_rfl) (by kernel_rfl) ?_
  have hu : ∀ u : Later w1.heap.size w1, Below w1.heap.size w1 u.world := Later.below
  repeat (go_big_quiet_step ((go_at_call 75; exact later_below (Nat.le_refl _) (by first | with_reducible (exact FI.out _ (Later.below _)) | with_reducible (exact FN.out _ (Later.below _))))))
  refine wpQuiet_nil ?_
  intro w2 hb2
  clear hu hr
  have k2 := K1.out.later hb2
  have d2 := k2.at12
  have hr := Below.refl w2.heap.size w2
  clear d1 K1
  go_upto_region 4 with fail
  generalize hw3 : w2.alloc (.cells #[.int .i64 s1, .int .i64 s2, .int .i64 s3, .int .i64 s4, .int .i64 s5, .int .i64 s6] 25) = w3
  have hb3 : Below w1.heap.size w1 w3 := by rw [← hw3]; exact bel_alloc hb2 _
  have k3 : Blk w3 q1 27 #[.int .i64 7, .int .i64 d, .int .i64 n, .int .i64 t, .string b, .int .i64 er, .int .i64 s1, .int .i64 s2, .int .i64 s3, .int .i64 s4, .int .i64 s5, .int .i64 s6] := by rw [← hw3]; exact k2.alloc _
  have k6 : Blk w3 w2.heap.size 25 #[.int .i64 s1, .int .i64 s2, .int .i64 s3, .int .i64 s4, .int .i64 s5, .int .i64 s6] := by rw [← hw3]; exact Blk.new _ _ _
  obtain ⟨q6, hq6⟩ : ∃ q, w2.heap.size = q := ⟨_, rfl⟩
  rw [hq6] at k6 ⊢
  clear hw3 hq6 hr d2 k2 hb2
  have d3 := k3.at12
  have d6 := k6.at6
  have hr := Below.refl w3.heap.size w3
  have HB3 := Lib.hid hb3
  clear k3 k6
  go_wp2_with fail
  refine (tText t _ H6.out.tick (HP.out _ hb3)).mono ?_; rintro e w4 ⟨rfl, hb4⟩
  have hb5 := hb3.up hb4
  go_wp2_with fail
  refine (tJoin ([wDrain, textT t] : List (List UInt8)) _ 2 _ (wl_of (Blk.new _ _ _)) (by simp) (Nat.le_refl _) (by simp) HZ.out).mono ?_; rintro e w6 ⟨rfl, hb6⟩
  have hb7 : Below w1.heap.size w1 w6 := (bel_alloc hb5 _).up hb6
  go_wp2_with fail
  go_ret
  exact ⟨rfl, HB.out.up hb7⟩

set_option maxHeartbeats 4000000 in
set_option maxRecDepth 100000 in
theorem lLine8 (d n t : Int) (b : ByteArray) (er s1 s2 s3 s4 s5 s6 : Int) (w : World) (h64 : Ev64 ⟨8, d, n, t, b, er, s1, s2, s3, s4, s5, s6⟩) (hp : Pow w) :
    Calls Tryz.prog 45 #[.agg (evC ⟨8, d, n, t, b, er, s1, s2, s3, s4, s5, s6⟩)] w fun e w' => e = .returned (.string ⟨(lineT ⟨8, d, n, t, b, er, s1, s2, s3, s4, s5, s6⟩).toArray⟩) ∧ Below w.heap.size w w' := by
  have hz : ∀ x ∈ ([wStep, Lib.itoa d, textT s1, Lib.itoa s2, whatT s3, Lib.itoa s4, Lib.itoa s5, statT s6] : List (List UInt8)), x.length ≤ 100000 := by
    intro x hx
    simp only [List.mem_cons, List.not_mem_nil, or_false] at hx
    rcases hx with rfl | rfl | rfl | rfl | rfl | rfl | rfl | rfl
    · exact (by decide)
    · exact (itoa_len _ h64.id)
    · exact (text_len _ h64.sT)
    · exact (itoa_len _ h64.sA)
    · exact (what_len _)
    · exact (itoa_len _ h64.sR)
    · exact (itoa_len _ h64.sN)
    · exact (stat_len _)
  obtain ⟨w1, hw1⟩ : ∃ w1, w.alloc (.cells (evC ⟨8, d, n, t, b, er, s1, s2, s3, s4, s5, s6⟩) 27) = w1 := ⟨_, rfl⟩
  have k1 : Blk w1 w.heap.size 27 (evC ⟨8, d, n, t, b, er, s1, s2, s3, s4, s5, s6⟩) := by rw [← hw1]; exact Blk.new _ _ _
  have hb : Below w.heap.size w w1 := by rw [← hw1]; exact (Below.refl _ _).alloc (Nat.le_refl _) _
  have HW1 := Lib.hid hw1
  have HB := Lib.hid hb
  have HZ := Lib.hid hz
  have HP : Hid (∀ w', Below w1.heap.size w1 w' → Pow w') := Lib.hid fun w' h => pow_later hp (hb.up h)
  have H6 := Lib.hid h64
  have FI := Lib.hid (fun w' (h : Below w1.heap.size w1 w') => lItoa d w' h64.id (HP.out w' h))
  have FN := Lib.hid (fun w' (h : Below w1.heap.size w1 w') => lItoa n w' h64.n (HP.out w' h))
  clear hw1 hb hz hp h64
  simp only [evC] at k1 HW1 ⊢
  obtain ⟨q1, hq1⟩ : ∃ q, w.heap.size = q := ⟨_, rfl⟩
  have HQ := Lib.hid hq1
  rw [hq1] at k1
  clear hq1
  have d1 := k1.at12
  have hr := Below.refl w1.heap.size w1
  have K1 := Lib.hid k1
  clear k1
  go_enter Tryz.func45, Tryz.ntmps45
  go_upto_region 1 with fail
  rw [HW1.out, HQ.out]
  refine wp_region_later w1.heap.size (by kernel_rfl) (by kernel_rfl) ?_
  have hu : ∀ u : Later w1.heap.size w1, Below w1.heap.size w1 u.world := Later.below
  repeat (go_big_quiet_step ((go_at_call 75; exact later_below (Nat.le_refl _) (by first | with_reducible (exact FI.out _ (Later.below _)) | with_reducible (exact FN.out _ (Later.below _))))))
  refine wpQuiet_nil ?_
  intro w2 hb2
  clear hu hr
  have k2 := K1.out.later hb2
  have d2 := k2.at12
  have hr := Below.refl w2.heap.size w2
  clear d1 K1
  go_upto_region 4 with fail
  generalize hw3 : w2.alloc (.cells #[.int .i64 s1, .int .i64 s2, .int .i64 s3, .int .i64 s4, .int .i64 s5, .int .i64 s6] 25) = w3
  have hb3 : Below w1.heap.size w1 w3 := by rw [← hw3]; exact bel_alloc hb2 _
  have k3 : Blk w3 q1 27 #[.int .i64 8, .int .i64 d, .int .i64 n, .int .i64 t, .string b, .int .i64 er, .int .i64 s1, .int .i64 s2, .int .i64 s3, .int .i64 s4, .int .i64 s5, .int .i64 s6] := by rw [← hw3]; exact k2.alloc _
  have k6 : Blk w3 w2.heap.size 25 #[.int .i64 s1, .int .i64 s2, .int .i64 s3, .int .i64 s4, .int .i64 s5, .int .i64 s6] := by rw [← hw3]; exact Blk.new _ _ _
  obtain ⟨q6, hq6⟩ : ∃ q, w2.heap.size = q := ⟨_, rfl⟩
  rw [hq6] at k6 ⊢
  clear hw3 hq6 hr d2 k2 hb2
  have d3 := k3.at12
  have d6 := k6.at6
  have hr := Below.refl w3.heap.size w3
  have HB3 := Lib.hid hb3
  clear k3 k6
  have G1 := Lib.hid (fun w' (h : Below w3.heap.size w3 w') => tText s1 w' H6.out.sT (HP.out w' (HB3.out.up h)))
  have G2 := Lib.hid (fun w' (h : Below w3.heap.size w3 w') => lItoa s2 w' H6.out.sA (HP.out w' (HB3.out.up h)))
  have G3 := Lib.hid (fun w' => lWhat s3 w' H6.out.sW)
  have G4 := Lib.hid (fun w' (h : Below w3.heap.size w3 w') => lItoa s4 w' H6.out.sR (HP.out w' (HB3.out.up h)))
  have G5 := Lib.hid (fun w' (h : Below w3.heap.size w3 w') => lItoa s5 w' H6.out.sN (HP.out w' (HB3.out.up h)))
  have G6 := Lib.hid (fun w' => lStatus s6 w' H6.out.sS)
  clear hb3
  go_upto_region 21 with fail
  refine wp_region_later_tail w3.heap.size 19 (by kernel_rfl) (by kernel_rfl) ?_
  simp only [List.take_succ_cons, List.take_zero, List.drop_succ_cons, List.drop_zero]
  have hu : ∀ u : Later w3.heap.size w3, Below w3.heap.size w3 u.world := Later.below
  repeat (go_big_quiet_step ((first | (go_at_call 76; exact later_below (Nat.le_refl _) (G1.out _ (Later.below _))) | (go_at_call 18; exact later_below (Nat.le_refl _) (G3.out _)) | (go_at_call 20; exact later_below (Nat.le_refl _) (G6.out _)) | (go_at_call 75; exact later_below (Nat.le_refl _) (by first | with_reducible (exact G2.out _ (Later.below _)) | with_reducible (exact G4.out _ (Later.below _)) | with_reducible (exact G5.out _ (Later.below _)))))))
  refine wpQuiet_nil ?_
  intro w4 hb4
  clear hu
  have hb5 := HB3.out.up hb4
  go_wp2_with fail
  refine (tJoin ([wStep, Lib.itoa d, textT s1, Lib.itoa s2, whatT s3, Lib.itoa s4, Lib.itoa s5, statT s6] : List (List UInt8)) _ 8 _ (wl_of (Blk.new _ _ _)) (by simp) (Nat.le_refl _) (by simp) HZ.out).mono ?_; rintro e w6 ⟨rfl, hb6⟩
  have hb7 : Below w1.heap.size w1 w6 := (bel_alloc hb5 _).up hb6
  go_wp2_with fail
  go_ret
  exact ⟨rfl, HB.out.up hb7⟩

set_option maxHeartbeats 4000000 in
set_option maxRecDepth 100000 in
theorem lLine9 (d n t : Int) (b : ByteArray) (er s1 s2 s3 s4 s5 s6 : Int) (w : World) (h64 : Ev64 ⟨9, d, n, t, b, er, s1, s2, s3, s4, s5, s6⟩) (hp : Pow w) :
    Calls Tryz.prog 45 #[.agg (evC ⟨9, d, n, t, b, er, s1, s2, s3, s4, s5, s6⟩)] w fun e w' => e = .returned (.string ⟨(lineT ⟨9, d, n, t, b, er, s1, s2, s3, s4, s5, s6⟩).toArray⟩) ∧ Below w.heap.size w w' := by
  have hz : ∀ x ∈ ([wStop] : List (List UInt8)), x.length ≤ 100000 := by
    intro x hx
    simp only [List.mem_cons, List.not_mem_nil, or_false] at hx
    subst hx; exact (by decide)
  obtain ⟨w1, hw1⟩ : ∃ w1, w.alloc (.cells (evC ⟨9, d, n, t, b, er, s1, s2, s3, s4, s5, s6⟩) 27) = w1 := ⟨_, rfl⟩
  have k1 : Blk w1 w.heap.size 27 (evC ⟨9, d, n, t, b, er, s1, s2, s3, s4, s5, s6⟩) := by rw [← hw1]; exact Blk.new _ _ _
  have hb : Below w.heap.size w w1 := by rw [← hw1]; exact (Below.refl _ _).alloc (Nat.le_refl _) _
  have HW1 := Lib.hid hw1
  have HB := Lib.hid hb
  have HZ := Lib.hid hz
  have HP : Hid (∀ w', Below w1.heap.size w1 w' → Pow w') := Lib.hid fun w' h => pow_later hp (hb.up h)
  have H6 := Lib.hid h64
  have FI := Lib.hid (fun w' (h : Below w1.heap.size w1 w') => lItoa d w' h64.id (HP.out w' h))
  have FN := Lib.hid (fun w' (h : Below w1.heap.size w1 w') => lItoa n w' h64.n (HP.out w' h))
  clear hw1 hb hz hp h64
  simp only [evC] at k1 HW1 ⊢
  obtain ⟨q1, hq1⟩ : ∃ q, w.heap.size = q := ⟨_, rfl⟩
  have HQ := Lib.hid hq1
  rw [hq1] at k1
  clear hq1
  have d1 := k1.at12
  have hr := Below.refl w1.heap.size w1
  have K1 := Lib.hid k1
  clear k1
  go_enter Tryz.func45, Tryz.ntmps45
  go_upto_region 1 with fail
  rw [HW1.out, HQ.out]
  refine wp_region_later w1.heap.size (by kernel_rfl) (by kernel_rfl) ?_
  have hu : ∀ u : Later w1.heap.size w1, Below w1.heap.size w1 u.world := Later.below
  repeat (go_big_quiet_step ((go_at_call 75; exact later_below (Nat.le_refl _) (by first | with_reducible (exact FI.out _ (Later.below _)) | with_reducible (exact FN.out _ (Later.below _))))))
  refine wpQuiet_nil ?_
  intro w2 hb2
  clear hu hr
  have k2 := K1.out.later hb2
  have d2 := k2.at12
  have hr := Below.refl w2.heap.size w2
  clear d1 K1
  go_upto_region 4 with fail
  generalize hw3 : w2.alloc (.cells #[.int .i64 s1, .int .i64 s2, .int .i64 s3, .int .i64 s4, .int .i64 s5, .int .i64 s6] 25) = w3
  have hb3 : Below w1.heap.size w1 w3 := by rw [← hw3]; exact bel_alloc hb2 _
  have k3 : Blk w3 q1 27 #[.int .i64 9, .int .i64 d, .int .i64 n, .int .i64 t, .string b, .int .i64 er, .int .i64 s1, .int .i64 s2, .int .i64 s3, .int .i64 s4, .int .i64 s5, .int .i64 s6] := by rw [← hw3]; exact k2.alloc _
  have k6 : Blk w3 w2.heap.size 25 #[.int .i64 s1, .int .i64 s2, .int .i64 s3, .int .i64 s4, .int .i64 s5, .int .i64 s6] := by rw [← hw3]; exact Blk.new _ _ _
  obtain ⟨q6, hq6⟩ : ∃ q, w2.heap.size = q := ⟨_, rfl⟩
  rw [hq6] at k6 ⊢
  clear hw3 hq6 hr d2 k2 hb2
  have d3 := k3.at12
  have d6 := k6.at6
  have hr := Below.refl w3.heap.size w3
  have HB3 := Lib.hid hb3
  clear k3 k6
  have hb5 := hb3
  go_wp2_with fail
  refine (tJoin ([wStop] : List (List UInt8)) _ 1 _ (wl_of (Blk.new _ _ _)) (by simp) (Nat.le_refl _) (by simp) HZ.out).mono ?_; rintro e w6 ⟨rfl, hb6⟩
  have hb7 : Below w1.heap.size w1 w6 := (bel_alloc hb5 _).up hb6
  go_wp2_with fail
  go_ret
  exact ⟨rfl, HB.out.up hb7⟩
end Go.Proofs.YtmnkekepccdlcaaGreatDoor
