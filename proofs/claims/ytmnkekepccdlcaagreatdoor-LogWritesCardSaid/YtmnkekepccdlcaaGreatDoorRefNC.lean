/-
  The reference's Good of any event of kind 7. And the others alike.
  Conditions: its bytes are not too many.
-/
import Derived.Test.YtmnkekepccdlcaaGreatDoorRefN
namespace Go.Proofs.YtmnkekepccdlcaaGreatDoor
set_option linter.unusedVariables false
set_option linter.unusedSimpArgs false
open Go.RowKit

set_option maxHeartbeats 8000000 in
set_option maxRecDepth 100000 in
theorem rGoodK7 (d n t : Int) (b : ByteArray) (er s1 s2 s3 s4 s5 s6 : Int) (w : World) (hs : b.size ≤ 1000) (i3 : i64 s3) (i6 : i64 s6) :
    Calls Tryz.prog 14 #[.agg #[.int .i64 7, .int .i64 d, .int .i64 n, .int .i64 t, .string b, .int .i64 er, .int .i64 s1, .int .i64 s2, .int .i64 s3, .int .i64 s4, .int .i64 s5, .int .i64 s6]] w fun e w' => e = .returned (.bool (goodT ⟨7, d, n, t, b, er, s1, s2, s3, s4, s5, s6⟩)) ∧ Below w.heap.size w w' := by
  obtain ⟨w1, hw1⟩ : ∃ w1, w.alloc (.cells #[.int .i64 7, .int .i64 d, .int .i64 n, .int .i64 t, .string b, .int .i64 er, .int .i64 s1, .int .i64 s2, .int .i64 s3, .int .i64 s4, .int .i64 s5, .int .i64 s6] 27) = w1 := ⟨_, rfl⟩
  have k1 : Blk w1 w.heap.size 27 #[.int .i64 7, .int .i64 d, .int .i64 n, .int .i64 t, .string b, .int .i64 er, .int .i64 s1, .int .i64 s2, .int .i64 s3, .int .i64 s4, .int .i64 s5, .int .i64 s6] := by rw [← hw1]; exact Blk.new _ _ _
  have hb : Below w.heap.size w w1 := by rw [← hw1]; exact (Below.refl _ _).alloc (Nat.le_refl _) _
  have HW1 := Lib.hid hw1
  have HB := Lib.hid hb
  have GW := Lib.hid (fun w' => rWhat s3 w' i3)
  have GS := Lib.hid (fun w' => rStatus s6 w' i6)
  obtain ⟨q1, hq1⟩ : ∃ q, w.heap.size = q := ⟨_, rfl⟩
  have HQ := Lib.hid hq1
  rw [hq1] at k1
  have K1 := Lib.hid k1
  have d1 := k1.at12
  have hr := Below.refl w1.heap.size w1
  clear hw1 hb k1 hq1 i3 i6
  go_enter Tryz.func14, Tryz.ntmps14
  go_upto_region 1 with fail
  rw [HW1.out, HQ.out]
  go_cut [3, 4] (fun v3 v4 wx => v3 = .int .i64 7 ∧ v4 = .bool (inT d 0 4095) ∧ Below w1.heap.size w1 wx)
  case first =>
    by_cases h0 : 0 ≤ d
    · have HI := Lib.hid (show inT d 0 4095 = decide (d < 4096) by unfold inT; simp [h0]; omega)
      refine wp_region_later w1.heap.size (by kernel_rfl) (by kernel_rfl) ?_
      have hu : ∀ u : Later w1.heap.size w1, Below w1.heap.size w1 u.world := Later.below
      repeat (go_big_quiet_step ((fail)))
      refine wpQuiet_nil ?_
      intro w2 hb2
      clear hu
      go_wp2_with fail
      go_meet
      exact ⟨rfl, by rw [HI.out], hb2⟩
    · have HI := Lib.hid (show inT d 0 4095 = false by unfold inT; simp; omega)
      have h1 : decide (0 ≤ d) = false := decide_eq_false h0
      refine wp_region_later w1.heap.size (by kernel_rfl) (by kernel_rfl) ?_
      have hu : ∀ u : Later w1.heap.size w1, Below w1.heap.size w1 u.world := Later.below
      repeat (go_big_quiet_step ((fail)))
      refine wpQuiet_nil ?_
      intro w2 hb2
      clear hu
      go_wp2_with fail
      go_meet
      exact ⟨rfl, by rw [HI.out], hb2⟩
  case rest =>
    obtain ⟨rfl, rfl, hbx⟩ := hcut
    obtain ⟨idB, hI⟩ : ∃ q, inT d 0 4095 = q := ⟨_, rfl⟩
    rw [hI]
    have HI := Lib.hid hI
    have k2 := K1.out.later hbx
    have hb2 := HB.out.up hbx
    clear hI hbx d1 hr K1 HB HW1
    have d1 := k2.at12
    have hr := Below.refl wc.heap.size wc
    clear k2
    by_cases hc0 : ¬ b = ⟨#[]⟩
    · have f0 := ne_emp hc0
      have HG := Lib.hid (show goodT ⟨7, d, n, t, b, er, s1, s2, s3, s4, s5, s6⟩ = false by simp [goodT, bareT, ev0, inT, stepT, hc0]; try omega)
      go_wp2_with fail
      go_ret
      exact ⟨by (rw [HG.out]; try rfl), hb2⟩
    obtain rfl : b = ⟨#[]⟩ := Decidable.not_not.1 hc0
    by_cases hc1 : ¬ er = 0
    · have f1 : (er == 0) = false := ne_b hc1
      have HG := Lib.hid (show goodT ⟨7, d, n, t, ⟨#[]⟩, er, s1, s2, s3, s4, s5, s6⟩ = false by simp [goodT, bareT, ev0, inT, stepT, hc1]; try omega)
      go_wp2_with fail
      go_ret
      exact ⟨by (rw [HG.out]; try rfl), hb2⟩
    obtain rfl : er = 0 := Decidable.not_not.1 hc1
    by_cases hc2 : ¬ s1 = 0
    · have f2 : (s1 == 0) = false := ne_b hc2
      have HG := Lib.hid (show goodT ⟨7, d, n, t, ⟨#[]⟩, 0, s1, s2, s3, s4, s5, s6⟩ = false by simp [goodT, bareT, ev0, inT, stepT, hc2]; try omega)
      go_wp2_with fail
      go_ret
      exact ⟨by (rw [HG.out]; try rfl), hb2⟩
    obtain rfl : s1 = 0 := Decidable.not_not.1 hc2
    by_cases hc3 : ¬ s2 = 0
    · have f3 : (s2 == 0) = false := ne_b hc3
      have HG := Lib.hid (show goodT ⟨7, d, n, t, ⟨#[]⟩, 0, 0, s2, s3, s4, s5, s6⟩ = false by simp [goodT, bareT, ev0, inT, stepT, hc3]; try omega)
      go_wp2_with fail
      go_ret
      exact ⟨by (rw [HG.out]; try rfl), hb2⟩
    obtain rfl : s2 = 0 := Decidable.not_not.1 hc3
    by_cases hc4 : ¬ s3 = 0
    · have f4 : (s3 == 0) = false := ne_b hc4
      have HG := Lib.hid (show goodT ⟨7, d, n, t, ⟨#[]⟩, 0, 0, 0, s3, s4, s5, s6⟩ = false by simp [goodT, bareT, ev0, inT, stepT, hc4]; try omega)
      go_wp2_with fail
      go_ret
      exact ⟨by (rw [HG.out]; try rfl), hb2⟩
    obtain rfl : s3 = 0 := Decidable.not_not.1 hc4
    by_cases hc5 : ¬ s4 = 0
    · have f5 : (s4 == 0) = false := ne_b hc5
      have HG := Lib.hid (show goodT ⟨7, d, n, t, ⟨#[]⟩, 0, 0, 0, 0, s4, s5, s6⟩ = false by simp [goodT, bareT, ev0, inT, stepT, hc5]; try omega)
      go_wp2_with fail
      go_ret
      exact ⟨by (rw [HG.out]; try rfl), hb2⟩
    obtain rfl : s4 = 0 := Decidable.not_not.1 hc5
    by_cases hc6 : ¬ s5 = 0
    · have f6 : (s5 == 0) = false := ne_b hc6
      have HG := Lib.hid (show goodT ⟨7, d, n, t, ⟨#[]⟩, 0, 0, 0, 0, 0, s5, s6⟩ = false by simp [goodT, bareT, ev0, inT, stepT, hc6]; try omega)
      go_wp2_with fail
      go_ret
      exact ⟨by (rw [HG.out]; try rfl), hb2⟩
    obtain rfl : s5 = 0 := Decidable.not_not.1 hc6
    by_cases hc7 : ¬ s6 = 0
    · have f7 : (s6 == 0) = false := ne_b hc7
      have HG := Lib.hid (show goodT ⟨7, d, n, t, ⟨#[]⟩, 0, 0, 0, 0, 0, 0, s6⟩ = false by simp [goodT, bareT, ev0, inT, stepT, hc7]; try omega)
      go_wp2_with fail
      go_ret
      exact ⟨by (rw [HG.out]; try rfl), hb2⟩
    obtain rfl : s6 = 0 := Decidable.not_not.1 hc7
    by_cases hc8 : ¬ n = 0
    · have f8 : (n == 0) = false := ne_b hc8
      have HG := Lib.hid (show goodT ⟨7, d, n, t, ⟨#[]⟩, 0, 0, 0, 0, 0, 0, 0⟩ = false by simp [goodT, bareT, ev0, inT, stepT, hc8]; try omega)
      go_wp2_with fail
      go_ret
      exact ⟨by (rw [HG.out]; try rfl), hb2⟩
    obtain rfl : n = 0 := Decidable.not_not.1 hc8
    by_cases hc9 : ¬ d = 0
    · have f9 : (d == 0) = false := ne_b hc9
      have HG := Lib.hid (show goodT ⟨7, d, 0, t, ⟨#[]⟩, 0, 0, 0, 0, 0, 0, 0⟩ = false by simp [goodT, bareT, ev0, inT, stepT, hc9]; try omega)
      go_wp2_with fail
      go_ret
      exact ⟨by (rw [HG.out]; try rfl), hb2⟩
    obtain rfl : d = 0 := Decidable.not_not.1 hc9
    by_cases hc10 : t < 0
    · have f10 : ¬ 0 ≤ t := by omega
      have HG := Lib.hid (show goodT ⟨7, 0, 0, t, ⟨#[]⟩, 0, 0, 0, 0, 0, 0, 0⟩ = false by simp [goodT, bareT, ev0, inT, stepT, hc10]; try omega)
      go_wp2_with fail
      go_ret
      exact ⟨by (rw [HG.out]; try rfl), hb2⟩
    have g10 : 0 ≤ t := by omega
    have HG := Lib.hid (show goodT ⟨7, 0, 0, t, ⟨#[]⟩, 0, 0, 0, 0, 0, 0, 0⟩ = true by simp [goodT, bareT, ev0, inT, stepT]; try omega)
    go_wp2_with fail
    go_ret
    exact ⟨by (rw [HG.out]; try rfl), hb2⟩

set_option maxHeartbeats 8000000 in
set_option maxRecDepth 100000 in
theorem rGoodK8 (d n t : Int) (b : ByteArray) (er s1 s2 s3 s4 s5 s6 : Int) (w : World) (hs : b.size ≤ 1000) (i3 : i64 s3) (i6 : i64 s6) :
    Calls Tryz.prog 14 #[.agg #[.int .i64 8, .int .i64 d, .int .i64 n, .int .i64 t, .string b, .int .i64 er, .int .i64 s1, .int .i64 s2, .int .i64 s3, .int .i64 s4, .int .i64 s5, .int .i64 s6]] w fun e w' => e = .returned (.bool (goodT ⟨8, d, n, t, b, er, s1, s2, s3, s4, s5, s6⟩)) ∧ Below w.heap.size w w' := by
  obtain ⟨w1, hw1⟩ : ∃ w1, w.alloc (.cells #[.int .i64 8, .int .i64 d, .int .i64 n, .int .i64 t, .string b, .int .i64 er, .int .i64 s1, .int .i64 s2, .int .i64 s3, .int .i64 s4, .int .i64 s5, .int .i64 s6] 27) = w1 := ⟨_, rfl⟩
  have k1 : Blk w1 w.heap.size 27 #[.int .i64 8, .int .i64 d, .int .i64 n, .int .i64 t, .string b, .int .i64 er, .int .i64 s1, .int .i64 s2, .int .i64 s3, .int .i64 s4, .int .i64 s5, .int .i64 s6] := by rw [← hw1]; exact Blk.new _ _ _
  have hb : Below w.heap.size w w1 := by rw [← hw1]; exact (Below.refl _ _).alloc (Nat.le_refl _) _
  have HW1 := Lib.hid hw1
  have HB := Lib.hid hb
  have GW := Lib.hid (fun w' => rWhat s3 w' i3)
  have GS := Lib.hid (fun w' => rStatus s6 w' i6)
  obtain ⟨q1, hq1⟩ : ∃ q, w.heap.size = q := ⟨_, rfl⟩
  have HQ := Lib.hid hq1
  rw [hq1] at k1
  have K1 := Lib.hid k1
  have d1 := k1.at12
  have hr := Below.refl w1.heap.size w1
  clear hw1 hb k1 hq1 i3 i6
  go_enter Tryz.func14, Tryz.ntmps14
  go_upto_region 1 with fail
  rw [HW1.out, HQ.out]
  go_cut [3, 4] (fun v3 v4 wx => v3 = .int .i64 8 ∧ v4 = .bool (inT d 0 4095) ∧ Below w1.heap.size w1 wx)
  case first =>
    by_cases h0 : 0 ≤ d
    · have HI := Lib.hid (show inT d 0 4095 = decide (d < 4096) by unfold inT; simp [h0]; omega)
      refine wp_region_later w1.heap.size (by kernel_rfl) (by kernel_rfl) ?_
      have hu : ∀ u : Later w1.heap.size w1, Below w1.heap.size w1 u.world := Later.below
      repeat (go_big_quiet_step ((fail)))
      refine wpQuiet_nil ?_
      intro w2 hb2
      clear hu
      go_wp2_with fail
      go_meet
      exact ⟨rfl, by rw [HI.out], hb2⟩
    · have HI := Lib.hid (show inT d 0 4095 = false by unfold inT; simp; omega)
      have h1 : decide (0 ≤ d) = false := decide_eq_false h0
      refine wp_region_later w1.heap.size (by kernel_rfl) (by kernel_rfl) ?_
      have hu : ∀ u : Later w1.heap.size w1, Below w1.heap.size w1 u.world := Later.below
      repeat (go_big_quiet_step ((fail)))
      refine wpQuiet_nil ?_
      intro w2 hb2
      clear hu
      go_wp2_with fail
      go_meet
      exact ⟨rfl, by rw [HI.out], hb2⟩
  case rest =>
    obtain ⟨rfl, rfl, hbx⟩ := hcut
    obtain ⟨idB, hI⟩ : ∃ q, inT d 0 4095 = q := ⟨_, rfl⟩
    rw [hI]
    have HI := Lib.hid hI
    have k2 := K1.out.later hbx
    have hb2 := HB.out.up hbx
    clear hI hbx d1 hr K1 HB HW1
    have d1 := k2.at12
    have hr := Below.refl wc.heap.size wc
    clear k2
    by_cases hc0 : ¬ t = 0
    · have f0 : (t == 0) = false := ne_b hc0
      have HG := Lib.hid (show goodT ⟨8, d, n, t, b, er, s1, s2, s3, s4, s5, s6⟩ = false by simp [goodT, bareT, ev0, inT, stepT, hc0]; try omega)
      go_wp2_with fail
      go_ret
      exact ⟨by (rw [HG.out]; try rfl), hb2⟩
    obtain rfl : t = 0 := Decidable.not_not.1 hc0
    by_cases hc1 : ¬ b = ⟨#[]⟩
    · have f1 := ne_emp hc1
      have HG := Lib.hid (show goodT ⟨8, d, n, 0, b, er, s1, s2, s3, s4, s5, s6⟩ = false by simp [goodT, bareT, ev0, inT, stepT, hc1]; try omega)
      go_wp2_with fail
      go_ret
      exact ⟨by (rw [HG.out]; try rfl), hb2⟩
    obtain rfl : b = ⟨#[]⟩ := Decidable.not_not.1 hc1
    by_cases hc2 : ¬ er = 0
    · have f2 : (er == 0) = false := ne_b hc2
      have HG := Lib.hid (show goodT ⟨8, d, n, 0, ⟨#[]⟩, er, s1, s2, s3, s4, s5, s6⟩ = false by simp [goodT, bareT, ev0, inT, stepT, hc2]; try omega)
      go_wp2_with fail
      go_ret
      exact ⟨by (rw [HG.out]; try rfl), hb2⟩
    obtain rfl : er = 0 := Decidable.not_not.1 hc2
    by_cases hc3 : ¬ n = 0
    · have f3 : (n == 0) = false := ne_b hc3
      have HG := Lib.hid (show goodT ⟨8, d, n, 0, ⟨#[]⟩, 0, s1, s2, s3, s4, s5, s6⟩ = false by simp [goodT, bareT, ev0, inT, stepT, hc3]; try omega)
      go_wp2_with fail
      go_ret
      exact ⟨by (rw [HG.out]; try rfl), hb2⟩
    obtain rfl : n = 0 := Decidable.not_not.1 hc3
    by_cases hc4 : s1 < 0
    · have f4 : ¬ 0 ≤ s1 := by omega
      have HG := Lib.hid (show goodT ⟨8, d, 0, 0, ⟨#[]⟩, 0, s1, s2, s3, s4, s5, s6⟩ = false by simp [goodT, bareT, ev0, inT, stepT, hc4]; try omega)
      go_upto_region 14 with fail
      generalize hw3 : wc.alloc (.cells #[.int .i64 s1, .int .i64 s2, .int .i64 s3, .int .i64 s4, .int .i64 s5, .int .i64 s6] 25) = w3
      have hb3 : Below w.heap.size w w3 := by rw [← hw3]; exact hb2.alloc hb2.size _
      have k3 : Blk w3 wc.heap.size 25 #[.int .i64 s1, .int .i64 s2, .int .i64 s3, .int .i64 s4, .int .i64 s5, .int .i64 s6] := by rw [← hw3]; exact Blk.new _ _ _
      obtain ⟨q3, hq3⟩ : ∃ q, wc.heap.size = q := ⟨_, rfl⟩
      rw [hq3] at k3 ⊢
      have K3 := Lib.hid k3
      clear hw3 hq3 hr d1
      have d3 := k3.at6
      have hr := Below.refl w3.heap.size w3
      clear k3
      go_wp2_with fail
      go_ret
      exact ⟨by (rw [HG.out]; try rfl), hb3⟩
    have g4 : 0 ≤ s1 := by omega
    by_cases hc5 : s2 < 0
    · have f5 : ¬ 0 ≤ s2 := by omega
      have HG := Lib.hid (show goodT ⟨8, d, 0, 0, ⟨#[]⟩, 0, s1, s2, s3, s4, s5, s6⟩ = false by simp [goodT, bareT, ev0, inT, stepT, hc5]; try omega)
      go_upto_region 14 with fail
      generalize hw3 : wc.alloc (.cells #[.int .i64 s1, .int .i64 s2, .int .i64 s3, .int .i64 s4, .int .i64 s5, .int .i64 s6] 25) = w3
      have hb3 : Below w.heap.size w w3 := by rw [← hw3]; exact hb2.alloc hb2.size _
      have k3 : Blk w3 wc.heap.size 25 #[.int .i64 s1, .int .i64 s2, .int .i64 s3, .int .i64 s4, .int .i64 s5, .int .i64 s6] := by rw [← hw3]; exact Blk.new _ _ _
      obtain ⟨q3, hq3⟩ : ∃ q, wc.heap.size = q := ⟨_, rfl⟩
      rw [hq3] at k3 ⊢
      have K3 := Lib.hid k3
      clear hw3 hq3 hr d1
      have d3 := k3.at6
      have hr := Below.refl w3.heap.size w3
      clear k3
      go_wp2_with fail
      go_ret
      exact ⟨by (rw [HG.out]; try rfl), hb3⟩
    have g5 : 0 ≤ s2 := by omega
    by_cases hc6 : 200 < s2
    · have f6 : ¬ s2 ≤ 200 := by omega
      have HG := Lib.hid (show goodT ⟨8, d, 0, 0, ⟨#[]⟩, 0, s1, s2, s3, s4, s5, s6⟩ = false by simp [goodT, bareT, ev0, inT, stepT, hc6]; try omega)
      go_upto_region 14 with fail
      generalize hw3 : wc.alloc (.cells #[.int .i64 s1, .int .i64 s2, .int .i64 s3, .int .i64 s4, .int .i64 s5, .int .i64 s6] 25) = w3
      have hb3 : Below w.heap.size w w3 := by rw [← hw3]; exact hb2.alloc hb2.size _
      have k3 : Blk w3 wc.heap.size 25 #[.int .i64 s1, .int .i64 s2, .int .i64 s3, .int .i64 s4, .int .i64 s5, .int .i64 s6] := by rw [← hw3]; exact Blk.new _ _ _
      obtain ⟨q3, hq3⟩ : ∃ q, wc.heap.size = q := ⟨_, rfl⟩
      rw [hq3] at k3 ⊢
      have K3 := Lib.hid k3
      clear hw3 hq3 hr d1
      have d3 := k3.at6
      have hr := Below.refl w3.heap.size w3
      clear k3
      go_wp2_with fail
      go_ret
      exact ⟨by (rw [HG.out]; try rfl), hb3⟩
    have g6 : s2 ≤ 200 := by omega
    by_cases hc7 : s3 < 1 ∨ 14 < s3
    · have hW := what_none s3 hc7
      rw [hW] at GW
      have HG := Lib.hid (show goodT ⟨8, d, 0, 0, ⟨#[]⟩, 0, s1, s2, s3, s4, s5, s6⟩ = false by simp [goodT, bareT, ev0, inT, stepT, hc7]; try omega)
      go_upto_region 14 with fail
      generalize hw3 : wc.alloc (.cells #[.int .i64 s1, .int .i64 s2, .int .i64 s3, .int .i64 s4, .int .i64 s5, .int .i64 s6] 25) = w3
      have hb3 : Below w.heap.size w w3 := by rw [← hw3]; exact hb2.alloc hb2.size _
      have k3 : Blk w3 wc.heap.size 25 #[.int .i64 s1, .int .i64 s2, .int .i64 s3, .int .i64 s4, .int .i64 s5, .int .i64 s6] := by rw [← hw3]; exact Blk.new _ _ _
      obtain ⟨q3, hq3⟩ : ∃ q, wc.heap.size = q := ⟨_, rfl⟩
      rw [hq3] at k3 ⊢
      have K3 := Lib.hid k3
      clear hw3 hq3 hr d1
      have d3 := k3.at6
      have hr := Below.refl w3.heap.size w3
      clear k3
      go_wp2_with fail
      refine (GW.out _).mono ?_; rintro e w4 ⟨rfl, hb4⟩
      have hb5 := hb3.up hb4
      have K4 := Lib.hid (K3.out.later hb4)
      clear hr d3 hb3 hb4
      have d3 := K4.out.at6
      have hr := Below.refl w4.heap.size w4
      go_wp2_with fail
      go_ret
      exact ⟨by (rw [HG.out]; try rfl), hb5⟩
    have hW2 := emp_of (whatT_ne s3 (by omega) (by omega))
    have hW3 := whatT_ne s3 (by omega) (by omega)
    have gg1 : 1 ≤ s3 := by omega
    have gg2 : s3 ≤ 14 := by omega
    by_cases hc8 : s4 < 0
    · have f8 : ¬ 0 ≤ s4 := by omega
      have HG := Lib.hid (show goodT ⟨8, d, 0, 0, ⟨#[]⟩, 0, s1, s2, s3, s4, s5, s6⟩ = false by simp [goodT, bareT, ev0, inT, stepT, hc8]; try omega)
      go_upto_region 14 with fail
      generalize hw3 : wc.alloc (.cells #[.int .i64 s1, .int .i64 s2, .int .i64 s3, .int .i64 s4, .int .i64 s5, .int .i64 s6] 25) = w3
      have hb3 : Below w.heap.size w w3 := by rw [← hw3]; exact hb2.alloc hb2.size _
      have k3 : Blk w3 wc.heap.size 25 #[.int .i64 s1, .int .i64 s2, .int .i64 s3, .int .i64 s4, .int .i64 s5, .int .i64 s6] := by rw [← hw3]; exact Blk.new _ _ _
      obtain ⟨q3, hq3⟩ : ∃ q, wc.heap.size = q := ⟨_, rfl⟩
      rw [hq3] at k3 ⊢
      have K3 := Lib.hid k3
      clear hw3 hq3 hr d1
      have d3 := k3.at6
      have hr := Below.refl w3.heap.size w3
      clear k3
      go_wp2_with fail
      refine (GW.out _).mono ?_; rintro e w4 ⟨rfl, hb4⟩
      have hb5 := hb3.up hb4
      have K4 := Lib.hid (K3.out.later hb4)
      clear hr d3 hb3 hb4
      have d3 := K4.out.at6
      have hr := Below.refl w4.heap.size w4
      go_wp2_with fail
      go_ret
      exact ⟨by (rw [HG.out]; try rfl), hb5⟩
    have g8 : 0 ≤ s4 := by omega
    by_cases hc9 : 7 < s4
    · have f9 : ¬ s4 ≤ 7 := by omega
      have HG := Lib.hid (show goodT ⟨8, d, 0, 0, ⟨#[]⟩, 0, s1, s2, s3, s4, s5, s6⟩ = false by simp [goodT, bareT, ev0, inT, stepT, hc9]; try omega)
      go_upto_region 14 with fail
      generalize hw3 : wc.alloc (.cells #[.int .i64 s1, .int .i64 s2, .int .i64 s3, .int .i64 s4, .int .i64 s5, .int .i64 s6] 25) = w3
      have hb3 : Below w.heap.size w w3 := by rw [← hw3]; exact hb2.alloc hb2.size _
      have k3 : Blk w3 wc.heap.size 25 #[.int .i64 s1, .int .i64 s2, .int .i64 s3, .int .i64 s4, .int .i64 s5, .int .i64 s6] := by rw [← hw3]; exact Blk.new _ _ _
      obtain ⟨q3, hq3⟩ : ∃ q, wc.heap.size = q := ⟨_, rfl⟩
      rw [hq3] at k3 ⊢
      have K3 := Lib.hid k3
      clear hw3 hq3 hr d1
      have d3 := k3.at6
      have hr := Below.refl w3.heap.size w3
      clear k3
      go_wp2_with fail
      refine (GW.out _).mono ?_; rintro e w4 ⟨rfl, hb4⟩
      have hb5 := hb3.up hb4
      have K4 := Lib.hid (K3.out.later hb4)
      clear hr d3 hb3 hb4
      have d3 := K4.out.at6
      have hr := Below.refl w4.heap.size w4
      go_wp2_with fail
      go_ret
      exact ⟨by (rw [HG.out]; try rfl), hb5⟩
    have g9 : s4 ≤ 7 := by omega
    by_cases hc10 : s5 < 0
    · have f10 : ¬ 0 ≤ s5 := by omega
      have HG := Lib.hid (show goodT ⟨8, d, 0, 0, ⟨#[]⟩, 0, s1, s2, s3, s4, s5, s6⟩ = false by simp [goodT, bareT, ev0, inT, stepT, hc10]; try omega)
      go_upto_region 14 with fail
      generalize hw3 : wc.alloc (.cells #[.int .i64 s1, .int .i64 s2, .int .i64 s3, .int .i64 s4, .int .i64 s5, .int .i64 s6] 25) = w3
      have hb3 : Below w.heap.size w w3 := by rw [← hw3]; exact hb2.alloc hb2.size _
      have k3 : Blk w3 wc.heap.size 25 #[.int .i64 s1, .int .i64 s2, .int .i64 s3, .int .i64 s4, .int .i64 s5, .int .i64 s6] := by rw [← hw3]; exact Blk.new _ _ _
      obtain ⟨q3, hq3⟩ : ∃ q, wc.heap.size = q := ⟨_, rfl⟩
      rw [hq3] at k3 ⊢
      have K3 := Lib.hid k3
      clear hw3 hq3 hr d1
      have d3 := k3.at6
      have hr := Below.refl w3.heap.size w3
      clear k3
      go_wp2_with fail
      refine (GW.out _).mono ?_; rintro e w4 ⟨rfl, hb4⟩
      have hb5 := hb3.up hb4
      have K4 := Lib.hid (K3.out.later hb4)
      clear hr d3 hb3 hb4
      have d3 := K4.out.at6
      have hr := Below.refl w4.heap.size w4
      go_wp2_with fail
      go_ret
      exact ⟨by (rw [HG.out]; try rfl), hb5⟩
    have g10 : 0 ≤ s5 := by omega
    by_cases hc11 : 4096 < s5
    · have f11 : ¬ s5 ≤ 4096 := by omega
      have HG := Lib.hid (show goodT ⟨8, d, 0, 0, ⟨#[]⟩, 0, s1, s2, s3, s4, s5, s6⟩ = false by simp [goodT, bareT, ev0, inT, stepT, hc11]; try omega)
      go_upto_region 14 with fail
      generalize hw3 : wc.alloc (.cells #[.int .i64 s1, .int .i64 s2, .int .i64 s3, .int .i64 s4, .int .i64 s5, .int .i64 s6] 25) = w3
      have hb3 : Below w.heap.size w w3 := by rw [← hw3]; exact hb2.alloc hb2.size _
      have k3 : Blk w3 wc.heap.size 25 #[.int .i64 s1, .int .i64 s2, .int .i64 s3, .int .i64 s4, .int .i64 s5, .int .i64 s6] := by rw [← hw3]; exact Blk.new _ _ _
      obtain ⟨q3, hq3⟩ : ∃ q, wc.heap.size = q := ⟨_, rfl⟩
      rw [hq3] at k3 ⊢
      have K3 := Lib.hid k3
      clear hw3 hq3 hr d1
      have d3 := k3.at6
      have hr := Below.refl w3.heap.size w3
      clear k3
      go_wp2_with fail
      refine (GW.out _).mono ?_; rintro e w4 ⟨rfl, hb4⟩
      have hb5 := hb3.up hb4
      have K4 := Lib.hid (K3.out.later hb4)
      clear hr d3 hb3 hb4
      have d3 := K4.out.at6
      have hr := Below.refl w4.heap.size w4
      go_wp2_with fail
      go_ret
      exact ⟨by (rw [HG.out]; try rfl), hb5⟩
    have g11 : s5 ≤ 4096 := by omega
    by_cases hc12 : s6 < 0 ∨ 5 < s6
    · have hT := stat_none s6 hc12
      rw [hT] at GS
      have HG := Lib.hid (show goodT ⟨8, d, 0, 0, ⟨#[]⟩, 0, s1, s2, s3, s4, s5, s6⟩ = false by simp [goodT, bareT, ev0, inT, stepT, hc12]; try omega)
      go_upto_region 14 with fail
      generalize hw3 : wc.alloc (.cells #[.int .i64 s1, .int .i64 s2, .int .i64 s3, .int .i64 s4, .int .i64 s5, .int .i64 s6] 25) = w3
      have hb3 : Below w.heap.size w w3 := by rw [← hw3]; exact hb2.alloc hb2.size _
      have k3 : Blk w3 wc.heap.size 25 #[.int .i64 s1, .int .i64 s2, .int .i64 s3, .int .i64 s4, .int .i64 s5, .int .i64 s6] := by rw [← hw3]; exact Blk.new _ _ _
      obtain ⟨q3, hq3⟩ : ∃ q, wc.heap.size = q := ⟨_, rfl⟩
      rw [hq3] at k3 ⊢
      have K3 := Lib.hid k3
      clear hw3 hq3 hr d1
      have d3 := k3.at6
      have hr := Below.refl w3.heap.size w3
      clear k3
      go_wp2_with fail
      refine (GW.out _).mono ?_; rintro e w4 ⟨rfl, hb4⟩
      have hb5 := hb3.up hb4
      have K4 := Lib.hid (K3.out.later hb4)
      clear hr d3 hb3 hb4
      have d3 := K4.out.at6
      have hr := Below.refl w4.heap.size w4
      go_wp2_with fail
      refine (GS.out _).mono ?_; rintro e w5 ⟨rfl, hb6⟩
      have hb7 := hb5.up hb6
      clear hr d3
      go_wp2_with fail
      go_ret
      exact ⟨by (rw [HG.out]; try rfl), hb7⟩
    have hT2 := emp_of (statT_ne s6 (by omega) (by omega))
    have hT3 := statT_ne s6 (by omega) (by omega)
    have gg3 : 0 ≤ s6 := by omega
    have gg4 : s6 ≤ 5 := by omega
    have HG := Lib.hid (show goodT ⟨8, d, 0, 0, ⟨#[]⟩, 0, s1, s2, s3, s4, s5, s6⟩ = idB by rw [← HI.out]; simp [goodT, bareT, ev0, inT, stepT]; try omega)
    go_upto_region 14 with fail
    generalize hw3 : wc.alloc (.cells #[.int .i64 s1, .int .i64 s2, .int .i64 s3, .int .i64 s4, .int .i64 s5, .int .i64 s6] 25) = w3
    have hb3 : Below w.heap.size w w3 := by rw [← hw3]; exact hb2.alloc hb2.size _
    have k3 : Blk w3 wc.heap.size 25 #[.int .i64 s1, .int .i64 s2, .int .i64 s3, .int .i64 s4, .int .i64 s5, .int .i64 s6] := by rw [← hw3]; exact Blk.new _ _ _
    obtain ⟨q3, hq3⟩ : ∃ q, wc.heap.size = q := ⟨_, rfl⟩
    rw [hq3] at k3 ⊢
    have K3 := Lib.hid k3
    clear hw3 hq3 hr d1
    have d3 := k3.at6
    have hr := Below.refl w3.heap.size w3
    clear k3
    go_wp2_with fail
    refine (GW.out _).mono ?_; rintro e w4 ⟨rfl, hb4⟩
    have hb5 := hb3.up hb4
    have K4 := Lib.hid (K3.out.later hb4)
    clear hr d3 hb3 hb4
    have d3 := K4.out.at6
    have hr := Below.refl w4.heap.size w4
    go_wp2_with fail
    refine (GS.out _).mono ?_; rintro e w5 ⟨rfl, hb6⟩
    have hb7 := hb5.up hb6
    clear hr d3
    go_wp2_with fail
    go_ret
    exact ⟨by (rw [HG.out]; try rfl), hb7⟩

set_option maxHeartbeats 8000000 in
set_option maxRecDepth 100000 in
theorem rGoodK9 (d n t : Int) (b : ByteArray) (er s1 s2 s3 s4 s5 s6 : Int) (w : World) (hs : b.size ≤ 1000) (i3 : i64 s3) (i6 : i64 s6) :
    Calls Tryz.prog 14 #[.agg #[.int .i64 9, .int .i64 d, .int .i64 n, .int .i64 t, .string b, .int .i64 er, .int .i64 s1, .int .i64 s2, .int .i64 s3, .int .i64 s4, .int .i64 s5, .int .i64 s6]] w fun e w' => e = .returned (.bool (goodT ⟨9, d, n, t, b, er, s1, s2, s3, s4, s5, s6⟩)) ∧ Below w.heap.size w w' := by
  obtain ⟨w1, hw1⟩ : ∃ w1, w.alloc (.cells #[.int .i64 9, .int .i64 d, .int .i64 n, .int .i64 t, .string b, .int .i64 er, .int .i64 s1, .int .i64 s2, .int .i64 s3, .int .i64 s4, .int .i64 s5, .int .i64 s6] 27) = w1 := ⟨_, rfl⟩
  have k1 : Blk w1 w.heap.size 27 #[.int .i64 9, .int .i64 d, .int .i64 n, .int .i64 t, .string b, .int .i64 er, .int .i64 s1, .int .i64 s2, .int .i64 s3, .int .i64 s4, .int .i64 s5, .int .i64 s6] := by rw [← hw1]; exact Blk.new _ _ _
  have hb : Below w.heap.size w w1 := by rw [← hw1]; exact (Below.refl _ _).alloc (Nat.le_refl _) _
  have HW1 := Lib.hid hw1
  have HB := Lib.hid hb
  have GW := Lib.hid (fun w' => rWhat s3 w' i3)
  have GS := Lib.hid (fun w' => rStatus s6 w' i6)
  obtain ⟨q1, hq1⟩ : ∃ q, w.heap.size = q := ⟨_, rfl⟩
  have HQ := Lib.hid hq1
  rw [hq1] at k1
  have K1 := Lib.hid k1
  have d1 := k1.at12
  have hr := Below.refl w1.heap.size w1
  clear hw1 hb k1 hq1 i3 i6
  go_enter Tryz.func14, Tryz.ntmps14
  go_upto_region 1 with fail
  rw [HW1.out, HQ.out]
  go_cut [3, 4] (fun v3 v4 wx => v3 = .int .i64 9 ∧ v4 = .bool (inT d 0 4095) ∧ Below w1.heap.size w1 wx)
  case first =>
    by_cases h0 : 0 ≤ d
    · have HI := Lib.hid (show inT d 0 4095 = decide (d < 4096) by unfold inT; simp [h0]; omega)
      refine wp_region_later w1.heap.size (by kernel_rfl) (by kernel_rfl) ?_
      have hu : ∀ u : Later w1.heap.size w1, Below w1.heap.size w1 u.world := Later.below
      repeat (go_big_quiet_step ((fail)))
      refine wpQuiet_nil ?_
      intro w2 hb2
      clear hu
      go_wp2_with fail
      go_meet
      exact ⟨rfl, by rw [HI.out], hb2⟩
    · have HI := Lib.hid (show inT d 0 4095 = false by unfold inT; simp; omega)
      have h1 : decide (0 ≤ d) = false := decide_eq_false h0
      refine wp_region_later w1.heap.size (by kernel_rfl) (by kernel_rfl) ?_
      have hu : ∀ u : Later w1.heap.size w1, Below w1.heap.size w1 u.world := Later.below
      repeat (go_big_quiet_step ((fail)))
      refine wpQuiet_nil ?_
      intro w2 hb2
      clear hu
      go_wp2_with fail
      go_meet
      exact ⟨rfl, by rw [HI.out], hb2⟩
  case rest =>
    obtain ⟨rfl, rfl, hbx⟩ := hcut
    obtain ⟨idB, hI⟩ : ∃ q, inT d 0 4095 = q := ⟨_, rfl⟩
    rw [hI]
    have HI := Lib.hid hI
    have k2 := K1.out.later hbx
    have hb2 := HB.out.up hbx
    clear hI hbx d1 hr K1 HB HW1
    have d1 := k2.at12
    have hr := Below.refl wc.heap.size wc
    clear k2
    by_cases hc0 : ¬ t = 0
    · have f0 : (t == 0) = false := ne_b hc0
      have HG := Lib.hid (show goodT ⟨9, d, n, t, b, er, s1, s2, s3, s4, s5, s6⟩ = false by simp [goodT, bareT, ev0, inT, stepT, hc0]; try omega)
      go_wp2_with fail
      go_ret
      exact ⟨by (rw [HG.out]; try rfl), hb2⟩
    obtain rfl : t = 0 := Decidable.not_not.1 hc0
    by_cases hc1 : ¬ b = ⟨#[]⟩
    · have f1 := ne_emp hc1
      have HG := Lib.hid (show goodT ⟨9, d, n, 0, b, er, s1, s2, s3, s4, s5, s6⟩ = false by simp [goodT, bareT, ev0, inT, stepT, hc1]; try omega)
      go_wp2_with fail
      go_ret
      exact ⟨by (rw [HG.out]; try rfl), hb2⟩
    obtain rfl : b = ⟨#[]⟩ := Decidable.not_not.1 hc1
    by_cases hc2 : ¬ er = 0
    · have f2 : (er == 0) = false := ne_b hc2
      have HG := Lib.hid (show goodT ⟨9, d, n, 0, ⟨#[]⟩, er, s1, s2, s3, s4, s5, s6⟩ = false by simp [goodT, bareT, ev0, inT, stepT, hc2]; try omega)
      go_wp2_with fail
      go_ret
      exact ⟨by (rw [HG.out]; try rfl), hb2⟩
    obtain rfl : er = 0 := Decidable.not_not.1 hc2
    by_cases hc3 : ¬ s1 = 0
    · have f3 : (s1 == 0) = false := ne_b hc3
      have HG := Lib.hid (show goodT ⟨9, d, n, 0, ⟨#[]⟩, 0, s1, s2, s3, s4, s5, s6⟩ = false by simp [goodT, bareT, ev0, inT, stepT, hc3]; try omega)
      go_wp2_with fail
      go_ret
      exact ⟨by (rw [HG.out]; try rfl), hb2⟩
    obtain rfl : s1 = 0 := Decidable.not_not.1 hc3
    by_cases hc4 : ¬ s2 = 0
    · have f4 : (s2 == 0) = false := ne_b hc4
      have HG := Lib.hid (show goodT ⟨9, d, n, 0, ⟨#[]⟩, 0, 0, s2, s3, s4, s5, s6⟩ = false by simp [goodT, bareT, ev0, inT, stepT, hc4]; try omega)
      go_wp2_with fail
      go_ret
      exact ⟨by (rw [HG.out]; try rfl), hb2⟩
    obtain rfl : s2 = 0 := Decidable.not_not.1 hc4
    by_cases hc5 : ¬ s3 = 0
    · have f5 : (s3 == 0) = false := ne_b hc5
      have HG := Lib.hid (show goodT ⟨9, d, n, 0, ⟨#[]⟩, 0, 0, 0, s3, s4, s5, s6⟩ = false by simp [goodT, bareT, ev0, inT, stepT, hc5]; try omega)
      go_wp2_with fail
      go_ret
      exact ⟨by (rw [HG.out]; try rfl), hb2⟩
    obtain rfl : s3 = 0 := Decidable.not_not.1 hc5
    by_cases hc6 : ¬ s4 = 0
    · have f6 : (s4 == 0) = false := ne_b hc6
      have HG := Lib.hid (show goodT ⟨9, d, n, 0, ⟨#[]⟩, 0, 0, 0, 0, s4, s5, s6⟩ = false by simp [goodT, bareT, ev0, inT, stepT, hc6]; try omega)
      go_wp2_with fail
      go_ret
      exact ⟨by (rw [HG.out]; try rfl), hb2⟩
    obtain rfl : s4 = 0 := Decidable.not_not.1 hc6
    by_cases hc7 : ¬ s5 = 0
    · have f7 : (s5 == 0) = false := ne_b hc7
      have HG := Lib.hid (show goodT ⟨9, d, n, 0, ⟨#[]⟩, 0, 0, 0, 0, 0, s5, s6⟩ = false by simp [goodT, bareT, ev0, inT, stepT, hc7]; try omega)
      go_wp2_with fail
      go_ret
      exact ⟨by (rw [HG.out]; try rfl), hb2⟩
    obtain rfl : s5 = 0 := Decidable.not_not.1 hc7
    by_cases hc8 : ¬ s6 = 0
    · have f8 : (s6 == 0) = false := ne_b hc8
      have HG := Lib.hid (show goodT ⟨9, d, n, 0, ⟨#[]⟩, 0, 0, 0, 0, 0, 0, s6⟩ = false by simp [goodT, bareT, ev0, inT, stepT, hc8]; try omega)
      go_wp2_with fail
      go_ret
      exact ⟨by (rw [HG.out]; try rfl), hb2⟩
    obtain rfl : s6 = 0 := Decidable.not_not.1 hc8
    by_cases hc9 : ¬ n = 0
    · have f9 : (n == 0) = false := ne_b hc9
      have HG := Lib.hid (show goodT ⟨9, d, n, 0, ⟨#[]⟩, 0, 0, 0, 0, 0, 0, 0⟩ = false by simp [goodT, bareT, ev0, inT, stepT, hc9]; try omega)
      go_wp2_with fail
      go_ret
      exact ⟨by (rw [HG.out]; try rfl), hb2⟩
    obtain rfl : n = 0 := Decidable.not_not.1 hc9
    by_cases hc10 : ¬ d = 0
    · have f10 : (d == 0) = false := ne_b hc10
      have HG := Lib.hid (show goodT ⟨9, d, 0, 0, ⟨#[]⟩, 0, 0, 0, 0, 0, 0, 0⟩ = false by simp [goodT, bareT, ev0, inT, stepT, hc10]; try omega)
      go_wp2_with fail
      go_ret
      exact ⟨by (rw [HG.out]; try rfl), hb2⟩
    obtain rfl : d = 0 := Decidable.not_not.1 hc10
    have HG := Lib.hid (show goodT ⟨9, 0, 0, 0, ⟨#[]⟩, 0, 0, 0, 0, 0, 0, 0⟩ = true by simp [goodT, bareT, ev0, inT, stepT]; try omega)
    go_wp2_with fail
    go_ret
    exact ⟨by (rw [HG.out]; try rfl), hb2⟩
end Go.Proofs.YtmnkekepccdlcaaGreatDoor
