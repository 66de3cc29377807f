/-
  The reference takes a good event of kind 1 for good. And the others alike.
  Conditions: none.
-/
import Derived.Test.YtmnkekepccdlcaaGreatDoorRefW
namespace Go.Proofs.YtmnkekepccdlcaaGreatDoor
set_option linter.unusedVariables false
set_option linter.unusedSimpArgs false
open Go.RowKit

set_option maxHeartbeats 4000000 in
set_option maxRecDepth 100000 in
theorem rGood1 (t : Int) (w : World) (h1 : 0 ≤ t) : Calls Tryz.prog 14 #[.agg #[.int .i64 1, .int .i64 0, .int .i64 0, .int .i64 t, .string ⟨#[]⟩, .int .i64 0, .int .i64 0, .int .i64 0, .int .i64 0, .int .i64 0, .int .i64 0, .int .i64 0]] w fun e w' => e = .returned (.bool true) ∧ Below w.heap.size w w' := by
  obtain ⟨w1, hw1⟩ : ∃ w1, w.alloc (.cells #[.int .i64 1, .int .i64 0, .int .i64 0, .int .i64 t, .string ⟨#[]⟩, .int .i64 0, .int .i64 0, .int .i64 0, .int .i64 0, .int .i64 0, .int .i64 0, .int .i64 0] 27) = w1 := ⟨_, rfl⟩
  have k1 : Blk w1 w.heap.size 27 #[.int .i64 1, .int .i64 0, .int .i64 0, .int .i64 t, .string ⟨#[]⟩, .int .i64 0, .int .i64 0, .int .i64 0, .int .i64 0, .int .i64 0, .int .i64 0, .int .i64 0] := by rw [← hw1]; exact Blk.new _ _ _
  have hb : Below w.heap.size w w1 := by rw [← hw1]; exact (Below.refl _ _).alloc (Nat.le_refl _) _
  have HW1 := Lib.hid hw1
  have HB := Lib.hid hb
  obtain ⟨q1, hq1⟩ : ∃ q, w.heap.size = q := ⟨_, rfl⟩
  have HQ := Lib.hid hq1
  rw [hq1] at k1
  have K1 := Lib.hid k1
  have d1 := k1.at12
  have hr := Below.refl w1.heap.size w1
  have f1 : ¬ t < 0 := by omega
  clear hw1 hb k1 hq1
  go_enter Tryz.func14, Tryz.ntmps14
  go_upto_region 1 with fail
  rw [HW1.out, HQ.out]
  refine wp_region_later w1.heap.size (by kernel_rfl) (by kernel_rfl) ?_
  have hu : ∀ u : Later w1.heap.size w1, Below w1.heap.size w1 u.world := Later.below
  repeat (go_big_quiet_step ((fail)))
  refine wpQuiet_nil ?_
  intro w2 hb2
  have HB2 := Lib.hid (HB.out.up hb2)
  have k2 := K1.out.later hb2
  have K2 := Lib.hid k2
  clear hu hr d1 hb2
  have d1 := k2.at12
  have hr := Below.refl w2.heap.size w2
  clear k2
  go_wp2_with fail
  go_ret
  exact ⟨rfl, HB2.out⟩

set_option maxHeartbeats 4000000 in
set_option maxRecDepth 100000 in
theorem rGood2 (d n : Int) (w : World) (h1 : 0 ≤ d) (h2 : d < 4096) (h3 : 0 ≤ n) (h4 : n ≤ 63) : Calls Tryz.prog 14 #[.agg #[.int .i64 2, .int .i64 d, .int .i64 n, .int .i64 0, .string ⟨#[]⟩, .int .i64 0, .int .i64 0, .int .i64 0, .int .i64 0, .int .i64 0, .int .i64 0, .int .i64 0]] w fun e w' => e = .returned (.bool true) ∧ Below w.heap.size w w' := by
  obtain ⟨w1, hw1⟩ : ∃ w1, w.alloc (.cells #[.int .i64 2, .int .i64 d, .int .i64 n, .int .i64 0, .string ⟨#[]⟩, .int .i64 0, .int .i64 0, .int .i64 0, .int .i64 0, .int .i64 0, .int .i64 0, .int .i64 0] 27) = w1 := ⟨_, rfl⟩
  have k1 : Blk w1 w.heap.size 27 #[.int .i64 2, .int .i64 d, .int .i64 n, .int .i64 0, .string ⟨#[]⟩, .int .i64 0, .int .i64 0, .int .i64 0, .int .i64 0, .int .i64 0, .int .i64 0, .int .i64 0] := by rw [← hw1]; exact Blk.new _ _ _
  have hb : Below w.heap.size w w1 := by rw [← hw1]; exact (Below.refl _ _).alloc (Nat.le_refl _) _
  have HW1 := Lib.hid hw1
  have HB := Lib.hid hb
  obtain ⟨q1, hq1⟩ : ∃ q, w.heap.size = q := ⟨_, rfl⟩
  have HQ := Lib.hid hq1
  rw [hq1] at k1
  have K1 := Lib.hid k1
  have d1 := k1.at12
  have hr := Below.refl w1.heap.size w1
  have f3 : ¬ n < 0 := by omega
  have f4 : ¬ 63 < n := by omega
  clear hw1 hb k1 hq1
  go_enter Tryz.func14, Tryz.ntmps14
  go_upto_region 1 with fail
  rw [HW1.out, HQ.out]
  refine wp_region_later w1.heap.size (by kernel_rfl) (by kernel_rfl) ?_
  have hu : ∀ u : Later w1.heap.size w1, Below w1.heap.size w1 u.world := Later.below
  repeat (go_big_quiet_step ((fail)))
  refine wpQuiet_nil ?_
  intro w2 hb2
  have HB2 := Lib.hid (HB.out.up hb2)
  have k2 := K1.out.later hb2
  have K2 := Lib.hid k2
  clear hu hr d1 hb2
  have d1 := k2.at12
  have hr := Below.refl w2.heap.size w2
  clear k2
  go_upto_region 14 with fail
  generalize hw3 : w2.alloc (.cells #[.int .i64 0, .int .i64 0, .int .i64 0, .int .i64 0, .int .i64 0, .int .i64 0] 25) = w3
  have hb3 : Below w.heap.size w w3 := by rw [← hw3]; exact HB2.out.alloc HB2.out.size _
  have k3 : Blk w3 w2.heap.size 25 #[.int .i64 0, .int .i64 0, .int .i64 0, .int .i64 0, .int .i64 0, .int .i64 0] := by rw [← hw3]; exact Blk.new _ _ _
  obtain ⟨q3, hq3⟩ : ∃ q, w2.heap.size = q := ⟨_, rfl⟩
  rw [hq3] at k3 ⊢
  have K3 := Lib.hid k3
  clear hw3 hq3 hr d1
  have d3 := k3.at6
  have hr := Below.refl w3.heap.size w3
  clear k3
  go_wp2_with fail
  go_ret
  exact ⟨rfl, hb3⟩

set_option maxHeartbeats 4000000 in
set_option maxRecDepth 100000 in
theorem rGood3 (d n er : Int) (w : World) (h1 : 0 ≤ d) (h2 : d < 4096) (h3 : 1 ≤ er) (h4 : er ≤ 13) : Calls Tryz.prog 14 #[.agg #[.int .i64 3, .int .i64 d, .int .i64 n, .int .i64 0, .string ⟨#[]⟩, .int .i64 er, .int .i64 0, .int .i64 0, .int .i64 0, .int .i64 0, .int .i64 0, .int .i64 0]] w fun e w' => e = .returned (.bool true) ∧ Below w.heap.size w w' := by
  obtain ⟨w1, hw1⟩ : ∃ w1, w.alloc (.cells #[.int .i64 3, .int .i64 d, .int .i64 n, .int .i64 0, .string ⟨#[]⟩, .int .i64 er, .int .i64 0, .int .i64 0, .int .i64 0, .int .i64 0, .int .i64 0, .int .i64 0] 27) = w1 := ⟨_, rfl⟩
  have k1 : Blk w1 w.heap.size 27 #[.int .i64 3, .int .i64 d, .int .i64 n, .int .i64 0, .string ⟨#[]⟩, .int .i64 er, .int .i64 0, .int .i64 0, .int .i64 0, .int .i64 0, .int .i64 0, .int .i64 0] := by rw [← hw1]; exact Blk.new _ _ _
  have hb : Below w.heap.size w w1 := by rw [← hw1]; exact (Below.refl _ _).alloc (Nat.le_refl _) _
  have HW1 := Lib.hid hw1
  have HB := Lib.hid hb
  obtain ⟨q1, hq1⟩ : ∃ q, w.heap.size = q := ⟨_, rfl⟩
  have HQ := Lib.hid hq1
  rw [hq1] at k1
  have K1 := Lib.hid k1
  have d1 := k1.at12
  have hr := Below.refl w1.heap.size w1
  clear hw1 hb k1 hq1
  go_enter Tryz.func14, Tryz.ntmps14
  go_upto_region 1 with fail
  rw [HW1.out, HQ.out]
  refine wp_region_later w1.heap.size (by kernel_rfl) (by kernel_rfl) ?_
  have hu : ∀ u : Later w1.heap.size w1, Below w1.heap.size w1 u.world := Later.below
  repeat (go_big_quiet_step ((fail)))
  refine wpQuiet_nil ?_
  intro w2 hb2
  have HB2 := Lib.hid (HB.out.up hb2)
  have k2 := K1.out.later hb2
  have K2 := Lib.hid k2
  clear hu hr d1 hb2
  have d1 := k2.at12
  have hr := Below.refl w2.heap.size w2
  clear k2
  go_wp2_with fail
  go_ret
  exact ⟨rfl, HB2.out⟩

set_option maxHeartbeats 4000000 in
set_option maxRecDepth 100000 in
theorem rGood3m (n er : Int) (w : World) (h3 : 1 ≤ er) (h4 : er ≤ 13) : Calls Tryz.prog 14 #[.agg #[.int .i64 3, .int .i64 (-1), .int .i64 n, .int .i64 0, .string ⟨#[]⟩, .int .i64 er, .int .i64 0, .int .i64 0, .int .i64 0, .int .i64 0, .int .i64 0, .int .i64 0]] w fun e w' => e = .returned (.bool true) ∧ Below w.heap.size w w' := by
  obtain ⟨w1, hw1⟩ : ∃ w1, w.alloc (.cells #[.int .i64 3, .int .i64 (-1), .int .i64 n, .int .i64 0, .string ⟨#[]⟩, .int .i64 er, .int .i64 0, .int .i64 0, .int .i64 0, .int .i64 0, .int .i64 0, .int .i64 0] 27) = w1 := ⟨_, rfl⟩
  have k1 : Blk w1 w.heap.size 27 #[.int .i64 3, .int .i64 (-1), .int .i64 n, .int .i64 0, .string ⟨#[]⟩, .int .i64 er, .int .i64 0, .int .i64 0, .int .i64 0, .int .i64 0, .int .i64 0, .int .i64 0] := by rw [← hw1]; exact Blk.new _ _ _
  have hb : Below w.heap.size w w1 := by rw [← hw1]; exact (Below.refl _ _).alloc (Nat.le_refl _) _
  have HW1 := Lib.hid hw1
  have HB := Lib.hid hb
  obtain ⟨q1, hq1⟩ : ∃ q, w.heap.size = q := ⟨_, rfl⟩
  have HQ := Lib.hid hq1
  rw [hq1] at k1
  have K1 := Lib.hid k1
  have d1 := k1.at12
  have hr := Below.refl w1.heap.size w1
  clear hw1 hb k1 hq1
  go_enter Tryz.func14, Tryz.ntmps14
  go_upto_region 1 with fail
  rw [HW1.out, HQ.out]
  refine wp_region_later w1.heap.size (by kernel_rfl) (by kernel_rfl) ?_
  have hu : ∀ u : Later w1.heap.size w1, Below w1.heap.size w1 u.world := Later.below
  repeat (go_big_quiet_step ((fail)))
  refine wpQuiet_nil ?_
  intro w2 hb2
  have HB2 := Lib.hid (HB.out.up hb2)
  have k2 := K1.out.later hb2
  have K2 := Lib.hid k2
  clear hu hr d1 hb2
  have d1 := k2.at12
  have hr := Below.refl w2.heap.size w2
  clear k2
  go_wp2_with fail
  go_ret
  exact ⟨rfl, HB2.out⟩

set_option maxHeartbeats 4000000 in
set_option maxRecDepth 100000 in
theorem rGood4 (d : Int) (b : ByteArray) (w : World) (h1 : 0 ≤ d) (h2 : d < 4096) (h3 : 1 ≤ (b.size : Int)) (h4 : (b.size : Int) ≤ 4096) : Calls Tryz.prog 14 #[.agg #[.int .i64 4, .int .i64 d, .int .i64 (b.size : Int), .int .i64 0, .string b, .int .i64 0, .int .i64 0, .int .i64 0, .int .i64 0, .int .i64 0, .int .i64 0, .int .i64 0]] w fun e w' => e = .returned (.bool true) ∧ Below w.heap.size w w' := by
  obtain ⟨w1, hw1⟩ : ∃ w1, w.alloc (.cells #[.int .i64 4, .int .i64 d, .int .i64 (b.size : Int), .int .i64 0, .string b, .int .i64 0, .int .i64 0, .int .i64 0, .int .i64 0, .int .i64 0, .int .i64 0, .int .i64 0] 27) = w1 := ⟨_, rfl⟩
  have k1 : Blk w1 w.heap.size 27 #[.int .i64 4, .int .i64 d, .int .i64 (b.size : Int), .int .i64 0, .string b, .int .i64 0, .int .i64 0, .int .i64 0, .int .i64 0, .int .i64 0, .int .i64 0, .int .i64 0] := by rw [← hw1]; exact Blk.new _ _ _
  have hb : Below w.heap.size w w1 := by rw [← hw1]; exact (Below.refl _ _).alloc (Nat.le_refl _) _
  have HW1 := Lib.hid hw1
  have HB := Lib.hid hb
  obtain ⟨q1, hq1⟩ : ∃ q, w.heap.size = q := ⟨_, rfl⟩
  have HQ := Lib.hid hq1
  rw [hq1] at k1
  have K1 := Lib.hid k1
  have d1 := k1.at12
  have hr := Below.refl w1.heap.size w1
  have f3 : ¬ (b.size : Int) < 1 := by omega
  have f4 : ¬ 4096 < (b.size : Int) := by omega
  have hne : b.toList.isEmpty = false := by
    rw [Lib.toList_data]
    cases hc : b.data.toList with
    | nil => have : b.data.toList.length = b.size := rfl; rw [hc] at this; simp at this; omega
    | cons => rfl
  clear hw1 hb k1 hq1
  go_enter Tryz.func14, Tryz.ntmps14
  go_upto_region 1 with fail
  rw [HW1.out, HQ.out]
  refine wp_region_later w1.heap.size (by kernel_rfl) (by kernel_rfl) ?_
  have hu : ∀ u : Later w1.heap.size w1, Below w1.heap.size w1 u.world := Later.below
  repeat (go_big_quiet_step ((fail)))
  refine wpQuiet_nil ?_
  intro w2 hb2
  have HB2 := Lib.hid (HB.out.up hb2)
  have k2 := K1.out.later hb2
  have K2 := Lib.hid k2
  clear hu hr d1 hb2
  have d1 := k2.at12
  have hr := Below.refl w2.heap.size w2
  clear k2
  go_upto_region 14 with fail
  generalize hw3 : w2.alloc (.cells #[.int .i64 0, .int .i64 0, .int .i64 0, .int .i64 0, .int .i64 0, .int .i64 0] 25) = w3
  have hb3 : Below w.heap.size w w3 := by rw [← hw3]; exact HB2.out.alloc HB2.out.size _
  have k3 : Blk w3 w2.heap.size 25 #[.int .i64 0, .int .i64 0, .int .i64 0, .int .i64 0, .int .i64 0, .int .i64 0] := by rw [← hw3]; exact Blk.new _ _ _
  obtain ⟨q3, hq3⟩ : ∃ q, w2.heap.size = q := ⟨_, rfl⟩
  rw [hq3] at k3 ⊢
  have K3 := Lib.hid k3
  clear hw3 hq3 hr d1
  have d3 := k3.at6
  have hr := Below.refl w3.heap.size w3
  clear k3
  go_wp2_with fail
  go_ret
  exact ⟨rfl, hb3⟩
end Go.Proofs.YtmnkekepccdlcaaGreatDoor
