/-
  The reference takes a good event of kind 5 for good. And the others alike.
  Conditions: none.
-/
import Derived.Test.YtmnkekepccdlcaaGreatDoorRefW
namespace Go.Proofs.YtmnkekepccdlcaaGreatDoor
set_option linter.unusedVariables false
set_option linter.unusedSimpArgs false
open Go.RowKit

set_option maxHeartbeats 4000000 in
set_option maxRecDepth 100000 in
theorem rGood5 (d : Int) (w : World) (h1 : 0 ≤ d) (h2 : d < 4096) : Calls Tryz.prog 14 #[.agg #[.int .i64 5, .int .i64 d, .int .i64 0, .int .i64 0, .string ⟨#[]⟩, .int .i64 0, .int .i64 0, .int .i64 0, .int .i64 0, .int .i64 0, .int .i64 0, .int .i64 0]] w fun e w' => e = .returned (.bool true) ∧ Below w.heap.size w w' := by
  obtain ⟨w1, hw1⟩ : ∃ w1, w.alloc (.cells #[.int .i64 5, .int .i64 d, .int .i64 0, .int .i64 0, .string ⟨#[]⟩, .int .i64 0, .int .i64 0, .int .i64 0, .int .i64 0, .int .i64 0, .int .i64 0, .int .i64 0] 27) = w1 := ⟨_, rfl⟩
  have k1 : Blk w1 w.heap.size 27 #[.int .i64 5, .int .i64 d, .int .i64 0, .int .i64 0, .string ⟨#[]⟩, .int .i64 0, .int .i64 0, .int .i64 0, .int .i64 0, .int .i64 0, .int .i64 0, .int .i64 0] := by rw [← hw1]; exact Blk.new _ _ _
  have hb : Below w.heap.size w w1 := by rw [← hw1]; exact (Below.refl _ _).alloc (Nat.le_refl _) _
  have HW1 := Lib.hid hw1
  have HB := Lib.hid hb
  obtain ⟨q1, hq1⟩ : ∃ q, w.heap.size = q := ⟨_, rfl⟩
  have HQ := Lib.hid hq1
  rw [hq1] at k1
  have K1 := Lib.hid k1
  have d1 := k1.at12
  have hr := Below.refl w1.heap.size w1
  clear hw1 hb k1 hq1
  go_enter Tryz.func14, Tryz.ntmps14
  go_upto_region 1 with fail
  rw [HW1.out, HQ.out]
  refine wp_region_later w1.heap.size (by kernel_rfl) (by kernel_rfl) ?_
  have hu : ∀ u : Later w1.heap.size w1, Below w1.heap.size w1 u.world := Later.below
  repeat (go_big_quiet_step ((fail)))
  refine wpQuiet_nil ?_
  intro w2 hb2
  have HB2 := Lib.hid (HB.out.up hb2)
  have k2 := K1.out.later hb2
  have K2 := Lib.hid k2
  clear hu hr d1 hb2
  have d1 := k2.at12
  have hr := Below.refl w2.heap.size w2
  clear k2
  go_upto_region 14 with fail
  generalize hw3 : w2.alloc (.cells #[.int .i64 0, .int .i64 0, .int .i64 0, .int .i64 0, .int .i64 0, .int .i64 0] 25) = w3
  have hb3 : Below w.heap.size w w3 := by rw [← hw3]; exact HB2.out.alloc HB2.out.size _
  have k3 : Blk w3 w2.heap.size 25 #[.int .i64 0, .int .i64 0, .int .i64 0, .int .i64 0, .int .i64 0, .int .i64 0] := by rw [← hw3]; exact Blk.new _ _ _
  obtain ⟨q3, hq3⟩ : ∃ q, w2.heap.size = q := ⟨_, rfl⟩
  rw [hq3] at k3 ⊢
  have K3 := Lib.hid k3
  clear hw3 hq3 hr d1
  have d3 := k3.at6
  have hr := Below.refl w3.heap.size w3
  clear k3
  go_wp2_with fail
  go_ret
  exact ⟨rfl, hb3⟩

set_option maxHeartbeats 4000000 in
set_option maxRecDepth 100000 in
theorem rGood6 (d : Int) (b : ByteArray) (w : World) (h1 : 0 ≤ d) (h2 : d < 4096) (h3 : 1 ≤ (b.size : Int)) (h4 : (b.size : Int) ≤ 4096) : Calls Tryz.prog 14 #[.agg #[.int .i64 6, .int .i64 d, .int .i64 (b.size : Int), .int .i64 0, .string b, .int .i64 0, .int .i64 0, .int .i64 0, .int .i64 0, .int .i64 0, .int .i64 0, .int .i64 0]] w fun e w' => e = .returned (.bool true) ∧ Below w.heap.size w w' := by
  obtain ⟨w1, hw1⟩ : ∃ w1, w.alloc (.cells #[.int .i64 6, .int .i64 d, .int .i64 (b.size : Int), .int .i64 0, .string b, .int .i64 0, .int .i64 0, .int .i64 0, .int .i64 0, .int .i64 0, .int .i64 0, .int .i64 0] 27) = w1 := ⟨_, rfl⟩
  have k1 : Blk w1 w.heap.size 27 #[.int .i64 6, .int .i64 d, .int .i64 (b.size : Int), .int .i64 0, .string b, .int .i64 0, .int .i64 0, .int .i64 0, .int .i64 0, .int .i64 0, .int .i64 0, .int .i64 0] := by rw [← hw1]; exact Blk.new _ _ _
  have hb : Below w.heap.size w w1 := by rw [← hw1]; exact (Below.refl _ _).alloc (Nat.le_refl _) _
  have HW1 := Lib.hid hw1
  have HB := Lib.hid hb
  obtain ⟨q1, hq1⟩ : ∃ q, w.heap.size = q := ⟨_, rfl⟩
  have HQ := Lib.hid hq1
  rw [hq1] at k1
  have K1 := Lib.hid k1
  have d1 := k1.at12
  have hr := Below.refl w1.heap.size w1
  have f3 : ¬ (b.size : Int) < 1 := by omega
  have f4 : ¬ 4096 < (b.size : Int) := by omega
  have hne : b.toList.isEmpty = false := by
    rw [Lib.toList_data]
    cases hc : b.data.toList with
    | nil => have : b.data.toList.length = b.size := rfl; rw [hc] at this; simp at this; omega
    | cons => rfl
  clear hw1 hb k1 hq1
  go_enter Tryz.func14, Tryz.ntmps14
  go_upto_region 1 with fail
  rw [HW1.out, HQ.out]
  refine wp_region_later w1.heap.size (by kernel_rfl) (by kernel_rfl) ?_
  have hu : ∀ u : Later w1.heap.size w1, Below w1.heap.size w1 u.world := Later.below
  repeat (go_big_quiet_step ((fail)))
  refine wpQuiet_nil ?_
  intro w2 hb2
  have HB2 := Lib.hid (HB.out.up hb2)
  have k2 := K1.out.later hb2
  have K2 := Lib.hid k2
  clear hu hr d1 hb2
  have d1 := k2.at12
  have hr := Below.refl w2.heap.size w2
  clear k2
  go_upto_region 14 with fail
  generalize hw3 : w2.alloc (.cells #[.int .i64 0, .int .i64 0, .int .i64 0, .int .i64 0, .int .i64 0, .int .i64 0] 25) = w3
  have hb3 : Below w.heap.size w w3 := by rw [← hw3]; exact HB2.out.alloc HB2.out.size _
  have k3 : Blk w3 w2.heap.size 25 #[.int .i64 0, .int .i64 0, .int .i64 0, .int .i64 0, .int .i64 0, .int .i64 0] := by rw [← hw3]; exact Blk.new _ _ _
  obtain ⟨q3, hq3⟩ : ∃ q, w2.heap.size = q := ⟨_, rfl⟩
  rw [hq3] at k3 ⊢
  have K3 := Lib.hid k3
  clear hw3 hq3 hr d1
  have d3 := k3.at6
  have hr := Below.refl w3.heap.size w3
  clear k3
  go_wp2_with fail
  go_ret
  exact ⟨rfl, hb3⟩

set_option maxHeartbeats 4000000 in
set_option maxRecDepth 100000 in
theorem rGood7 (t : Int) (w : World) (h1 : 0 ≤ t) : Calls Tryz.prog 14 #[.agg #[.int .i64 7, .int .i64 0, .int .i64 0, .int .i64 t, .string ⟨#[]⟩, .int .i64 0, .int .i64 0, .int .i64 0, .int .i64 0, .int .i64 0, .int .i64 0, .int .i64 0]] w fun e w' => e = .returned (.bool true) ∧ Below w.heap.size w w' := by
  obtain ⟨w1, hw1⟩ : ∃ w1, w.alloc (.cells #[.int .i64 7, .int .i64 0, .int .i64 0, .int .i64 t, .string ⟨#[]⟩, .int .i64 0, .int .i64 0, .int .i64 0, .int .i64 0, .int .i64 0, .int .i64 0, .int .i64 0] 27) = w1 := ⟨_, rfl⟩
  have k1 : Blk w1 w.heap.size 27 #[.int .i64 7, .int .i64 0, .int .i64 0, .int .i64 t, .string ⟨#[]⟩, .int .i64 0, .int .i64 0, .int .i64 0, .int .i64 0, .int .i64 0, .int .i64 0, .int .i64 0] := by rw [← hw1]; exact Blk.new _ _ _
  have hb : Below w.heap.size w w1 := by rw [← hw1]; exact (Below.refl _ _).alloc (Nat.le_refl _) _
  have HW1 := Lib.hid hw1
  have HB := Lib.hid hb
  obtain ⟨q1, hq1⟩ : ∃ q, w.heap.size = q := ⟨_, rfl⟩
  have HQ := Lib.hid hq1
  rw [hq1] at k1
  have K1 := Lib.hid k1
  have d1 := k1.at12
  have hr := Below.refl w1.heap.size w1
  have f1 : ¬ t < 0 := by omega
  clear hw1 hb k1 hq1
  go_enter Tryz.func14, Tryz.ntmps14
  go_upto_region 1 with fail
  rw [HW1.out, HQ.out]
  refine wp_region_later w1.heap.size (by kernel_rfl) (by kernel_rfl) ?_
  have hu : ∀ u : Later w1.heap.size w1, Below w1.heap.size w1 u.world := Later.below
  repeat (go_big_quiet_step ((fail)))
  refine wpQuiet_nil ?_
  intro w2 hb2
  have HB2 := Lib.hid (HB.out.up hb2)
  have k2 := K1.out.later hb2
  have K2 := Lib.hid k2
  clear hu hr d1 hb2
  have d1 := k2.at12
  have hr := Below.refl w2.heap.size w2
  clear k2
  go_wp2_with fail
  go_ret
  exact ⟨rfl, HB2.out⟩

theorem what_ne (n : Int) (h : 1 ≤ n) (h2 : n ≤ 14) : (whatT n == []) = false := by
  obtain ⟨k, rfl⟩ : ∃ k : Nat, n = k := ⟨n.toNat, by omega⟩
  have : ∀ k : Fin 15, 1 ≤ k.val → (whatT (k.val : Int) == []) = false := by decide
  exact this ⟨k, by omega⟩ (by show 1 ≤ k; omega)
theorem stat_ne (n : Int) (h : 0 ≤ n) (h2 : n ≤ 5) : (statT n == []) = false := by
  obtain ⟨k, rfl⟩ : ∃ k : Nat, n = k := ⟨n.toNat, by omega⟩
  have : ∀ k : Fin 6, (statT (k.val : Int) == []) = false := by decide
  exact this ⟨k, by omega⟩
theorem isEmpty_of {l : List UInt8} (h : (l == []) = false) : l.isEmpty = false := by cases l <;> simp at h ⊢
set_option maxHeartbeats 4000000 in
set_option maxRecDepth 100000 in
theorem rGood8 (d s1 s2 s3 s4 s5 s6 : Int) (w : World) (h1 : 0 ≤ d) (h2 : d < 4096) (h3 : 0 ≤ s1) (h4 : 0 ≤ s2) (h5 : s2 ≤ 200) (h6 : 1 ≤ s3) (h7 : s3 ≤ 14) (h8 : 0 ≤ s4) (h9 : s4 ≤ 7) (h10 : 0 ≤ s5) (h11 : s5 ≤ 4096) (h12 : 0 ≤ s6) (h13 : s6 ≤ 5) : Calls Tryz.prog 14 #[.agg #[.int .i64 8, .int .i64 d, .int .i64 0, .int .i64 0, .string ⟨#[]⟩, .int .i64 0, .int .i64 s1, .int .i64 s2, .int .i64 s3, .int .i64 s4, .int .i64 s5, .int .i64 s6]] w fun e w' => e = .returned (.bool true) ∧ Below w.heap.size w w' := by
  obtain ⟨w1, hw1⟩ : ∃ w1, w.alloc (.cells #[.int .i64 8, .int .i64 d, .int .i64 0, .int .i64 0, .string ⟨#[]⟩, .int .i64 0, .int .i64 s1, .int .i64 s2, .int .i64 s3, .int .i64 s4, .int .i64 s5, .int .i64 s6] 27) = w1 := ⟨_, rfl⟩
  have k1 : Blk w1 w.heap.size 27 #[.int .i64 8, .int .i64 d, .int .i64 0, .int .i64 0, .string ⟨#[]⟩, .int .i64 0, .int .i64 s1, .int .i64 s2, .int .i64 s3, .int .i64 s4, .int .i64 s5, .int .i64 s6] := by rw [← hw1]; exact Blk.new _ _ _
  have hb : Below w.heap.size w w1 := by rw [← hw1]; exact (Below.refl _ _).alloc (Nat.le_refl _) _
  have HW1 := Lib.hid hw1
  have HB := Lib.hid hb
  obtain ⟨q1, hq1⟩ : ∃ q, w.heap.size = q := ⟨_, rfl⟩
  have HQ := Lib.hid hq1
  rw [hq1] at k1
  have K1 := Lib.hid k1
  have d1 := k1.at12
  have hr := Below.refl w1.heap.size w1
  have f3 : ¬ s1 < 0 := by omega
  have f4 : ¬ s2 < 0 := by omega
  have f5 : ¬ 200 < s2 := by omega
  have f8 : ¬ s4 < 0 := by omega
  have f9 : ¬ 7 < s4 := by omega
  have f10 : ¬ s5 < 0 := by omega
  have f11 : ¬ 4096 < s5 := by omega
  have GW := Lib.hid (fun w' => rWhat s3 w' (by unfold i64; omega))
  have GS := Lib.hid (fun w' => rStatus s6 w' (by unfold i64; omega))
  have e1 := isEmpty_of (what_ne s3 h6 h7)
  have e2 := isEmpty_of (stat_ne s6 h12 h13)
  have e3 := what_ne s3 h6 h7
  have e4 := stat_ne s6 h12 h13
  generalize whatT s3 = T3 at *
  generalize statT s6 = T6 at *
  clear hw1 hb k1 hq1
  go_enter Tryz.func14, Tryz.ntmps14
  go_upto_region 1 with fail
  rw [HW1.out, HQ.out]
  refine wp_region_later w1.heap.size (by kernel_rfl) (by kernel_rfl) ?_
  have hu : ∀ u : Later w1.heap.size w1, Below w1.heap.size w1 u.world := Later.below
  repeat (go_big_quiet_step ((fail)))
  refine wpQuiet_nil ?_
  intro w2 hb2
  have HB2 := Lib.hid (HB.out.up hb2)
  have k2 := K1.out.later hb2
  have K2 := Lib.hid k2
  clear hu hr d1 hb2
  have d1 := k2.at12
  have hr := Below.refl w2.heap.size w2
  clear k2
  go_upto_region 14 with fail
  generalize hw3 : w2.alloc (.cells #[.int .i64 s1, .int .i64 s2, .int .i64 s3, .int .i64 s4, .int .i64 s5, .int .i64 s6] 25) = w3
  have hb3 : Below w.heap.size w w3 := by rw [← hw3]; exact HB2.out.alloc HB2.out.size _
  have k3 : Blk w3 w2.heap.size 25 #[.int .i64 s1, .int .i64 s2, .int .i64 s3, .int .i64 s4, .int .i64 s5, .int .i64 s6] := by rw [← hw3]; exact Blk.new _ _ _
  obtain ⟨q3, hq3⟩ : ∃ q, w2.heap.size = q := ⟨_, rfl⟩
  rw [hq3] at k3 ⊢
  have K3 := Lib.hid k3
  clear hw3 hq3 hr d1
  have d3 := k3.at6
  have hr := Below.refl w3.heap.size w3
  clear k3
  go_wp2_with fail
  refine (GW.out _).mono ?_; rintro e w4 ⟨rfl, hb4⟩
  have hb5 := hb3.up hb4
  have K4 := Lib.hid (K3.out.later hb4)
  clear hr d3 hb3 hb4
  have d3 := K4.out.at6
  have hr := Below.refl w4.heap.size w4
  go_wp2_with fail
  refine (GS.out _).mono ?_; rintro e w5 ⟨rfl, hb6⟩
  have hb7 := hb5.up hb6
  clear hr d3
  go_wp2_with fail
  go_ret
  exact ⟨rfl, hb7⟩

set_option maxHeartbeats 4000000 in
set_option maxRecDepth 100000 in
theorem rGood9  (w : World)  : Calls Tryz.prog 14 #[.agg #[.int .i64 9, .int .i64 0, .int .i64 0, .int .i64 0, .string ⟨#[]⟩, .int .i64 0, .int .i64 0, .int .i64 0, .int .i64 0, .int .i64 0, .int .i64 0, .int .i64 0]] w fun e w' => e = .returned (.bool true) ∧ Below w.heap.size w w' := by
  obtain ⟨w1, hw1⟩ : ∃ w1, w.alloc (.cells #[.int .i64 9, .int .i64 0, .int .i64 0, .int .i64 0, .string ⟨#[]⟩, .int .i64 0, .int .i64 0, .int .i64 0, .int .i64 0, .int .i64 0, .int .i64 0, .int .i64 0] 27) = w1 := ⟨_, rfl⟩
  have k1 : Blk w1 w.heap.size 27 #[.int .i64 9, .int .i64 0, .int .i64 0, .int .i64 0, .string ⟨#[]⟩, .int .i64 0, .int .i64 0, .int .i64 0, .int .i64 0, .int .i64 0, .int .i64 0, .int .i64 0] := by rw [← hw1]; exact Blk.new _ _ _
  have hb : Below w.heap.size w w1 := by rw [← hw1]; exact (Below.refl _ _).alloc (Nat.le_refl _) _
  have HW1 := Lib.hid hw1
  have HB := Lib.hid hb
  obtain ⟨q1, hq1⟩ : ∃ q, w.heap.size = q := ⟨_, rfl⟩
  have HQ := Lib.hid hq1
  rw [hq1] at k1
  have K1 := Lib.hid k1
  have d1 := k1.at12
  have hr := Below.refl w1.heap.size w1
  clear hw1 hb k1 hq1
  go_enter Tryz.func14, Tryz.ntmps14
  go_upto_region 1 with fail
  rw [HW1.out, HQ.out]
  refine wp_region_later w1.heap.size (by kernel_rfl) (by kernel_rfl) ?_
  have hu : ∀ u : Later w1.heap.size w1, Below w1.heap.size w1 u.world := Later.below
  repeat (go_big_quiet_step ((fail)))
  refine wpQuiet_nil ?_
  intro w2 hb2
  have HB2 := Lib.hid (HB.out.up hb2)
  have k2 := K1.out.later hb2
  have K2 := Lib.hid k2
  clear hu hr d1 hb2
  have d1 := k2.at12
  have hr := Below.refl w2.heap.size w2
  clear k2
  go_wp2_with fail
  go_ret
  exact ⟨rfl, HB2.out⟩
end Go.Proofs.YtmnkekepccdlcaaGreatDoor
