/-
  Contracts of package prog, third part: the scripts that are looked at may be.
  Conditions: the ops are those of the scripts that are looked at.
-/
import Derived.Test.YtbhgmccaecmpjaaGreatW29
namespace Go.Proofs.YtbhgmccaecmpjaaGreat
set_option linter.unusedVariables false
set_option linter.unusedSimpArgs false
open Go.RowKit

set_option maxRecDepth 100000 in
set_option maxHeartbeats 4000000 in
theorem pgExp0N (nm : ByteArray) (dl : Int) (jm g c : Nat) (w : World) : Calls Tryz.prog 172 #[.agg #[.string nm, .int .i64 dl, .int .i64 jm, .slice (some ⟨g, 0, none⟩) 2 c], .agg #[.int .i64 2, .string ⟨#[]⟩, .int .i64 9223372036854775807, .int .i64 0, .slice none 0 0, .int .i64 (-1), .int .i64 (-1)]] w fun e w' => e = .returned (.int .i64 0) ∧ Below w.heap.size w w' := by
  obtain ⟨q, hq⟩ : ∃ q, w.heap.size = q := ⟨_, rfl⟩
  obtain ⟨w1, hw1⟩ : ∃ w1, w1 = (w.alloc (.cells #[.string nm, .int .i64 dl, .int .i64 jm, .slice (some ⟨g, 0, none⟩) 2 c] 32)).alloc (.cells #[.int .i64 2, .string ⟨#[]⟩, .int .i64 9223372036854775807, .int .i64 0, .slice none 0 0, .int .i64 (-1), .int .i64 (-1)] 29) := ⟨_, rfl⟩
  have b1 : Below w.heap.size w w1 := by rw [hw1]; exact ((Below.refl _ _).alloc (Nat.le_refl _) _).alloc (by simp) _
  have K1 : Blk w1 q 32 #[.string nm, .int .i64 dl, .int .i64 jm, .slice (some ⟨g, 0, none⟩) 2 c] := by rw [hw1, ← hq]; exact (Blk.new _ _ _).alloc _
  have K2 : Blk w1 (q + 1) 29 #[.int .i64 2, .string ⟨#[]⟩, .int .i64 9223372036854775807, .int .i64 0, .slice none 0 0, .int .i64 (-1), .int .i64 (-1)] := by
    rw [hw1, ← hq]
    have := Blk.new (w.alloc (.cells #[.string nm, .int .i64 dl, .int .i64 jm, .slice (some ⟨g, 0, none⟩) 2 c] 32)) 29 #[.int .i64 2, .string ⟨#[]⟩, .int .i64 9223372036854775807, .int .i64 0, .slice none 0 0, .int .i64 (-1), .int .i64 (-1)]
    simpa using this
  have HW1 := Lib.hid hw1
  have HQ := Lib.hid hq
  have B1 := Lib.hid b1
  clear hw1 hq b1
  go_enter Tryz.func172, Tryz.ntmps172
  go_upto_region 1 with fail
  rw [← HW1.out, HQ.out]
  have d1 := K1.at4
  have d2 := K2.at7
  have hr := Below.refl w1.heap.size w1
  go_wp2_with fail
  refine wp_loop_rounds 1 ?_
  rw [rounds_succ]
  obtain ⟨z, hz⟩ : ∃ z, w1.heap.size = z := ⟨_, rfl⟩
  obtain ⟨w8, hw8⟩ : ∃ w8, w8 = w1.alloc (.cells #[.int .i64 (-1), .int .i64 (-1)] 3) := ⟨_, rfl⟩
  have b8 : Below w1.heap.size w1 w8 := by rw [hw8]; exact Below.alloc (Below.refl _ _) (Nat.le_refl _) _
  have KZ : Blk w8 z 3 #[.int .i64 (-1), .int .i64 (-1)] := by rw [hw8, ← hz]; exact Blk.new _ _ _
  have HW8 := Lib.hid hw8
  have HZ := Lib.hid hz
  have B8 := Lib.hid (B1.out.up b8)
  clear hw8 hz b8
  go_wp2_with fail
  rw [← HW8.out, HZ.out]
  have dz := KZ.at2
  have hr := Below.refl w8.heap.size w8
  refine wp_loop_rounds 3 ?_
  rw [rounds_succ]
  go_wp2_with fail
  rw [rounds_succ]
  go_wp2_with fail
  rw [rounds_succ]
  go_wp2_with fail
  go_ret
  exact ⟨rfl, B8.out⟩

set_option maxRecDepth 100000 in
set_option maxHeartbeats 4000000 in
theorem pgExp1N (nm : ByteArray) (dl : Int) (jm g c : Nat) (ag ac : Nat) (p : ByteArray) (hp : PlainS p) (h0 : 0 < p.size) (w : World) (ha : ∀ w', Below w.heap.size w w' → w'.cell? ⟨ag, 0, none⟩ = some (.string p) ∧ w'.cell? ⟨ag, 1, none⟩ = some (.int .i64 2)) : Calls Tryz.prog 172 #[.agg #[.string nm, .int .i64 dl, .int .i64 jm, .slice (some ⟨g, 0, none⟩) 2 c], .agg #[.int .i64 2, .string ⟨#[]⟩, .int .i64 9223372036854775807, .int .i64 0, .slice (some ⟨ag, 0, none⟩) 1 ac, .int .i64 (-1), .int .i64 (-1)]] w fun e w' => e = .returned (.int .i64 0) ∧ Below w.heap.size w w' := by
  have FA : Hid (∀ w, Calls Tryz.prog 187 #[.agg #[.string nm, .int .i64 dl, .int .i64 jm, .slice (some ⟨g, 0, none⟩) 2 c], .agg #[.string p, .int .i64 2]] w fun e w' => e = .returned (.int .i64 0) ∧ Below w.heap.size w w') := Lib.hid fun w => pgArmed nm dl jm g c p hp h0 w
  obtain ⟨q, hq⟩ : ∃ q, w.heap.size = q := ⟨_, rfl⟩
  obtain ⟨w1, hw1⟩ : ∃ w1, w1 = (w.alloc (.cells #[.string nm, .int .i64 dl, .int .i64 jm, .slice (some ⟨g, 0, none⟩) 2 c] 32)).alloc (.cells #[.int .i64 2, .string ⟨#[]⟩, .int .i64 9223372036854775807, .int .i64 0, .slice (some ⟨ag, 0, none⟩) 1 ac, .int .i64 (-1), .int .i64 (-1)] 29) := ⟨_, rfl⟩
  have b1 : Below w.heap.size w w1 := by rw [hw1]; exact ((Below.refl _ _).alloc (Nat.le_refl _) _).alloc (by simp) _
  have K1 : Blk w1 q 32 #[.string nm, .int .i64 dl, .int .i64 jm, .slice (some ⟨g, 0, none⟩) 2 c] := by rw [hw1, ← hq]; exact (Blk.new _ _ _).alloc _
  have K2 : Blk w1 (q + 1) 29 #[.int .i64 2, .string ⟨#[]⟩, .int .i64 9223372036854775807, .int .i64 0, .slice (some ⟨ag, 0, none⟩) 1 ac, .int .i64 (-1), .int .i64 (-1)] := by
    rw [hw1, ← hq]
    have := Blk.new (w.alloc (.cells #[.string nm, .int .i64 dl, .int .i64 jm, .slice (some ⟨g, 0, none⟩) 2 c] 32)) 29 #[.int .i64 2, .string ⟨#[]⟩, .int .i64 9223372036854775807, .int .i64 0, .slice (some ⟨ag, 0, none⟩) 1 ac, .int .i64 (-1), .int .i64 (-1)]
    simpa using this
  have HW1 := Lib.hid hw1
  have HQ := Lib.hid hq
  have B1 := Lib.hid b1
  have da := fun w' (hb : Below w1.heap.size w1 w') => ha w' (b1.up hb)
  clear hw1 hq b1 hp h0 ha
  go_enter Tryz.func172, Tryz.ntmps172
  go_upto_region 1 with fail
  rw [← HW1.out, HQ.out]
  have d1 := K1.at4
  have d2 := K2.at7
  have hr := Below.refl w1.heap.size w1
  obtain ⟨y, hy⟩ : ∃ y, w1.heap.size = y := ⟨_, rfl⟩
  obtain ⟨w3, hw3⟩ : ∃ w3, w3 = w1.alloc (.cells #[.string p, .int .i64 2] 65) := ⟨_, rfl⟩
  have b3 : Below w1.heap.size w1 w3 := by rw [hw3]; exact Below.alloc (Below.refl _ _) (Nat.le_refl _) _
  have KY : Blk w3 y 65 #[.string p, .int .i64 2] := by rw [hw3, ← hy]; exact Blk.new _ _ _
  have HW3 := Lib.hid hw3
  have HY := Lib.hid hy
  have B3 := Lib.hid (B1.out.up b3)
  have K13 := K1.later b3
  have K23 := K2.later b3
  clear hw3 hy b3
  go_wp2_with fail
  refine wp_loop_rounds 2 ?_
  rw [rounds_succ]
  go_upto_region 8 with fail
  rw [← HW3.out, HY.out]
  clear d1 d2 da hr
  have d1 := K13.at4
  have dy := KY.at2
  have hr := Below.refl w3.heap.size w3
  go_wp2_with fail
  refine (FA.out _).mono ?_; rintro r w4 ⟨rfl, b4⟩
  have d1 := (K13.later b4).at4
  have d2 := (K23.later b4).at7
  have hr := Below.refl w4.heap.size w4
  have B4 := Lib.hid (B3.out.up b4)
  clear b4 dy
  go_wp2_with fail
  rw [rounds_succ]
  obtain ⟨z, hz⟩ : ∃ z, w4.heap.size = z := ⟨_, rfl⟩
  obtain ⟨w8, hw8⟩ : ∃ w8, w8 = w4.alloc (.cells #[.int .i64 (-1), .int .i64 (-1)] 3) := ⟨_, rfl⟩
  have b8 : Below w4.heap.size w4 w8 := by rw [hw8]; exact Below.alloc (Below.refl _ _) (Nat.le_refl _) _
  have KZ : Blk w8 z 3 #[.int .i64 (-1), .int .i64 (-1)] := by rw [hw8, ← hz]; exact Blk.new _ _ _
  have HW8 := Lib.hid hw8
  have HZ := Lib.hid hz
  have B8 := Lib.hid (B4.out.up b8)
  clear hw8 hz b8
  go_wp2_with fail
  rw [← HW8.out, HZ.out]
  have dz := KZ.at2
  have hr := Below.refl w8.heap.size w8
  refine wp_loop_rounds 3 ?_
  rw [rounds_succ]
  go_wp2_with fail
  rw [rounds_succ]
  go_wp2_with fail
  rw [rounds_succ]
  go_wp2_with fail
  go_ret
  exact ⟨rfl, B8.out⟩

set_option maxRecDepth 100000 in
set_option maxHeartbeats 4000000 in
theorem pgExp0F (nm : ByteArray) (dl : Int) (jm g c : Nat) (n : Int) (hn : 0 ≤ n ∧ n ≤ 1000000000000) (w : World) : Calls Tryz.prog 172 #[.agg #[.string nm, .int .i64 dl, .int .i64 jm, .slice (some ⟨g, 0, none⟩) 2 c], .agg #[.int .i64 2, .string ⟨#[]⟩, .int .i64 n, .int .i64 0, .slice none 0 0, .int .i64 (-1), .int .i64 (-1)]] w fun e w' => e = .returned (.int .i64 0) ∧ Below w.heap.size w w' := by
  obtain ⟨q, hq⟩ : ∃ q, w.heap.size = q := ⟨_, rfl⟩
  obtain ⟨w1, hw1⟩ : ∃ w1, w1 = (w.alloc (.cells #[.string nm, .int .i64 dl, .int .i64 jm, .slice (some ⟨g, 0, none⟩) 2 c] 32)).alloc (.cells #[.int .i64 2, .string ⟨#[]⟩, .int .i64 n, .int .i64 0, .slice none 0 0, .int .i64 (-1), .int .i64 (-1)] 29) := ⟨_, rfl⟩
  have b1 : Below w.heap.size w w1 := by rw [hw1]; exact ((Below.refl _ _).alloc (Nat.le_refl _) _).alloc (by simp) _
  have K1 : Blk w1 q 32 #[.string nm, .int .i64 dl, .int .i64 jm, .slice (some ⟨g, 0, none⟩) 2 c] := by rw [hw1, ← hq]; exact (Blk.new _ _ _).alloc _
  have K2 : Blk w1 (q + 1) 29 #[.int .i64 2, .string ⟨#[]⟩, .int .i64 n, .int .i64 0, .slice none 0 0, .int .i64 (-1), .int .i64 (-1)] := by
    rw [hw1, ← hq]
    have := Blk.new (w.alloc (.cells #[.string nm, .int .i64 dl, .int .i64 jm, .slice (some ⟨g, 0, none⟩) 2 c] 32)) 29 #[.int .i64 2, .string ⟨#[]⟩, .int .i64 n, .int .i64 0, .slice none 0 0, .int .i64 (-1), .int .i64 (-1)]
    simpa using this
  have HW1 := Lib.hid hw1
  have HQ := Lib.hid hq
  have B1 := Lib.hid b1
  have e2 : (n == 9223372036854775807) = false := ne_b (by omega)
  have FI := Lib.hid (pgIn64 n 0 1000000000000 hn w1)
  clear hw1 hq b1
  go_enter Tryz.func172, Tryz.ntmps172
  go_upto_region 1 with fail
  rw [← HW1.out, HQ.out]
  have d1 := K1.at4
  have d2 := K2.at7
  have hr := Below.refl w1.heap.size w1
  go_wp2_with fail
  refine FI.out.mono ?_; rintro r w1 ⟨rfl, rfl⟩
  go_wp2_with fail
  refine wp_loop_rounds 1 ?_
  rw [rounds_succ]
  obtain ⟨z, hz⟩ : ∃ z, w1.heap.size = z := ⟨_, rfl⟩
  obtain ⟨w8, hw8⟩ : ∃ w8, w8 = w1.alloc (.cells #[.int .i64 (-1), .int .i64 (-1)] 3) := ⟨_, rfl⟩
  have b8 : Below w1.heap.size w1 w8 := by rw [hw8]; exact Below.alloc (Below.refl _ _) (Nat.le_refl _) _
  have KZ : Blk w8 z 3 #[.int .i64 (-1), .int .i64 (-1)] := by rw [hw8, ← hz]; exact Blk.new _ _ _
  have HW8 := Lib.hid hw8
  have HZ := Lib.hid hz
  have B8 := Lib.hid (B1.out.up b8)
  clear hw8 hz b8
  go_wp2_with fail
  rw [← HW8.out, HZ.out]
  have dz := KZ.at2
  have hr := Below.refl w8.heap.size w8
  refine wp_loop_rounds 3 ?_
  rw [rounds_succ]
  go_wp2_with fail
  rw [rounds_succ]
  go_wp2_with fail
  rw [rounds_succ]
  go_wp2_with fail
  go_ret
  exact ⟨rfl, B8.out⟩

set_option maxRecDepth 100000 in
set_option maxHeartbeats 4000000 in
theorem pgExp1F (nm : ByteArray) (dl : Int) (jm g c : Nat) (n : Int) (hn : 0 ≤ n ∧ n ≤ 1000000000000) (ag ac : Nat) (p : ByteArray) (hp : PlainS p) (h0 : 0 < p.size) (w : World) (ha : ∀ w', Below w.heap.size w w' → w'.cell? ⟨ag, 0, none⟩ = some (.string p) ∧ w'.cell? ⟨ag, 1, none⟩ = some (.int .i64 2)) : Calls Tryz.prog 172 #[.agg #[.string nm, .int .i64 dl, .int .i64 jm, .slice (some ⟨g, 0, none⟩) 2 c], .agg #[.int .i64 2, .string ⟨#[]⟩, .int .i64 n, .int .i64 0, .slice (some ⟨ag, 0, none⟩) 1 ac, .int .i64 (-1), .int .i64 (-1)]] w fun e w' => e = .returned (.int .i64 0) ∧ Below w.heap.size w w' := by
  have FA : Hid (∀ w, Calls Tryz.prog 187 #[.agg #[.string nm, .int .i64 dl, .int .i64 jm, .slice (some ⟨g, 0, none⟩) 2 c], .agg #[.string p, .int .i64 2]] w fun e w' => e = .returned (.int .i64 0) ∧ Below w.heap.size w w') := Lib.hid fun w => pgArmed nm dl jm g c p hp h0 w
  obtain ⟨q, hq⟩ : ∃ q, w.heap.size = q := ⟨_, rfl⟩
  obtain ⟨w1, hw1⟩ : ∃ w1, w1 = (w.alloc (.cells #[.string nm, .int .i64 dl, .int .i64 jm, .slice (some ⟨g, 0, none⟩) 2 c] 32)).alloc (.cells #[.int .i64 2, .string ⟨#[]⟩, .int .i64 n, .int .i64 0, .slice (some ⟨ag, 0, none⟩) 1 ac, .int .i64 (-1), .int .i64 (-1)] 29) := ⟨_, rfl⟩
  have b1 : Below w.heap.size w w1 := by rw [hw1]; exact ((Below.refl _ _).alloc (Nat.le_refl _) _).alloc (by simp) _
  have K1 : Blk w1 q 32 #[.string nm, .int .i64 dl, .int .i64 jm, .slice (some ⟨g, 0, none⟩) 2 c] := by rw [hw1, ← hq]; exact (Blk.new _ _ _).alloc _
  have K2 : Blk w1 (q + 1) 29 #[.int .i64 2, .string ⟨#[]⟩, .int .i64 n, .int .i64 0, .slice (some ⟨ag, 0, none⟩) 1 ac, .int .i64 (-1), .int .i64 (-1)] := by
    rw [hw1, ← hq]
    have := Blk.new (w.alloc (.cells #[.string nm, .int .i64 dl, .int .i64 jm, .slice (some ⟨g, 0, none⟩) 2 c] 32)) 29 #[.int .i64 2, .string ⟨#[]⟩, .int .i64 n, .int .i64 0, .slice (some ⟨ag, 0, none⟩) 1 ac, .int .i64 (-1), .int .i64 (-1)]
    simpa using this
  have HW1 := Lib.hid hw1
  have HQ := Lib.hid hq
  have B1 := Lib.hid b1
  have e2 : (n == 9223372036854775807) = false := ne_b (by omega)
  have FI := Lib.hid (pgIn64 n 0 1000000000000 hn w1)
  have da := fun w' (hb : Below w1.heap.size w1 w') => ha w' (b1.up hb)
  clear hw1 hq b1 hp h0 ha
  go_enter Tryz.func172, Tryz.ntmps172
  go_upto_region 1 with fail
  rw [← HW1.out, HQ.out]
  have d1 := K1.at4
  have d2 := K2.at7
  have hr := Below.refl w1.heap.size w1
  go_wp2_with fail
  refine FI.out.mono ?_; rintro r w1 ⟨rfl, rfl⟩
  obtain ⟨y, hy⟩ : ∃ y, w1.heap.size = y := ⟨_, rfl⟩
  obtain ⟨w3, hw3⟩ : ∃ w3, w3 = w1.alloc (.cells #[.string p, .int .i64 2] 65) := ⟨_, rfl⟩
  have b3 : Below w1.heap.size w1 w3 := by rw [hw3]; exact Below.alloc (Below.refl _ _) (Nat.le_refl _) _
  have KY : Blk w3 y 65 #[.string p, .int .i64 2] := by rw [hw3, ← hy]; exact Blk.new _ _ _
  have HW3 := Lib.hid hw3
  have HY := Lib.hid hy
  have B3 := Lib.hid (B1.out.up b3)
  have K13 := K1.later b3
  have K23 := K2.later b3
  clear hw3 hy b3
  go_wp2_with fail
  refine wp_loop_rounds 2 ?_
  rw [rounds_succ]
  go_upto_region 8 with fail
  rw [← HW3.out, HY.out]
  clear d1 d2 da hr
  have d1 := K13.at4
  have dy := KY.at2
  have hr := Below.refl w3.heap.size w3
  go_wp2_with fail
  refine (FA.out _).mono ?_; rintro r w4 ⟨rfl, b4⟩
  have d1 := (K13.later b4).at4
  have d2 := (K23.later b4).at7
  have hr := Below.refl w4.heap.size w4
  have B4 := Lib.hid (B3.out.up b4)
  clear b4 dy
  go_wp2_with fail
  rw [rounds_succ]
  obtain ⟨z, hz⟩ : ∃ z, w4.heap.size = z := ⟨_, rfl⟩
  obtain ⟨w8, hw8⟩ : ∃ w8, w8 = w4.alloc (.cells #[.int .i64 (-1), .int .i64 (-1)] 3) := ⟨_, rfl⟩
  have b8 : Below w4.heap.size w4 w8 := by rw [hw8]; exact Below.alloc (Below.refl _ _) (Nat.le_refl _) _
  have KZ : Blk w8 z 3 #[.int .i64 (-1), .int .i64 (-1)] := by rw [hw8, ← hz]; exact Blk.new _ _ _
  have HW8 := Lib.hid hw8
  have HZ := Lib.hid hz
  have B8 := Lib.hid (B4.out.up b8)
  clear hw8 hz b8
  go_wp2_with fail
  rw [← HW8.out, HZ.out]
  have dz := KZ.at2
  have hr := Below.refl w8.heap.size w8
  refine wp_loop_rounds 3 ?_
  rw [rounds_succ]
  go_wp2_with fail
  rw [rounds_succ]
  go_wp2_with fail
  rw [rounds_succ]
  go_wp2_with fail
  go_ret
  exact ⟨rfl, B8.out⟩

set_option maxRecDepth 100000 in
set_option maxHeartbeats 4000000 in
theorem pgOpSend (nm : ByteArray) (dl : Int) (jm g c : Nat) (u : ByteArray) (hu : 0 < u.size ∧ u.size ≤ 256) (w : World) : Calls Tryz.prog 146 #[.agg #[.string nm, .int .i64 dl, .int .i64 jm, .slice (some ⟨g, 0, none⟩) 2 c], .agg #[.int .i64 1, .string u, .int .i64 0, .int .i64 0, .slice none 0 0, .int .i64 0, .int .i64 0]] w fun e w' => e = .returned (.int .i64 0) ∧ Below w.heap.size w w' := by
  obtain ⟨q, hq⟩ : ∃ q, w.heap.size = q := ⟨_, rfl⟩
  obtain ⟨w1, hw1⟩ : ∃ w1, w1 = (w.alloc (.cells #[.string nm, .int .i64 dl, .int .i64 jm, .slice (some ⟨g, 0, none⟩) 2 c] 32)).alloc (.cells #[.int .i64 1, .string u, .int .i64 0, .int .i64 0, .slice none 0 0, .int .i64 0, .int .i64 0] 29) := ⟨_, rfl⟩
  have b1 : Below w.heap.size w w1 := by rw [hw1]; exact ((Below.refl _ _).alloc (Nat.le_refl _) _).alloc (by simp) _
  have K1 : Blk w1 q 32 #[.string nm, .int .i64 dl, .int .i64 jm, .slice (some ⟨g, 0, none⟩) 2 c] := by rw [hw1, ← hq]; exact (Blk.new _ _ _).alloc _
  have K2 : Blk w1 (q + 1) 29 #[.int .i64 1, .string u, .int .i64 0, .int .i64 0, .slice none 0 0, .int .i64 0, .int .i64 0] := by
    rw [hw1, ← hq]
    have := Blk.new (w.alloc (.cells #[.string nm, .int .i64 dl, .int .i64 jm, .slice (some ⟨g, 0, none⟩) 2 c] 32)) 29 #[.int .i64 1, .string u, .int .i64 0, .int .i64 0, .slice none 0 0, .int .i64 0, .int .i64 0]
    simpa using this
  have HW1 := Lib.hid hw1
  have HQ := Lib.hid hq
  have B1 := Lib.hid b1
  have FB : Hid (∀ w, Calls Tryz.prog 171 #[.agg #[.int .i64 1, .string u, .int .i64 0, .int .i64 0, .slice none 0 0, .int .i64 0, .int .i64 0]] w fun e w' => e = .returned (.agg #[.int .i64 1, .string u, .int .i64 0, .int .i64 0, .slice none 0 0, .int .i64 0, .int .i64 0]) ∧ Below w.heap.size w w') := Lib.hid fun w => pgBareSend u w
  have FS : Hid (∀ w', Below w1.heap.size w1 w' → Calls Tryz.prog 170 #[.agg #[.int .i64 1, .string u, .int .i64 0, .int .i64 0, .slice none 0 0, .int .i64 0, .int .i64 0], .agg #[.int .i64 1, .string u, .int .i64 0, .int .i64 0, .slice none 0 0, .int .i64 0, .int .i64 0]] w' fun r w'' => r = .returned (.bool true) ∧ Below w'.heap.size w' w'') := Lib.hid fun w' hb => pgSame 1 0 0 u none 0 0 w' (fun w'' _ => eqArm0 w'')
  clear hw1 hq
  go_enter Tryz.func146, Tryz.ntmps146
  go_upto_region 1 with fail
  rw [← HW1.out, HQ.out]
  have d2 := K2.at7
  have hr := Below.refl w1.heap.size w1
  go_upto_region 3 with fail
  refine wp_region_later w1.heap.size (by kernel_rfl) (by kernel_rfl) ?_
  have hu : ∀ u : Later w1.heap.size w1, Below w1.heap.size w1 u.world := Later.below
  repeat (go_big_quiet_step ((first | (go_at_call 171; exact later_below (Nat.le_refl _) (FB.out _)) | (go_at_call 170; exact later_below (Nat.le_refl _) (FS.out _ (hu _))))))
  refine wpQuiet_nil ?_
  intro w2 b2
  have K12 := K1.later b2
  have K22 := K2.later b2
  have B2 := Lib.hid (B1.out.up b2)
  clear d2 hr hu b2 b1
  have d1 := K12.at4
  have d2 := K22.at7
  have hr := Below.refl w2.heap.size w2
  have he : u.toList.isEmpty = false := strSome hu.1
  have h2 : ¬ ((256 : Int) < (u.size : Int)) := by omega
  go_wp2_with fail
  go_ret
  exact ⟨rfl, B2.out⟩

set_option maxRecDepth 100000 in
set_option maxHeartbeats 4000000 in
theorem pgOpPause (nm : ByteArray) (dl : Int) (jm g c : Nat) (n : Int) (hn : 0 ≤ n ∧ n ≤ 1000000000000) (w : World) : Calls Tryz.prog 146 #[.agg #[.string nm, .int .i64 dl, .int .i64 jm, .slice (some ⟨g, 0, none⟩) 2 c], .agg #[.int .i64 4, .string ⟨#[]⟩, .int .i64 n, .int .i64 0, .slice none 0 0, .int .i64 0, .int .i64 0]] w fun e w' => e = .returned (.int .i64 0) ∧ Below w.heap.size w w' := by
  obtain ⟨q, hq⟩ : ∃ q, w.heap.size = q := ⟨_, rfl⟩
  obtain ⟨w1, hw1⟩ : ∃ w1, w1 = (w.alloc (.cells #[.string nm, .int .i64 dl, .int .i64 jm, .slice (some ⟨g, 0, none⟩) 2 c] 32)).alloc (.cells #[.int .i64 4, .string ⟨#[]⟩, .int .i64 n, .int .i64 0, .slice none 0 0, .int .i64 0, .int .i64 0] 29) := ⟨_, rfl⟩
  have b1 : Below w.heap.size w w1 := by rw [hw1]; exact ((Below.refl _ _).alloc (Nat.le_refl _) _).alloc (by simp) _
  have K1 : Blk w1 q 32 #[.string nm, .int .i64 dl, .int .i64 jm, .slice (some ⟨g, 0, none⟩) 2 c] := by rw [hw1, ← hq]; exact (Blk.new _ _ _).alloc _
  have K2 : Blk w1 (q + 1) 29 #[.int .i64 4, .string ⟨#[]⟩, .int .i64 n, .int .i64 0, .slice none 0 0, .int .i64 0, .int .i64 0] := by
    rw [hw1, ← hq]
    have := Blk.new (w.alloc (.cells #[.string nm, .int .i64 dl, .int .i64 jm, .slice (some ⟨g, 0, none⟩) 2 c] 32)) 29 #[.int .i64 4, .string ⟨#[]⟩, .int .i64 n, .int .i64 0, .slice none 0 0, .int .i64 0, .int .i64 0]
    simpa using this
  have HW1 := Lib.hid hw1
  have HQ := Lib.hid hq
  have B1 := Lib.hid b1
  have FB : Hid (∀ w, Calls Tryz.prog 171 #[.agg #[.int .i64 4, .string ⟨#[]⟩, .int .i64 n, .int .i64 0, .slice none 0 0, .int .i64 0, .int .i64 0]] w fun e w' => e = .returned (.agg #[.int .i64 4, .string ⟨#[]⟩, .int .i64 n, .int .i64 0, .slice none 0 0, .int .i64 0, .int .i64 0]) ∧ Below w.heap.size w w') := Lib.hid fun w => pgBarePause n w
  have FS : Hid (∀ w', Below w1.heap.size w1 w' → Calls Tryz.prog 170 #[.agg #[.int .i64 4, .string ⟨#[]⟩, .int .i64 n, .int .i64 0, .slice none 0 0, .int .i64 0, .int .i64 0], .agg #[.int .i64 4, .string ⟨#[]⟩, .int .i64 n, .int .i64 0, .slice none 0 0, .int .i64 0, .int .i64 0]] w' fun r w'' => r = .returned (.bool true) ∧ Below w'.heap.size w' w'') := Lib.hid fun w' hb => pgSame 4 n 0 _ none 0 0 w' (fun w'' _ => eqArm0 w'')
  clear hw1 hq
  go_enter Tryz.func146, Tryz.ntmps146
  go_upto_region 1 with fail
  rw [← HW1.out, HQ.out]
  have d2 := K2.at7
  have hr := Below.refl w1.heap.size w1
  go_upto_region 3 with fail
  refine wp_region_later w1.heap.size (by kernel_rfl) (by kernel_rfl) ?_
  have hu : ∀ u : Later w1.heap.size w1, Below w1.heap.size w1 u.world := Later.below
  repeat (go_big_quiet_step ((first | (go_at_call 171; exact later_below (Nat.le_refl _) (FB.out _)) | (go_at_call 170; exact later_below (Nat.le_refl _) (FS.out _ (hu _))))))
  refine wpQuiet_nil ?_
  intro w2 b2
  have K12 := K1.later b2
  have K22 := K2.later b2
  have B2 := Lib.hid (B1.out.up b2)
  clear d2 hr hu b2 b1
  have d1 := K12.at4
  have d2 := K22.at7
  have hr := Below.refl w2.heap.size w2
  have FI := Lib.hid (pgIn64 n 0 1000000000000 hn w2)
  go_wp2_with fail
  refine FI.out.mono ?_; rintro r w2 ⟨rfl, rfl⟩
  go_wp2_with fail
  go_ret
  exact ⟨rfl, B2.out⟩

set_option maxRecDepth 100000 in
set_option maxHeartbeats 4000000 in
theorem pgOpExp0N (nm : ByteArray) (dl : Int) (jm g c : Nat) (w : World) : Calls Tryz.prog 146 #[.agg #[.string nm, .int .i64 dl, .int .i64 jm, .slice (some ⟨g, 0, none⟩) 2 c], .agg #[.int .i64 2, .string ⟨#[]⟩, .int .i64 9223372036854775807, .int .i64 0, .slice none 0 0, .int .i64 (-1), .int .i64 (-1)]] w fun e w' => e = .returned (.int .i64 0) ∧ Below w.heap.size w w' := by
  obtain ⟨q, hq⟩ : ∃ q, w.heap.size = q := ⟨_, rfl⟩
  obtain ⟨w1, hw1⟩ : ∃ w1, w1 = (w.alloc (.cells #[.string nm, .int .i64 dl, .int .i64 jm, .slice (some ⟨g, 0, none⟩) 2 c] 32)).alloc (.cells #[.int .i64 2, .string ⟨#[]⟩, .int .i64 9223372036854775807, .int .i64 0, .slice none 0 0, .int .i64 (-1), .int .i64 (-1)] 29) := ⟨_, rfl⟩
  have b1 : Below w.heap.size w w1 := by rw [hw1]; exact ((Below.refl _ _).alloc (Nat.le_refl _) _).alloc (by simp) _
  have K1 : Blk w1 q 32 #[.string nm, .int .i64 dl, .int .i64 jm, .slice (some ⟨g, 0, none⟩) 2 c] := by rw [hw1, ← hq]; exact (Blk.new _ _ _).alloc _
  have K2 : Blk w1 (q + 1) 29 #[.int .i64 2, .string ⟨#[]⟩, .int .i64 9223372036854775807, .int .i64 0, .slice none 0 0, .int .i64 (-1), .int .i64 (-1)] := by
    rw [hw1, ← hq]
    have := Blk.new (w.alloc (.cells #[.string nm, .int .i64 dl, .int .i64 jm, .slice (some ⟨g, 0, none⟩) 2 c] 32)) 29 #[.int .i64 2, .string ⟨#[]⟩, .int .i64 9223372036854775807, .int .i64 0, .slice none 0 0, .int .i64 (-1), .int .i64 (-1)]
    simpa using this
  have HW1 := Lib.hid hw1
  have HQ := Lib.hid hq
  have B1 := Lib.hid b1
  have FB : Hid (∀ w, Calls Tryz.prog 171 #[.agg #[.int .i64 2, .string ⟨#[]⟩, .int .i64 9223372036854775807, .int .i64 0, .slice none 0 0, .int .i64 (-1), .int .i64 (-1)]] w fun e w' => e = .returned (.agg #[.int .i64 2, .string ⟨#[]⟩, .int .i64 9223372036854775807, .int .i64 0, .slice none 0 0, .int .i64 (-1), .int .i64 (-1)]) ∧ Below w.heap.size w w') := Lib.hid fun w => pgBareExp 9223372036854775807 none 0 0 w
  have FS : Hid (∀ w', Below w1.heap.size w1 w' → Calls Tryz.prog 170 #[.agg #[.int .i64 2, .string ⟨#[]⟩, .int .i64 9223372036854775807, .int .i64 0, .slice none 0 0, .int .i64 (-1), .int .i64 (-1)], .agg #[.int .i64 2, .string ⟨#[]⟩, .int .i64 9223372036854775807, .int .i64 0, .slice none 0 0, .int .i64 (-1), .int .i64 (-1)]] w' fun r w'' => r = .returned (.bool true) ∧ Below w'.heap.size w' w'') := Lib.hid fun w' hb => pgSame 2 9223372036854775807 (-1) _ none 0 0 w' (fun w'' _ => eqArm0 w'')
  clear hw1 hq
  go_enter Tryz.func146, Tryz.ntmps146
  go_upto_region 1 with fail
  rw [← HW1.out, HQ.out]
  have d2 := K2.at7
  have hr := Below.refl w1.heap.size w1
  go_upto_region 3 with fail
  refine wp_region_later w1.heap.size (by kernel_rfl) (by kernel_rfl) ?_
  have hu : ∀ u : Later w1.heap.size w1, Below w1.heap.size w1 u.world := Later.below
  repeat (go_big_quiet_step ((first | (go_at_call 171; exact later_below (Nat.le_refl _) (FB.out _)) | (go_at_call 170; exact later_below (Nat.le_refl _) (FS.out _ (hu _))))))
  refine wpQuiet_nil ?_
  intro w2 b2
  have K12 := K1.later b2
  have K22 := K2.later b2
  have B2 := Lib.hid (B1.out.up b2)
  clear d2 hr hu b2 b1
  have d1 := K12.at4
  have d2 := K22.at7
  have hr := Below.refl w2.heap.size w2
  have FE := Lib.hid (pgExp0N nm dl jm g c w2)
  go_wp2_with fail
  refine FE.out.mono ?_; rintro r w3 ⟨rfl, b3⟩
  go_wp2_with fail
  go_ret
  exact ⟨rfl, B2.out.up b3⟩

set_option maxRecDepth 100000 in
set_option maxHeartbeats 4000000 in
theorem pgOpExp1N (nm : ByteArray) (dl : Int) (jm g c : Nat) (ag ac : Nat) (p : ByteArray) (hp : PlainS p) (h0 : 0 < p.size) (w : World) (ha : ∀ w', Below w.heap.size w w' → w'.cell? ⟨ag, 0, none⟩ = some (.string p) ∧ w'.cell? ⟨ag, 1, none⟩ = some (.int .i64 2)) : Calls Tryz.prog 146 #[.agg #[.string nm, .int .i64 dl, .int .i64 jm, .slice (some ⟨g, 0, none⟩) 2 c], .agg #[.int .i64 2, .string ⟨#[]⟩, .int .i64 9223372036854775807, .int .i64 0, .slice (some ⟨ag, 0, none⟩) 1 ac, .int .i64 (-1), .int .i64 (-1)]] w fun e w' => e = .returned (.int .i64 0) ∧ Below w.heap.size w w' := by
  obtain ⟨q, hq⟩ : ∃ q, w.heap.size = q := ⟨_, rfl⟩
  obtain ⟨w1, hw1⟩ : ∃ w1, w1 = (w.alloc (.cells #[.string nm, .int .i64 dl, .int .i64 jm, .slice (some ⟨g, 0, none⟩) 2 c] 32)).alloc (.cells #[.int .i64 2, .string ⟨#[]⟩, .int .i64 9223372036854775807, .int .i64 0, .slice (some ⟨ag, 0, none⟩) 1 ac, .int .i64 (-1), .int .i64 (-1)] 29) := ⟨_, rfl⟩
  have b1 : Below w.heap.size w w1 := by rw [hw1]; exact ((Below.refl _ _).alloc (Nat.le_refl _) _).alloc (by simp) _
  have K1 : Blk w1 q 32 #[.string nm, .int .i64 dl, .int .i64 jm, .slice (some ⟨g, 0, none⟩) 2 c] := by rw [hw1, ← hq]; exact (Blk.new _ _ _).alloc _
  have K2 : Blk w1 (q + 1) 29 #[.int .i64 2, .string ⟨#[]⟩, .int .i64 9223372036854775807, .int .i64 0, .slice (some ⟨ag, 0, none⟩) 1 ac, .int .i64 (-1), .int .i64 (-1)] := by
    rw [hw1, ← hq]
    have := Blk.new (w.alloc (.cells #[.string nm, .int .i64 dl, .int .i64 jm, .slice (some ⟨g, 0, none⟩) 2 c] 32)) 29 #[.int .i64 2, .string ⟨#[]⟩, .int .i64 9223372036854775807, .int .i64 0, .slice (some ⟨ag, 0, none⟩) 1 ac, .int .i64 (-1), .int .i64 (-1)]
    simpa using this
  have HW1 := Lib.hid hw1
  have HQ := Lib.hid hq
  have B1 := Lib.hid b1
  have FB : Hid (∀ w, Calls Tryz.prog 171 #[.agg #[.int .i64 2, .string ⟨#[]⟩, .int .i64 9223372036854775807, .int .i64 0, .slice (some ⟨ag, 0, none⟩) 1 ac, .int .i64 (-1), .int .i64 (-1)]] w fun e w' => e = .returned (.agg #[.int .i64 2, .string ⟨#[]⟩, .int .i64 9223372036854775807, .int .i64 0, .slice (some ⟨ag, 0, none⟩) 1 ac, .int .i64 (-1), .int .i64 (-1)]) ∧ Below w.heap.size w w') := Lib.hid fun w => pgBareExp 9223372036854775807 (some ⟨ag, 0, none⟩) 1 ac w
  have FS : Hid (∀ w', Below w1.heap.size w1 w' → Calls Tryz.prog 170 #[.agg #[.int .i64 2, .string ⟨#[]⟩, .int .i64 9223372036854775807, .int .i64 0, .slice (some ⟨ag, 0, none⟩) 1 ac, .int .i64 (-1), .int .i64 (-1)], .agg #[.int .i64 2, .string ⟨#[]⟩, .int .i64 9223372036854775807, .int .i64 0, .slice (some ⟨ag, 0, none⟩) 1 ac, .int .i64 (-1), .int .i64 (-1)]] w' fun r w'' => r = .returned (.bool true) ∧ Below w'.heap.size w' w'') := Lib.hid fun w' hb => pgSame 2 9223372036854775807 (-1) _ (some ⟨ag, 0, none⟩) 1 ac w' (fun w'' hb' => eqArm1 w'' ag ac p 2 (fun w3 hb3 => ha w3 ((b1.up hb).up (hb'.up hb3))))
  clear hw1 hq
  go_enter Tryz.func146, Tryz.ntmps146
  go_upto_region 1 with fail
  rw [← HW1.out, HQ.out]
  have d2 := K2.at7
  have hr := Below.refl w1.heap.size w1
  go_upto_region 3 with fail
  refine wp_region_later w1.heap.size (by kernel_rfl) (by kernel_rfl) ?_
  have hu : ∀ u : Later w1.heap.size w1, Below w1.heap.size w1 u.world := Later.below
  repeat (go_big_quiet_step ((first | (go_at_call 171; exact later_below (Nat.le_refl _) (FB.out _)) | (go_at_call 170; exact later_below (Nat.le_refl _) (FS.out _ (hu _))))))
  refine wpQuiet_nil ?_
  intro w2 b2
  have K12 := K1.later b2
  have K22 := K2.later b2
  have B2 := Lib.hid (B1.out.up b2)
  clear d2 hr hu b2 b1
  have d1 := K12.at4
  have d2 := K22.at7
  have hr := Below.refl w2.heap.size w2
  have FE := Lib.hid (pgExp1N nm dl jm g c ag ac p hp h0 w2 (fun w' hb => ha w' (B2.out.up hb)))
  clear ha hp h0
  go_wp2_with fail
  refine FE.out.mono ?_; rintro r w3 ⟨rfl, b3⟩
  go_wp2_with fail
  go_ret
  exact ⟨rfl, B2.out.up b3⟩

set_option maxRecDepth 100000 in
set_option maxHeartbeats 4000000 in
theorem pgOpExp0F (nm : ByteArray) (dl : Int) (jm g c : Nat) (n : Int) (hn : 0 ≤ n ∧ n ≤ 1000000000000) (w : World) : Calls Tryz.prog 146 #[.agg #[.string nm, .int .i64 dl, .int .i64 jm, .slice (some ⟨g, 0, none⟩) 2 c], .agg #[.int .i64 2, .string ⟨#[]⟩, .int .i64 n, .int .i64 0, .slice none 0 0, .int .i64 (-1), .int .i64 (-1)]] w fun e w' => e = .returned (.int .i64 0) ∧ Below w.heap.size w w' := by
  obtain ⟨q, hq⟩ : ∃ q, w.heap.size = q := ⟨_, rfl⟩
  obtain ⟨w1, hw1⟩ : ∃ w1, w1 = (w.alloc (.cells #[.string nm, .int .i64 dl, .int .i64 jm, .slice (some ⟨g, 0, none⟩) 2 c] 32)).alloc (.cells #[.int .i64 2, .string ⟨#[]⟩, .int .i64 n, .int .i64 0, .slice none 0 0, .int .i64 (-1), .int .i64 (-1)] 29) := ⟨_, rfl⟩
  have b1 : Below w.heap.size w w1 := by rw [hw1]; exact ((Below.refl _ _).alloc (Nat.le_refl _) _).alloc (by simp) _
  have K1 : Blk w1 q 32 #[.string nm, .int .i64 dl, .int .i64 jm, .slice (some ⟨g, 0, none⟩) 2 c] := by rw [hw1, ← hq]; exact (Blk.new _ _ _).alloc _
  have K2 : Blk w1 (q + 1) 29 #[.int .i64 2, .string ⟨#[]⟩, .int .i64 n, .int .i64 0, .slice none 0 0, .int .i64 (-1), .int .i64 (-1)] := by
    rw [hw1, ← hq]
    have := Blk.new (w.alloc (.cells #[.string nm, .int .i64 dl, .int .i64 jm, .slice (some ⟨g, 0, none⟩) 2 c] 32)) 29 #[.int .i64 2, .string ⟨#[]⟩, .int .i64 n, .int .i64 0, .slice none 0 0, .int .i64 (-1), .int .i64 (-1)]
    simpa using this
  have HW1 := Lib.hid hw1
  have HQ := Lib.hid hq
  have B1 := Lib.hid b1
  have FB : Hid (∀ w, Calls Tryz.prog 171 #[.agg #[.int .i64 2, .string ⟨#[]⟩, .int .i64 n, .int .i64 0, .slice none 0 0, .int .i64 (-1), .int .i64 (-1)]] w fun e w' => e = .returned (.agg #[.int .i64 2, .string ⟨#[]⟩, .int .i64 n, .int .i64 0, .slice none 0 0, .int .i64 (-1), .int .i64 (-1)]) ∧ Below w.heap.size w w') := Lib.hid fun w => pgBareExp n none 0 0 w
  have FS : Hid (∀ w', Below w1.heap.size w1 w' → Calls Tryz.prog 170 #[.agg #[.int .i64 2, .string ⟨#[]⟩, .int .i64 n, .int .i64 0, .slice none 0 0, .int .i64 (-1), .int .i64 (-1)], .agg #[.int .i64 2, .string ⟨#[]⟩, .int .i64 n, .int .i64 0, .slice none 0 0, .int .i64 (-1), .int .i64 (-1)]] w' fun r w'' => r = .returned (.bool true) ∧ Below w'.heap.size w' w'') := Lib.hid fun w' hb => pgSame 2 n (-1) _ none 0 0 w' (fun w'' _ => eqArm0 w'')
  clear hw1 hq
  go_enter Tryz.func146, Tryz.ntmps146
  go_upto_region 1 with fail
  rw [← HW1.out, HQ.out]
  have d2 := K2.at7
  have hr := Below.refl w1.heap.size w1
  go_upto_region 3 with fail
  refine wp_region_later w1.heap.size (by kernel_rfl) (by kernel_rfl) ?_
  have hu : ∀ u : Later w1.heap.size w1, Below w1.heap.size w1 u.world := Later.below
  repeat (go_big_quiet_step ((first | (go_at_call 171; exact later_below (Nat.le_refl _) (FB.out _)) | (go_at_call 170; exact later_below (Nat.le_refl _) (FS.out _ (hu _))))))
  refine wpQuiet_nil ?_
  intro w2 b2
  have K12 := K1.later b2
  have K22 := K2.later b2
  have B2 := Lib.hid (B1.out.up b2)
  clear d2 hr hu b2 b1
  have d1 := K12.at4
  have d2 := K22.at7
  have hr := Below.refl w2.heap.size w2
  have FE := Lib.hid (pgExp0F nm dl jm g c n hn w2)
  go_wp2_with fail
  refine FE.out.mono ?_; rintro r w3 ⟨rfl, b3⟩
  go_wp2_with fail
  go_ret
  exact ⟨rfl, B2.out.up b3⟩

set_option maxRecDepth 100000 in
set_option maxHeartbeats 4000000 in
theorem pgOpExp1F (nm : ByteArray) (dl : Int) (jm g c : Nat) (n : Int) (hn : 0 ≤ n ∧ n ≤ 1000000000000) (ag ac : Nat) (p : ByteArray) (hp : PlainS p) (h0 : 0 < p.size) (w : World) (ha : ∀ w', Below w.heap.size w w' → w'.cell? ⟨ag, 0, none⟩ = some (.string p) ∧ w'.cell? ⟨ag, 1, none⟩ = some (.int .i64 2)) : Calls Tryz.prog 146 #[.agg #[.string nm, .int .i64 dl, .int .i64 jm, .slice (some ⟨g, 0, none⟩) 2 c], .agg #[.int .i64 2, .string ⟨#[]⟩, .int .i64 n, .int .i64 0, .slice (some ⟨ag, 0, none⟩) 1 ac, .int .i64 (-1), .int .i64 (-1)]] w fun e w' => e = .returned (.int .i64 0) ∧ Below w.heap.size w w' := by
  obtain ⟨q, hq⟩ : ∃ q, w.heap.size = q := ⟨_, rfl⟩
  obtain ⟨w1, hw1⟩ : ∃ w1, w1 = (w.alloc (.cells #[.string nm, .int .i64 dl, .int .i64 jm, .slice (some ⟨g, 0, none⟩) 2 c] 32)).alloc (.cells #[.int .i64 2, .string ⟨#[]⟩, .int .i64 n, .int .i64 0, .slice (some ⟨ag, 0, none⟩) 1 ac, .int .i64 (-1), .int .i64 (-1)] 29) := ⟨_, rfl⟩
  have b1 : Below w.heap.size w w1 := by rw [hw1]; exact ((Below.refl _ _).alloc (Nat.le_refl _) _).alloc (by simp) _
  have K1 : Blk w1 q 32 #[.string nm, .int .i64 dl, .int .i64 jm, .slice (some ⟨g, 0, none⟩) 2 c] := by rw [hw1, ← hq]; exact (Blk.new _ _ _).alloc _
  have K2 : Blk w1 (q + 1) 29 #[.int .i64 2, .string ⟨#[]⟩, .int .i64 n, .int .i64 0, .slice (some ⟨ag, 0, none⟩) 1 ac, .int .i64 (-1), .int .i64 (-1)] := by
    rw [hw1, ← hq]
    have := Blk.new (w.alloc (.cells #[.string nm, .int .i64 dl, .int .i64 jm, .slice (some ⟨g, 0, none⟩) 2 c] 32)) 29 #[.int .i64 2, .string ⟨#[]⟩, .int .i64 n, .int .i64 0, .slice (some ⟨ag, 0, none⟩) 1 ac, .int .i64 (-1), .int .i64 (-1)]
    simpa using this
  have HW1 := Lib.hid hw1
  have HQ := Lib.hid hq
  have B1 := Lib.hid b1
  have FB : Hid (∀ w, Calls Tryz.prog 171 #[.agg #[.int .i64 2, .string ⟨#[]⟩, .int .i64 n, .int .i64 0, .slice (some ⟨ag, 0, none⟩) 1 ac, .int .i64 (-1), .int .i64 (-1)]] w fun e w' => e = .returned (.agg #[.int .i64 2, .string ⟨#[]⟩, .int .i64 n, .int .i64 0, .slice (some ⟨ag, 0, none⟩) 1 ac, .int .i64 (-1), .int .i64 (-1)]) ∧ Below w.heap.size w w') := Lib.hid fun w => pgBareExp n (some ⟨ag, 0, none⟩) 1 ac w
  have FS : Hid (∀ w', Below w1.heap.size w1 w' → Calls Tryz.prog 170 #[.agg #[.int .i64 2, .string ⟨#[]⟩, .int .i64 n, .int .i64 0, .slice (some ⟨ag, 0, none⟩) 1 ac, .int .i64 (-1), .int .i64 (-1)], .agg #[.int .i64 2, .string ⟨#[]⟩, .int .i64 n, .int .i64 0, .slice (some ⟨ag, 0, none⟩) 1 ac, .int .i64 (-1), .int .i64 (-1)]] w' fun r w'' => r = .returned (.bool true) ∧ Below w'.heap.size w' w'') := Lib.hid fun w' hb => pgSame 2 n (-1) _ (some ⟨ag, 0, none⟩) 1 ac w' (fun w'' hb' => eqArm1 w'' ag ac p 2 (fun w3 hb3 => ha w3 ((b1.up hb).up (hb'.up hb3))))
  clear hw1 hq
  go_enter Tryz.func146, Tryz.ntmps146
  go_upto_region 1 with fail
  rw [← HW1.out, HQ.out]
  have d2 := K2.at7
  have hr := Below.refl w1.heap.size w1
  go_upto_region 3 with fail
  refine wp_region_later w1.heap.size (by kernel_rfl) (by kernel_rfl) ?_
  have hu : ∀ u : Later w1.heap.size w1, Below w1.heap.size w1 u.world := Later.below
  repeat (go_big_quiet_step ((first | (go_at_call 171; exact later_below (Nat.le_refl _) (FB.out _)) | (go_at_call 170; exact later_below (Nat.le_refl _) (FS.out _ (hu _))))))
  refine wpQuiet_nil ?_
  intro w2 b2
  have K12 := K1.later b2
  have K22 := K2.later b2
  have B2 := Lib.hid (B1.out.up b2)
  clear d2 hr hu b2 b1
  have d1 := K12.at4
  have d2 := K22.at7
  have hr := Below.refl w2.heap.size w2
  have FE := Lib.hid (pgExp1F nm dl jm g c n hn ag ac p hp h0 w2 (fun w' hb => ha w' (B2.out.up hb)))
  clear ha hp h0
  go_wp2_with fail
  refine FE.out.mono ?_; rintro r w3 ⟨rfl, b3⟩
  go_wp2_with fail
  go_ret
  exact ⟨rfl, B2.out.up b3⟩
end Go.Proofs.YtbhgmccaecmpjaaGreat
