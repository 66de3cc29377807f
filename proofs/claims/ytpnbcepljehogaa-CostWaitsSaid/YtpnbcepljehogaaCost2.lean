/-
  Contracts of package cost and of its reference, the prices: what a step costs, in how many turns it is done, and till when.
  Conditions: the numbers are of their Go kinds.
-/
import Derived.Test.YtpnbcepljehogaaCost
import Derived.Test.YtpnbcepljehogaaTimes
namespace Go.Proofs.Ytpnbcepljehogaa
open Go.RowKit

def clampT (x m : Int) : Int := min (max x 0) m
theorem clampT_bd {x m : Int} (hm : 0 ≤ m) : 0 ≤ clampT x m ∧ clampT x m ≤ m := by unfold clampT; omega

theorem cSome (x m : Int) (w : World) : Calls Try.prog 86 #[.int .i64 x, .int .i64 m] w fun e w' => e = .returned (.int .i64 (clampT x m)) ∧ w = w' := by
  unfold clampT
  go_enter Try.func86, Try.ntmps86
  go_wp2
  go_ret
  exact ⟨rfl, rfl⟩
theorem rWithin0 (x m : Int) (w : World) (hm : 0 ≤ m) : Calls Try.prog 84 #[.int .i64 x, .int .i64 0, .int .i64 m] w fun e w' => e = .returned (.int .i64 (clampT x m)) ∧ w = w' := by
  by_cases h : x < 0
  · have e : clampT x m = 0 := by unfold clampT; omega
    rw [e]
    go_enter Try.func84, Try.ntmps84
    go_wp2
    go_ret
    exact ⟨rfl, rfl⟩
  · by_cases h2 : m < x
    · have e : clampT x m = m := by unfold clampT; omega
      rw [e]
      go_enter Try.func84, Try.ntmps84
      go_wp2
      go_ret
      exact ⟨rfl, rfl⟩
    · have e : clampT x m = x := by unfold clampT; omega
      rw [e]
      go_enter Try.func84, Try.ntmps84
      go_wp2
      go_ret
      exact ⟨rfl, rfl⟩

def mostS (l r n o q v : Int) : Int := if goodB l r n o q v = true then 1 + max n o else 0
def priceS (l r n o q v kind fresh waits : Int) : Int :=
  if goodB l r n o q v = true then (if kind = 2 then 1 + min (clampT fresh n + clampT waits n) n else if kind = 1 then 1 + clampT waits o else 1) else 0

/-- A good setup's numbers. -/
theorem good_bd {l r n o q v : Int} (hg : goodB l r n o q v = true) : 1 ≤ l ∧ l ≤ 1024 ∧ 1 ≤ n ∧ n ≤ 4096 ∧ 1 ≤ o ∧ o ≤ 4096 ∧ 1 ≤ q ∧ q ≤ 1000000 := by
  have := goodB_iff.1 hg; omega

set_option maxHeartbeats 1000000 in
theorem cPrice (l r n o q v kind fresh waits : Int) (w : World) : Calls Try.prog 55 #[.agg #[.int .i64 l, .int .i64 r, .int .i64 n, .int .i64 o, .int .i64 q, .int .i64 v], .int .i64 kind, .int .i64 fresh, .int .i64 waits] w
    fun e w' => e = .returned (.int .i64 (priceS l r n o q v kind fresh waits)) ∧ Below w.heap.size w w' := by
  obtain ⟨w0, hw0⟩ : ∃ w0, w0 = w.alloc (.cells #[.int .i64 l, .int .i64 r, .int .i64 n, .int .i64 o, .int .i64 q, .int .i64 v] 73) := ⟨_, rfl⟩
  have hk : Blk w0 w.heap.size 73 #[.int .i64 l, .int .i64 r, .int .i64 n, .int .i64 o, .int .i64 q, .int .i64 v] := by rw [hw0]; exact Blk.new _ _ _
  have hz : Below w.heap.size w w0 := by rw [hw0]; exact (Below.refl _ _).alloc (Nat.le_refl _) _
  have HW0 := Lib.hid hw0
  clear hw0
  have d0 := hk.at6
  have hr := Below.refl w0.heap.size w0
  unfold priceS
  cases hg : goodB l r n o q v
  · rw [if_neg (by simp)]
    go_enter Try.func55, Try.ntmps55
    go_upto_region 1 with fail
    rw [← HW0.out]
    go_wp2_with fail
    refine (cgood_no _ _ _ _ _ _ _ hg).mono ?_; rintro e w1 ⟨rfl, hb1⟩
    go_wp2_with fail
    go_ret
    exact ⟨rfl, hz.up hb1⟩
  · rw [if_pos rfl]
    obtain ⟨-, -, b1, b2, b3, b4, -, -⟩ := good_bd hg
    have f1 := clampT_bd (x := fresh) (m := n) (by omega)
    have f2 := clampT_bd (x := waits) (m := n) (by omega)
    have f3 := clampT_bd (x := waits) (m := o) (by omega)
    by_cases k2 : kind = 2
    · subst k2
      rw [if_pos rfl]
      go_enter Try.func55, Try.ntmps55
      go_upto_region 1 with fail
      rw [← HW0.out]
      go_wp2_with fail
      refine (cgood_yes _ _ _ _ _ _ _ hg).mono ?_; rintro e w1 ⟨rfl, hb1⟩
      go_wp2_with fail
      have hu : ∀ u : Later w1.heap.size w1, Below w0.heap.size w0 u.world := fun u => hb1.up u.below
      refine wp_region_later w1.heap.size (by kernel_rfl) (by kernel_rfl) ?_
      repeat (go_big_quiet_step ((go_at_call 86; exact later_same (cSome _ _ _))))
      refine wpQuiet_nil ?_
      intro w2 hb2
      go_wp2_with fail
      go_ret
      exact ⟨rfl, (hz.up hb1).up hb2⟩
    · rw [if_neg k2]
      have g2 : (kind == 2) = false := by simpa using k2
      clear k2
      by_cases k1 : kind = 1
      · subst k1
        rw [if_pos rfl]
        clear g2
        go_enter Try.func55, Try.ntmps55
        go_upto_region 1 with fail
        rw [← HW0.out]
        go_wp2_with fail
        refine (cgood_yes _ _ _ _ _ _ _ hg).mono ?_; rintro e w1 ⟨rfl, hb1⟩
        go_wp2_with fail
        refine (cSome _ _ _).mono ?_; rintro e w' ⟨rfl, rfl⟩
        go_wp2_with fail
        go_ret
        exact ⟨rfl, hz.up hb1⟩
      · rw [if_neg k1]
        have g1 : (kind == 1) = false := by simpa using k1
        clear k1
        go_enter Try.func55, Try.ntmps55
        go_upto_region 1 with fail
        rw [← HW0.out]
        go_wp2_with fail
        refine (cgood_yes _ _ _ _ _ _ _ hg).mono ?_; rintro e w1 ⟨rfl, hb1⟩
        go_wp2_with fail
        go_ret
        exact ⟨rfl, hz.up hb1⟩

set_option maxHeartbeats 1000000 in
theorem rPrice (l r n o q v kind fresh waits : Int) (w : World) : Calls Try.prog 58 #[.agg #[.int .i64 l, .int .i64 r, .int .i64 n, .int .i64 o, .int .i64 q, .int .i64 v], .int .i64 kind, .int .i64 fresh, .int .i64 waits] w
    fun e w' => e = .returned (.int .i64 (priceS l r n o q v kind fresh waits)) ∧ Below w.heap.size w w' := by
  obtain ⟨w0, hw0⟩ : ∃ w0, w0 = w.alloc (.cells #[.int .i64 l, .int .i64 r, .int .i64 n, .int .i64 o, .int .i64 q, .int .i64 v] 73) := ⟨_, rfl⟩
  have hk : Blk w0 w.heap.size 73 #[.int .i64 l, .int .i64 r, .int .i64 n, .int .i64 o, .int .i64 q, .int .i64 v] := by rw [hw0]; exact Blk.new _ _ _
  have hz : Below w.heap.size w w0 := by rw [hw0]; exact (Below.refl _ _).alloc (Nat.le_refl _) _
  have HW0 := Lib.hid hw0
  clear hw0
  have d0 := hk.at6
  have hr := Below.refl w0.heap.size w0
  unfold priceS
  have hG := rGood l r n o q v
  cases hg : goodB l r n o q v
  · rw [if_neg (by simp)]
    rw [hg] at hG
    have HG := Lib.hid hG
    clear hG
    go_enter Try.func58, Try.ntmps58
    go_upto_region 1 with fail
    rw [← HW0.out]
    go_wp2_with fail
    refine (HG.out _).mono ?_; rintro e w1 ⟨rfl, hb1⟩
    go_wp2_with fail
    go_ret
    exact ⟨rfl, hz.up hb1⟩
  · rw [if_pos rfl]
    rw [hg] at hG
    have HG := Lib.hid hG
    clear hG
    obtain ⟨-, -, b1, b2, b3, b4, -, -⟩ := good_bd hg
    have f1 := clampT_bd (x := fresh) (m := n) (by omega)
    have f2 := clampT_bd (x := waits) (m := n - clampT fresh n) (by omega)
    have f3 := clampT_bd (x := waits) (m := o) (by omega)
    have e1 : 1 + min (clampT fresh n + clampT waits n) n = 1 + clampT fresh n + clampT waits (n - clampT fresh n) := by unfold clampT; omega
    rw [e1]
    clear e1
    by_cases k2 : kind = 2
    · subst k2
      rw [if_pos rfl]
      go_enter Try.func58, Try.ntmps58
      go_upto_region 1 with fail
      rw [← HW0.out]
      go_wp2_with fail
      refine (HG.out _).mono ?_; rintro e w1 ⟨rfl, hb1⟩
      go_wp2_with fail
      refine (rWithin0 _ _ _ (by omega)).mono ?_; rintro e w' ⟨rfl, rfl⟩
      go_wp2_with fail
      refine (rWithin0 _ _ _ (by omega)).mono ?_; rintro e w' ⟨rfl, rfl⟩
      go_wp2_with fail
      go_ret
      exact ⟨rfl, hz.up hb1⟩
    · rw [if_neg k2]
      have g2 : (kind == 2) = false := by simpa using k2
      clear k2
      by_cases k1 : kind = 1
      · subst k1
        rw [if_pos rfl]
        clear g2
        go_enter Try.func58, Try.ntmps58
        go_upto_region 1 with fail
        rw [← HW0.out]
        go_wp2_with fail
        refine (HG.out _).mono ?_; rintro e w1 ⟨rfl, hb1⟩
        go_wp2_with fail
        refine (rWithin0 _ _ _ (by omega)).mono ?_; rintro e w' ⟨rfl, rfl⟩
        go_wp2_with fail
        go_ret
        exact ⟨rfl, hz.up hb1⟩
      · rw [if_neg k1]
        have g1 : (kind == 1) = false := by simpa using k1
        clear k1
        go_enter Try.func58, Try.ntmps58
        go_upto_region 1 with fail
        rw [← HW0.out]
        go_wp2_with fail
        refine (HG.out _).mono ?_; rintro e w1 ⟨rfl, hb1⟩
        go_wp2_with fail
        go_ret
        exact ⟨rfl, hz.up hb1⟩
end Go.Proofs.Ytpnbcepljehogaa
