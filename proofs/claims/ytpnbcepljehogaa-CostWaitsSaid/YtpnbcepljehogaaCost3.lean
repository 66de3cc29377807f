/-
  Contracts of package cost and of its reference, the rest: the most that a step costs, in how many turns it is done, how many turns all have till then, and till when.
  Conditions: the numbers are of their Go kinds.
-/
import Derived.Test.YtpnbcepljehogaaCost2
namespace Go.Proofs.Ytpnbcepljehogaa
open Go.RowKit

def turnsS (l r n o q v : Int) : Int := if goodB l r n o q v = true then (mostS l r n o q v + q - 1) / q else 0
def waitS (l r n o q v : Int) : Int := if goodB l r n o q v = true then l * turnsS l r n o q v else 0
def untilS (l r n o q v at_ each : Int) : Int := if goodB l r n o q v = true then addT (addT at_ (timesT each (waitS l r n o q v))) each else 0

theorem most_bd {l r n o q v : Int} (hg : goodB l r n o q v = true) : 2 ≤ mostS l r n o q v ∧ mostS l r n o q v ≤ 4097 := by
  have := good_bd hg
  unfold mostS; rw [if_pos hg]; omega
/-- In how many turns: so many that what they give is enough, and no fewer. -/
theorem turns_def {l r n o q v : Int} (hg : goodB l r n o q v = true) : turnsS l r n o q v * q ≥ mostS l r n o q v ∧ (turnsS l r n o q v - 1) * q < mostS l r n o q v ∧ 1 ≤ turnsS l r n o q v ∧ turnsS l r n o q v ≤ 4097 := by
  have h1 := most_bd hg
  have h2 := good_bd hg
  unfold turnsS
  rw [if_pos hg]
  generalize mostS l r n o q v = m at *
  have hq : 0 < q := by omega
  have e := Int.emod_add_mul_ediv (m + q - 1) q
  have e1 := Int.emod_nonneg (m + q - 1) (show q ≠ 0 by omega)
  have e2 := Int.emod_lt_of_pos (m + q - 1) hq
  generalize hd : (m + q - 1) / q = d at *
  rw [Int.mul_comm] at e
  have hs : (d - 1) * q = d * q - q := by rw [Int.sub_mul, Int.one_mul]
  refine ⟨by omega, by omega, ?_, ?_⟩
  · rw [← hd]; exact Int.le_ediv_of_mul_le hq (by omega)
  · rw [← hd]
    have : (m + q - 1) / q < 4098 := Int.ediv_lt_of_lt_mul hq (by omega)
    omega
theorem turns_one {m q k : Int} (hq : 0 < q) (h1 : k * q ≥ m) (h2 : (k - 1) * q < m) : (m + q - 1) / q = k := by
  have hs : (k - 1) * q = k * q - q := by rw [Int.sub_mul, Int.one_mul]
  have a : k ≤ (m + q - 1) / q := Int.le_ediv_of_mul_le hq (by omega)
  have hs2 : (k + 1) * q = k * q + q := by rw [Int.add_mul, Int.one_mul]
  have b : (m + q - 1) / q < k + 1 := Int.ediv_lt_of_lt_mul hq (by omega)
  omega
theorem wait_bd {l r n o q v : Int} (hg : goodB l r n o q v = true) : 1 ≤ l * turnsS l r n o q v ∧ l * turnsS l r n o q v ≤ 4195328 := by
  have h1 := turns_def hg
  have h2 := good_bd hg
  generalize turnsS l r n o q v = d at *
  constructor
  · exact Int.le_trans (by omega) (Int.mul_le_mul h2.1 h1.2.2.1 (by omega) (by omega))
  · exact Int.le_trans (Int.mul_le_mul h2.2.1 h1.2.2.2 (by omega) (by omega)) (by omega)

theorem cmost (l r n o q v : Int) (w : World) (h1 : 1 ≤ n) (h2 : n ≤ 4096) (h3 : 1 ≤ o) (h4 : o ≤ 4096) : Calls Try.prog 87 #[.agg #[.int .i64 l, .int .i64 r, .int .i64 n, .int .i64 o, .int .i64 q, .int .i64 v]] w fun e w' => e = .returned (.int .i64 (1 + max n o)) ∧ Below w.heap.size w w' := by
  go_enter Try.func87, Try.ntmps87
  go_wp2
  go_ret
  exact ⟨rfl, (Below.refl _ _).alloc (Nat.le_refl _) _⟩

set_option maxHeartbeats 1000000 in
theorem cMost (l r n o q v : Int) (w : World) : Calls Try.prog 59 #[.agg #[.int .i64 l, .int .i64 r, .int .i64 n, .int .i64 o, .int .i64 q, .int .i64 v]] w fun e w' => e = .returned (.int .i64 (mostS l r n o q v)) ∧ Below w.heap.size w w' := by
  obtain ⟨w0, hw0⟩ : ∃ w0, w0 = w.alloc (.cells #[.int .i64 l, .int .i64 r, .int .i64 n, .int .i64 o, .int .i64 q, .int .i64 v] 73) := ⟨_, rfl⟩
  have hk : Blk w0 w.heap.size 73 #[.int .i64 l, .int .i64 r, .int .i64 n, .int .i64 o, .int .i64 q, .int .i64 v] := by rw [hw0]; exact Blk.new _ _ _
  have hz : Below w.heap.size w w0 := by rw [hw0]; exact (Below.refl _ _).alloc (Nat.le_refl _) _
  have HW0 := Lib.hid hw0
  clear hw0
  have d0 := hk.at6
  have hr := Below.refl w0.heap.size w0
  unfold mostS
  cases hg : goodB l r n o q v
  · rw [if_neg (by simp)]
    go_enter Try.func59, Try.ntmps59
    go_upto_region 1 with fail
    rw [← HW0.out]
    go_wp2_with fail
    refine (cgood_no _ _ _ _ _ _ _ hg).mono ?_; rintro e w1 ⟨rfl, hb1⟩
    go_wp2_with fail
    go_ret
    exact ⟨rfl, hz.up hb1⟩
  · rw [if_pos rfl]
    have hb := good_bd hg
    have hc := fun W => cmost l r n o q v W (by omega) (by omega) (by omega) (by omega)
    have HC := Lib.hid hc
    clear hc hb
    go_enter Try.func59, Try.ntmps59
    go_upto_region 1 with fail
    rw [← HW0.out]
    go_wp2_with fail
    refine (cgood_yes _ _ _ _ _ _ _ hg).mono ?_; rintro e w1 ⟨rfl, hb1⟩
    go_wp2_with fail
    refine (HC.out _).mono ?_; rintro e w2 ⟨rfl, hb2⟩
    go_wp2_with fail
    go_ret
    exact ⟨rfl, (hz.up hb1).up hb2⟩

set_option maxHeartbeats 1000000 in
theorem rMost (l r n o q v : Int) (w : World) : Calls Try.prog 60 #[.agg #[.int .i64 l, .int .i64 r, .int .i64 n, .int .i64 o, .int .i64 q, .int .i64 v]] w fun e w' => e = .returned (.int .i64 (mostS l r n o q v)) ∧ Below w.heap.size w w' := by
  obtain ⟨w0, hw0⟩ : ∃ w0, w0 = w.alloc (.cells #[.int .i64 l, .int .i64 r, .int .i64 n, .int .i64 o, .int .i64 q, .int .i64 v] 73) := ⟨_, rfl⟩
  have hk : Blk w0 w.heap.size 73 #[.int .i64 l, .int .i64 r, .int .i64 n, .int .i64 o, .int .i64 q, .int .i64 v] := by rw [hw0]; exact Blk.new _ _ _
  have hz : Below w.heap.size w w0 := by rw [hw0]; exact (Below.refl _ _).alloc (Nat.le_refl _) _
  have HW0 := Lib.hid hw0
  clear hw0
  have d0 := hk.at6
  have hr := Below.refl w0.heap.size w0
  unfold mostS
  have hG := rGood l r n o q v
  cases hg : goodB l r n o q v
  · rw [if_neg (by simp)]
    rw [hg] at hG
    have HG := Lib.hid hG
    clear hG
    go_enter Try.func60, Try.ntmps60
    go_upto_region 1 with fail
    rw [← HW0.out]
    go_wp2_with fail
    refine (HG.out _).mono ?_; rintro e w1 ⟨rfl, hb1⟩
    go_wp2_with fail
    go_ret
    exact ⟨rfl, hz.up hb1⟩
  · rw [if_pos rfl]
    rw [hg] at hG
    have HG := Lib.hid hG
    clear hG
    have hb := good_bd hg
    by_cases hno : o < n
    · have e1 : max n o = n := by omega
      rw [e1]
      clear e1
      go_enter Try.func60, Try.ntmps60
      go_upto_region 1 with fail
      rw [← HW0.out]
      go_wp2_with fail
      refine (HG.out _).mono ?_; rintro e w1 ⟨rfl, hb1⟩
      go_wp2_with fail
      go_ret
      exact ⟨rfl, hz.up hb1⟩
    · have e1 : max n o = o := by omega
      rw [e1]
      clear e1
      go_enter Try.func60, Try.ntmps60
      go_upto_region 1 with fail
      rw [← HW0.out]
      go_wp2_with fail
      refine (HG.out _).mono ?_; rintro e w1 ⟨rfl, hb1⟩
      go_wp2_with fail
      go_ret
      exact ⟨rfl, hz.up hb1⟩

set_option maxHeartbeats 1000000 in
theorem cturns (l r n o q v : Int) (w : World) : Calls Try.prog 88 #[.agg #[.int .i64 l, .int .i64 r, .int .i64 n, .int .i64 o, .int .i64 q, .int .i64 v]] w fun e w' => e = .returned (.int .i64 (turnsS l r n o q v)) ∧ Below w.heap.size w w' := by
  obtain ⟨w0, hw0⟩ : ∃ w0, w0 = w.alloc (.cells #[.int .i64 l, .int .i64 r, .int .i64 n, .int .i64 o, .int .i64 q, .int .i64 v] 73) := ⟨_, rfl⟩
  have hk : Blk w0 w.heap.size 73 #[.int .i64 l, .int .i64 r, .int .i64 n, .int .i64 o, .int .i64 q, .int .i64 v] := by rw [hw0]; exact Blk.new _ _ _
  have hz : Below w.heap.size w w0 := by rw [hw0]; exact (Below.refl _ _).alloc (Nat.le_refl _) _
  have HW0 := Lib.hid hw0
  clear hw0
  have d0 := hk.at6
  have hr := Below.refl w0.heap.size w0
  unfold turnsS
  cases hg : goodB l r n o q v
  · rw [if_neg (by simp)]
    go_enter Try.func88, Try.ntmps88
    go_upto_region 1 with fail
    rw [← HW0.out]
    go_wp2_with fail
    refine (cgood_no _ _ _ _ _ _ _ hg).mono ?_; rintro e w1 ⟨rfl, hb1⟩
    go_wp2_with fail
    go_ret
    exact ⟨rfl, hz.up hb1⟩
  · rw [if_pos rfl]
    have hb := good_bd hg
    have hc := fun W => cmost l r n o q v W (by omega) (by omega) (by omega) (by omega)
    have e1 : mostS l r n o q v = 1 + max n o := by unfold mostS; rw [if_pos hg]
    rw [e1]
    obtain ⟨m, hm⟩ : ∃ m, m = 1 + max n o := ⟨_, rfl⟩
    have m1 : 1 ≤ m := by omega
    have m2 : m ≤ 4097 := by omega
    obtain ⟨-, -, -, -, -, -, q1, q2⟩ := hb
    have s1 : IntKind.i64.wrap (m + q) = m + q := IntWalk.i64_in _ (by omega)
    have s2 : IntKind.i64.wrap (m + q - 1) = m + q - 1 := IntWalk.i64_in _ (by omega)
    have s3 : 0 ≤ m + q - 1 := by omega
    rw [← hm] at hc ⊢
    have HC := Lib.hid hc
    have HM := Lib.hid hm
    clear hc hm e1
    go_enter Try.func88, Try.ntmps88
    go_upto_region 1 with fail
    rw [← HW0.out]
    go_wp2_with fail
    refine (cgood_yes _ _ _ _ _ _ _ hg).mono ?_; rintro e w1 ⟨rfl, hb1⟩
    go_wp2_with fail
    have hu : ∀ u : Later w1.heap.size w1, Below w0.heap.size w0 u.world := fun u => hb1.up u.below
    refine wp_region_later w1.heap.size (by kernel_rfl) (by kernel_rfl) ?_
    repeat (go_big_quiet_step ((go_at_call 87; exact later_below (Nat.le_refl _) (HC.out _))))
    refine wpQuiet_nil ?_
    intro w2 hb2
    clear hu s1 s2
    go_wp2_with fail
    go_ret
    exact ⟨rfl, (hz.up hb1).up hb2⟩

theorem cTurns (l r n o q v : Int) (w : World) : Calls Try.prog 62 #[.agg #[.int .i64 l, .int .i64 r, .int .i64 n, .int .i64 o, .int .i64 q, .int .i64 v]] w fun e w' => e = .returned (.int .i64 (turnsS l r n o q v)) ∧ Below w.heap.size w w' := by
  go_enter Try.func62, Try.ntmps62
  go_wp2_with fail
  refine (cturns _ _ _ _ _ _ _).mono ?_; rintro e w1 ⟨rfl, hb1⟩
  go_wp2_with fail
  go_ret
  exact ⟨rfl, ((Below.refl _ _).alloc (Nat.le_refl _) _).up hb1⟩

set_option maxHeartbeats 1000000 in
theorem cwait (l r n o q v : Int) (w : World) : Calls Try.prog 89 #[.agg #[.int .i64 l, .int .i64 r, .int .i64 n, .int .i64 o, .int .i64 q, .int .i64 v]] w fun e w' => e = .returned (.int .i64 (waitS l r n o q v)) ∧ Below w.heap.size w w' := by
  obtain ⟨w0, hw0⟩ : ∃ w0, w0 = w.alloc (.cells #[.int .i64 l, .int .i64 r, .int .i64 n, .int .i64 o, .int .i64 q, .int .i64 v] 73) := ⟨_, rfl⟩
  have hk : Blk w0 w.heap.size 73 #[.int .i64 l, .int .i64 r, .int .i64 n, .int .i64 o, .int .i64 q, .int .i64 v] := by rw [hw0]; exact Blk.new _ _ _
  have hz : Below w.heap.size w w0 := by rw [hw0]; exact (Below.refl _ _).alloc (Nat.le_refl _) _
  have HW0 := Lib.hid hw0
  clear hw0
  have d0 := hk.at6
  have hr := Below.refl w0.heap.size w0
  unfold waitS
  cases hg : goodB l r n o q v
  · rw [if_neg (by simp)]
    go_enter Try.func89, Try.ntmps89
    go_upto_region 1 with fail
    rw [← HW0.out]
    go_wp2_with fail
    refine (cgood_no _ _ _ _ _ _ _ hg).mono ?_; rintro e w1 ⟨rfl, hb1⟩
    go_wp2_with fail
    go_ret
    exact ⟨rfl, hz.up hb1⟩
  · rw [if_pos rfl]
    have hb := good_bd hg
    have ht := turns_def hg
    have hw := wait_bd hg
    have hc := cturns l r n o q v
    obtain ⟨x, hx⟩ : ∃ x, x = turnsS l r n o q v := ⟨_, rfl⟩
    rw [← hx] at hc ht hw ⊢
    have HC := Lib.hid hc
    have HX := Lib.hid hx
    have p1 : l * x ≤ 4195328 := hw.2
    have p0 : 1 ≤ l * x := hw.1
    have s1 : IntKind.i64.wrap (l * x) = l * x := IntWalk.i64_in _ (by omega)
    clear hc hx ht hw hb
    go_enter Try.func89, Try.ntmps89
    go_upto_region 1 with fail
    rw [← HW0.out]
    go_wp2_with fail
    refine (cgood_yes _ _ _ _ _ _ _ hg).mono ?_; rintro e w1 ⟨rfl, hb1⟩
    go_wp2_with fail
    have hu : ∀ u : Later w1.heap.size w1, Below w0.heap.size w0 u.world := fun u => hb1.up u.below
    refine wp_region_later w1.heap.size (by kernel_rfl) (by kernel_rfl) ?_
    repeat (go_big_quiet_step ((go_at_call 88; exact later_below (Nat.le_refl _) (HC.out _))))
    refine wpQuiet_nil ?_
    intro w2 hb2
    clear hu s1
    go_wp2_with fail
    go_ret
    exact ⟨rfl, (hz.up hb1).up hb2⟩

theorem cWait (l r n o q v : Int) (w : World) : Calls Try.prog 64 #[.agg #[.int .i64 l, .int .i64 r, .int .i64 n, .int .i64 o, .int .i64 q, .int .i64 v]] w fun e w' => e = .returned (.int .i64 (waitS l r n o q v)) ∧ Below w.heap.size w w' := by
  go_enter Try.func64, Try.ntmps64
  go_wp2_with fail
  refine (cwait _ _ _ _ _ _ _).mono ?_; rintro e w1 ⟨rfl, hb1⟩
  go_wp2_with fail
  go_ret
  exact ⟨rfl, ((Below.refl _ _).alloc (Nat.le_refl _) _).up hb1⟩

theorem turns_no {l r n o q v : Int} (hg : goodB l r n o q v = false) : turnsS l r n o q v = 0 := by unfold turnsS; rw [hg]; rfl
theorem most_no {l r n o q v : Int} (hg : goodB l r n o q v = false) : mostS l r n o q v = 0 := by unfold mostS; rw [hg]; rfl

set_option maxHeartbeats 1000000 in
theorem rTurns (l r n o q v : Int) (w : World) : Calls Try.prog 63 #[.agg #[.int .i64 l, .int .i64 r, .int .i64 n, .int .i64 o, .int .i64 q, .int .i64 v]] w fun e w' => e = .returned (.int .i64 (turnsS l r n o q v)) ∧ Below w.heap.size w w' := by
  obtain ⟨w0, hw0⟩ : ∃ w0, w0 = w.alloc (.cells #[.int .i64 l, .int .i64 r, .int .i64 n, .int .i64 o, .int .i64 q, .int .i64 v] 73) := ⟨_, rfl⟩
  have hk : Blk w0 w.heap.size 73 #[.int .i64 l, .int .i64 r, .int .i64 n, .int .i64 o, .int .i64 q, .int .i64 v] := by rw [hw0]; exact Blk.new _ _ _
  have hz : Below w.heap.size w w0 := by rw [hw0]; exact (Below.refl _ _).alloc (Nat.le_refl _) _
  have HW0 := Lib.hid hw0
  clear hw0
  have d0 := hk.at6
  have hr := Below.refl w0.heap.size w0
  have hc := rMost l r n o q v
  cases hg : goodB l r n o q v
  · rw [turns_no hg]
    rw [most_no hg] at hc
    have HC := Lib.hid hc
    clear hc
    go_enter Try.func63, Try.ntmps63
    go_upto_region 1 with fail
    rw [← HW0.out]
    go_wp2_with fail
    refine wp_loop_rounds 1 ?_
    rw [rounds_succ]
    go_wp2_with fail
    have hu : ∀ u : Later w0.heap.size w0, Below w0.heap.size w0 u.world := Later.below
    refine wp_region_later w0.heap.size (by kernel_rfl) (by kernel_rfl) ?_
    repeat (go_big_quiet_step ((go_at_call 60; exact later_below (Nat.le_refl _) (HC.out _))))
    refine wpQuiet_nil ?_
    intro w2 hb2
    clear hu
    go_wp2_with fail
    go_ret
    exact ⟨rfl, hz.up hb2⟩
  · have hb := good_bd hg
    have hmb := most_bd hg
    have hfin : ∀ k : Nat, ¬ ((k : Int) * q < mostS l r n o q v) → (0 < k → ((k : Int) - 1) * q < mostS l r n o q v) → (k : Int) = turnsS l r n o q v := by
      intro k h1 h2
      unfold turnsS
      rw [if_pos hg]
      by_cases hk : 0 < k
      · exact (turns_one (by omega) (by omega) (h2 hk)).symm
      · exfalso
        obtain rfl : k = 0 := by omega
        simp at h1
        omega
    obtain ⟨m, hm⟩ : ∃ m, m = mostS l r n o q v := ⟨_, rfl⟩
    rw [← hm] at hc hmb hfin
    have HC := Lib.hid hc
    have HF := Lib.hid hfin
    obtain ⟨m1, m2⟩ := hmb
    obtain ⟨-, -, -, -, -, -, q1, q2⟩ := hb
    clear hc hm hfin
    go_enter Try.func63, Try.ntmps63
    go_upto_region 1 with fail
    rw [← HW0.out]
    go_wp2_with fail
    go_loopw [3] (fun i wr => ∃ k : Nat, (k : Int) ≤ 4097 ∧ i = .int .i64 k ∧ (0 < k → ((k : Int) - 1) * q < m) ∧ Below w0.heap.size w0 wr) (fun i _ => 4098 - (intOf i).toNat)
    case atStart => exact ⟨0, by omega, rfl, fun h => absurd h (by omega), Below.refl _ _⟩
    case round =>
      obtain ⟨k, hk, rfl, hlo, hbr⟩ := hrel
      have HL := Lib.hid hlo
      clear hlo
      have hu : ∀ u : Later wr.heap.size wr, Below w0.heap.size w0 u.world := fun u => hbr.up u.below
      obtain ⟨p, hp⟩ : ∃ p, p = (k : Int) * q := ⟨_, rfl⟩
      have hp0 : 0 ≤ p := by rw [hp]; exact Int.mul_nonneg (by omega) (by omega)
      have hpk : (k : Int) ≤ p := by rw [hp]; have : (k : Int) * 1 ≤ (k : Int) * q := Int.mul_le_mul_of_nonneg_left q1 (by omega); omega
      have hpm : p ≤ 4097000000 := by
        rw [hp]; exact Int.le_trans (Int.mul_le_mul hk q2 (by omega) (by omega)) (by omega)
      have s1 : IntKind.i64.wrap ((k : Int) * q) = p := by rw [← hp]; exact IntWalk.i64_in _ (by omega)
      have HP := Lib.hid hp
      clear hp
      by_cases hlt : p < m
      · have hq : (((k + 1 : Nat) : Int) - 1) * q < m := by
          rw [show (((k + 1 : Nat) : Int) - 1) = (k : Int) by omega, ← HP.out]; exact hlt
        have HQ := Lib.hid hq
        clear hq
        go_wp2_with fail
        refine wp_region_later wr.heap.size (by kernel_rfl) (by kernel_rfl) ?_
        repeat (go_big_quiet_step ((go_at_call 60; exact later_below (Nat.le_refl _) (HC.out _))))
        refine wpQuiet_nil ?_
        intro w2 hb2
        clear hu s1
        go_wp2_with fail
        go_roundw
        case rel => exact ⟨k + 1, by omega, by go_num, fun _ => HQ.out, hbr.up hb2⟩
        case measure => simp [intOf]; omega
      · have hge : decide (p < m) = false := by simpa using hlt
        have HR := Lib.hid (HF.out k (by rw [← HP.out]; omega) HL.out)
        clear hlt
        go_wp2_with fail
        refine wp_region_later wr.heap.size (by kernel_rfl) (by kernel_rfl) ?_
        repeat (go_big_quiet_step ((go_at_call 60; exact later_below (Nat.le_refl _) (HC.out _))))
        refine wpQuiet_nil ?_
        intro w2 hb2
        clear hu s1
        go_wp2_with fail
        go_ret
        exact ⟨ret_int HR.out, (hz.up hbr).up hb2⟩

set_option maxHeartbeats 1000000 in
theorem rWait (l r n o q v : Int) (w : World) : Calls Try.prog 65 #[.agg #[.int .i64 l, .int .i64 r, .int .i64 n, .int .i64 o, .int .i64 q, .int .i64 v]] w fun e w' => e = .returned (.int .i64 (waitS l r n o q v)) ∧ Below w.heap.size w w' := by
  obtain ⟨w0, hw0⟩ : ∃ w0, w0 = w.alloc (.cells #[.int .i64 l, .int .i64 r, .int .i64 n, .int .i64 o, .int .i64 q, .int .i64 v] 73) := ⟨_, rfl⟩
  have hk : Blk w0 w.heap.size 73 #[.int .i64 l, .int .i64 r, .int .i64 n, .int .i64 o, .int .i64 q, .int .i64 v] := by rw [hw0]; exact Blk.new _ _ _
  have hz : Below w.heap.size w w0 := by rw [hw0]; exact (Below.refl _ _).alloc (Nat.le_refl _) _
  have HW0 := Lib.hid hw0
  clear hw0
  have d0 := hk.at6
  have hr := Below.refl w0.heap.size w0
  unfold waitS
  have hG := rGood l r n o q v
  cases hg : goodB l r n o q v
  · rw [if_neg (by simp)]
    rw [hg] at hG
    have HG := Lib.hid hG
    clear hG
    go_enter Try.func65, Try.ntmps65
    go_upto_region 1 with fail
    rw [← HW0.out]
    go_wp2_with fail
    refine (HG.out _).mono ?_; rintro e w1 ⟨rfl, hb1⟩
    go_wp2_with fail
    go_ret
    exact ⟨rfl, hz.up hb1⟩
  · rw [if_pos rfl]
    rw [hg] at hG
    have HG := Lib.hid hG
    clear hG
    have hb := good_bd hg
    have ht := turns_def hg
    have hw := wait_bd hg
    have hc := rTurns l r n o q v
    obtain ⟨x, hx⟩ : ∃ x, x = turnsS l r n o q v := ⟨_, rfl⟩
    rw [← hx] at hc ht hw ⊢
    have HC := Lib.hid hc
    have HX := Lib.hid hx
    have p1 : l * x ≤ 4195328 := hw.2
    have p0 : 1 ≤ l * x := hw.1
    have s1 : IntKind.i64.wrap (l * x) = l * x := IntWalk.i64_in _ (by omega)
    clear hc hx ht hw hb
    go_enter Try.func65, Try.ntmps65
    go_upto_region 1 with fail
    rw [← HW0.out]
    go_wp2_with fail
    refine (HG.out _).mono ?_; rintro e w1 ⟨rfl, hb1⟩
    go_wp2_with fail
    have hu : ∀ u : Later w1.heap.size w1, Below w0.heap.size w0 u.world := fun u => hb1.up u.below
    refine wp_region_later w1.heap.size (by kernel_rfl) (by kernel_rfl) ?_
    repeat (go_big_quiet_step ((go_at_call 63; exact later_below (Nat.le_refl _) (HC.out _))))
    refine wpQuiet_nil ?_
    intro w2 hb2
    clear hu s1
    go_wp2_with fail
    go_ret
    exact ⟨rfl, (hz.up hb1).up hb2⟩

theorem until_law {at_ each x : Int} (ha : i64 at_) (he : i64 each) (hx : 0 ≤ x) : addT (addT at_ (timesT each x)) each = addT at_ (timesT each (x + 1)) := by
  have h1 := ownT_le ha
  have h2 := ownT_le he
  rw [timesT_sat hx, timesT_sat (show 0 ≤ x + 1 by omega)]
  have m0 : 0 ≤ ownT each * x := Int.mul_nonneg h2.1 hx
  have m1 : ownT each * (x + 1) = ownT each * x + ownT each := by rw [Int.mul_add, Int.mul_one]
  have e1 : addT at_ (sat (ownT each * x)) = sat (ownT at_ + ownT each * x) := by
    have := addT_sat h1.1 m0
    rw [← own_sat ha] at this
    rw [← this]; unfold addT; rw [show ownT (ownT at_) = ownT at_ by unfold ownT; omega]
  rw [e1]
  have e2 : addT (sat (ownT at_ + ownT each * x)) each = sat (ownT at_ + ownT each * x + ownT each) := by
    have := addT_sat (show 0 ≤ ownT at_ + ownT each * x by omega) h2.1
    rw [← own_sat he] at this
    rw [← this]; unfold addT; rw [show ownT (ownT each) = ownT each by unfold ownT; omega]
  rw [e2, m1]
  have e3 : addT at_ (sat (ownT each * x + ownT each)) = sat (ownT at_ + (ownT each * x + ownT each)) := by
    have := addT_sat h1.1 (show 0 ≤ ownT each * x + ownT each by omega)
    rw [← own_sat ha] at this
    rw [← this]; unfold addT; rw [show ownT (ownT at_) = ownT at_ by unfold ownT; omega]
  rw [e3, Int.add_assoc]

set_option maxHeartbeats 1000000 in
theorem cUntil (l r n o q v at_ each : Int) (w : World) (ha : i64 at_) (he : i64 each) : Calls Try.prog 66 #[.agg #[.int .i64 l, .int .i64 r, .int .i64 n, .int .i64 o, .int .i64 q, .int .i64 v], .int .i64 at_, .int .i64 each] w fun e w' => e = .returned (.int .i64 (untilS l r n o q v at_ each)) ∧ Below w.heap.size w w' := by
  obtain ⟨w0, hw0⟩ : ∃ w0, w0 = w.alloc (.cells #[.int .i64 l, .int .i64 r, .int .i64 n, .int .i64 o, .int .i64 q, .int .i64 v] 73) := ⟨_, rfl⟩
  have hk : Blk w0 w.heap.size 73 #[.int .i64 l, .int .i64 r, .int .i64 n, .int .i64 o, .int .i64 q, .int .i64 v] := by rw [hw0]; exact Blk.new _ _ _
  have hz : Below w.heap.size w w0 := by rw [hw0]; exact (Below.refl _ _).alloc (Nat.le_refl _) _
  have HW0 := Lib.hid hw0
  clear hw0
  have d0 := hk.at6
  have hr := Below.refl w0.heap.size w0
  unfold untilS
  cases hg : goodB l r n o q v
  · rw [if_neg (by simp)]
    go_enter Try.func66, Try.ntmps66
    go_upto_region 1 with fail
    rw [← HW0.out]
    go_wp2_with fail
    refine (cgood_no _ _ _ _ _ _ _ hg).mono ?_; rintro e w1 ⟨rfl, hb1⟩
    go_wp2_with fail
    go_ret
    exact ⟨rfl, hz.up hb1⟩
  · rw [if_pos rfl]
    have hb := good_bd hg
    have hw := wait_bd hg
    have hc := cwait l r n o q v
    have ew : waitS l r n o q v = l * turnsS l r n o q v := by unfold waitS; rw [if_pos hg]
    rw [← ew] at hw
    obtain ⟨x, hx⟩ : ∃ x, x = waitS l r n o q v := ⟨_, rfl⟩
    rw [← hx] at hc hw ⊢
    have HC := Lib.hid hc
    have HX := Lib.hid hx
    obtain ⟨x0, x1⟩ := hw
    have ix : i64 x := by unfold i64; omega
    have ix1 : i64 (x + 1) := by unfold i64; omega
    clear hc hx ew hb
    go_enter Try.func66, Try.ntmps66
    go_upto_region 1 with fail
    rw [← HW0.out]
    go_wp2_with fail
    refine (cgood_yes _ _ _ _ _ _ _ hg).mono ?_; rintro e w1 ⟨rfl, hb1⟩
    go_wp2_with fail
    refine (HC.out _).mono ?_; rintro e w2 ⟨rfl, hb2⟩
    go_wp2_with fail
    refine (tTimes _ _ _ he ix).mono ?_; rintro e w3 ⟨rfl, rfl⟩
    go_wp2_with fail
    refine (tAdd _ _ _ ha timesT_i64).mono ?_; rintro e w3 ⟨rfl, rfl⟩
    go_wp2_with fail
    refine (tAdd _ _ _ (addT_i64 ha timesT_i64) he).mono ?_; rintro e w3 ⟨rfl, rfl⟩
    go_wp2_with fail
    go_ret
    exact ⟨rfl, (hz.up hb1).up hb2⟩

set_option maxHeartbeats 1000000 in
theorem rUntil (l r n o q v at_ each : Int) (w : World) (ha : i64 at_) (he : i64 each) : Calls Try.prog 67 #[.agg #[.int .i64 l, .int .i64 r, .int .i64 n, .int .i64 o, .int .i64 q, .int .i64 v], .int .i64 at_, .int .i64 each] w fun e w' => e = .returned (.int .i64 (untilS l r n o q v at_ each)) ∧ Below w.heap.size w w' := by
  obtain ⟨w0, hw0⟩ : ∃ w0, w0 = w.alloc (.cells #[.int .i64 l, .int .i64 r, .int .i64 n, .int .i64 o, .int .i64 q, .int .i64 v] 73) := ⟨_, rfl⟩
  have hk : Blk w0 w.heap.size 73 #[.int .i64 l, .int .i64 r, .int .i64 n, .int .i64 o, .int .i64 q, .int .i64 v] := by rw [hw0]; exact Blk.new _ _ _
  have hz : Below w.heap.size w w0 := by rw [hw0]; exact (Below.refl _ _).alloc (Nat.le_refl _) _
  have HW0 := Lib.hid hw0
  clear hw0
  have d0 := hk.at6
  have hr := Below.refl w0.heap.size w0
  unfold untilS
  have hG := rGood l r n o q v
  cases hg : goodB l r n o q v
  · rw [if_neg (by simp)]
    rw [hg] at hG
    have HG := Lib.hid hG
    clear hG
    go_enter Try.func67, Try.ntmps67
    go_upto_region 1 with fail
    rw [← HW0.out]
    go_wp2_with fail
    refine (HG.out _).mono ?_; rintro e w1 ⟨rfl, hb1⟩
    go_wp2_with fail
    go_ret
    exact ⟨rfl, hz.up hb1⟩
  · rw [if_pos rfl]
    rw [hg] at hG
    have HG := Lib.hid hG
    clear hG
    have hb := good_bd hg
    have hw := wait_bd hg
    have hc := rWait l r n o q v
    have ew : waitS l r n o q v = l * turnsS l r n o q v := by unfold waitS; rw [if_pos hg]
    rw [← ew] at hw
    obtain ⟨x, hx⟩ : ∃ x, x = waitS l r n o q v := ⟨_, rfl⟩
    rw [← hx] at hc hw ⊢
    have HC := Lib.hid hc
    have HX := Lib.hid hx
    obtain ⟨x0, x1⟩ := hw
    have ix : i64 x := by unfold i64; omega
    have ix1 : i64 (x + 1) := by unfold i64; omega
    clear hc hx ew hb
    rw [until_law ha he (by omega)]
    go_enter Try.func67, Try.ntmps67
    go_upto_region 1 with fail
    rw [← HW0.out]
    go_wp2_with fail
    refine (HG.out _).mono ?_; rintro e w1 ⟨rfl, hb1⟩
    go_wp2_with fail
    refine (HC.out _).mono ?_; rintro e w2 ⟨rfl, hb2⟩
    go_wp2_with fail
    refine (rTimes _ _ _ he ix1).mono ?_; rintro e w3 ⟨rfl, rfl⟩
    go_wp2_with fail
    refine (rAdd _ _ _ ha timesT_i64).mono ?_; rintro e w3 ⟨rfl, rfl⟩
    go_wp2_with fail
    go_ret
    exact ⟨rfl, (hz.up hb1).up hb2⟩

end Go.Proofs.Ytpnbcepljehogaa
