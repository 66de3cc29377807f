/-
  Contracts of package cost and of its reference: which setups may be, and what a step costs.
  Conditions: the numbers are of their Go kinds.
-/
import Derived.Test.YtpnbcepljehogaaTick
import Derived.Test.YtpnbcepljehogaaBlk
namespace Go.Proofs.Ytpnbcepljehogaa
open Go.RowKit

def inB (n m : Int) : Bool := decide (1 ≤ n ∧ n ≤ m)
def goodB (l r n o q v : Int) : Bool := inB r 4096 && inB n 4096 && inB o 4096 && inB l 1024 && inB q 1000000 && inB v 64
theorem goodB_iff {l r n o q v : Int} : goodB l r n o q v = true ↔ (1 ≤ l ∧ l ≤ 1024) ∧ (1 ≤ r ∧ r ≤ 4096) ∧ (1 ≤ n ∧ n ≤ 4096) ∧ (1 ≤ o ∧ o ≤ 4096) ∧ (1 ≤ q ∧ q ≤ 1000000) ∧ (1 ≤ v ∧ v ≤ 64) := by
  unfold goodB inB
  simp only [Bool.and_eq_true, decide_eq_true_eq]
  omega

theorem cIn (n m : Int) (w : World) : Calls Try.prog 96 #[.int .i64 n, .int .i64 m] w fun e w' => e = .returned (.bool (inB n m)) ∧ w = w' := by
  by_cases h : 1 ≤ n
  · have e : inB n m = decide (n ≤ m) := by unfold inB; simp [h]
    rw [e]
    go_enter Try.func96, Try.ntmps96
    go_wp2
    go_ret
    exact ⟨rfl, rfl⟩
  · have e : inB n m = false := by unfold inB; simp; omega
    rw [e]
    go_enter Try.func96, Try.ntmps96
    go_wp2
    go_ret
    exact ⟨rfl, rfl⟩
theorem cInV {n m : Int} {b : Bool} (h : inB n m = b) (w : World) : Calls Try.prog 96 #[.int .i64 n, .int .i64 m] w fun e w' => e = .returned (.bool b) ∧ w = w' := by
  rw [← h]; exact cIn n m w

set_option maxHeartbeats 1000000 in
theorem cgood_no (l r n o q v : Int) (w : World) (h : goodB l r n o q v = false) : Calls Try.prog 85 #[.agg #[.int .i64 l, .int .i64 r, .int .i64 n, .int .i64 o, .int .i64 q, .int .i64 v]] w fun e w' => e = .returned (.bool false) ∧ Below w.heap.size w w' := by
  cases h1 : inB r 4096
  rotate_left
  cases h2 : inB n 4096
  rotate_left
  cases h3 : inB o 4096
  rotate_left
  cases h4 : inB l 1024
  rotate_left
  cases h5 : inB q 1000000
  rotate_left
  cases h6 : inB v 64
  rotate_left
  · exfalso; unfold goodB at h; rw [h1, h2, h3, h4, h5, h6] at h; cases h
  all_goals
    clear h
    go_enter Try.func85, Try.ntmps85
    go_wp2_with (go_at_call 96; (first | with_reducible refine (cInV h1 _).mono ?_ | with_reducible refine (cInV h2 _).mono ?_ | with_reducible refine (cInV h3 _).mono ?_ | with_reducible refine (cInV h4 _).mono ?_ | with_reducible refine (cInV h5 _).mono ?_ | with_reducible refine (cInV h6 _).mono ?_); rintro e w' ⟨rfl, rfl⟩)
    go_ret
    exact ⟨rfl, (Below.refl _ _).alloc (Nat.le_refl _) _⟩
theorem cgood_yes (l r n o q v : Int) (w : World) (h : goodB l r n o q v = true) : Calls Try.prog 85 #[.agg #[.int .i64 l, .int .i64 r, .int .i64 n, .int .i64 o, .int .i64 q, .int .i64 v]] w fun e w' => e = .returned (.bool true) ∧ Below w.heap.size w w' := by
  unfold goodB at h
  simp only [Bool.and_eq_true] at h
  obtain ⟨⟨⟨⟨⟨h1, h2⟩, h3⟩, h4⟩, h5⟩, h6⟩ := h
  go_enter Try.func85, Try.ntmps85
  go_wp2_with (go_at_call 96; (first | with_reducible refine (cInV h1 _).mono ?_ | with_reducible refine (cInV h2 _).mono ?_ | with_reducible refine (cInV h3 _).mono ?_ | with_reducible refine (cInV h4 _).mono ?_ | with_reducible refine (cInV h5 _).mono ?_ | with_reducible refine (cInV h6 _).mono ?_); rintro e w' ⟨rfl, rfl⟩)
  go_ret
  exact ⟨rfl, (Below.refl _ _).alloc (Nat.le_refl _) _⟩
theorem cgood (l r n o q v : Int) (w : World) : Calls Try.prog 85 #[.agg #[.int .i64 l, .int .i64 r, .int .i64 n, .int .i64 o, .int .i64 q, .int .i64 v]] w fun e w' => e = .returned (.bool (goodB l r n o q v)) ∧ Below w.heap.size w w' := by
  cases h : goodB l r n o q v
  · exact cgood_no _ _ _ _ _ _ _ h
  · exact cgood_yes _ _ _ _ _ _ _ h

theorem cGood (l r n o q v : Int) (w : World) : Calls Try.prog 56 #[.agg #[.int .i64 l, .int .i64 r, .int .i64 n, .int .i64 o, .int .i64 q, .int .i64 v]] w fun e w' => e = .returned (.bool (goodB l r n o q v)) ∧ Below w.heap.size w w' := by
  go_enter Try.func56, Try.ntmps56
  go_wp2_with fail
  refine (cgood _ _ _ _ _ _ _).mono ?_; rintro e w1 ⟨rfl, hb1⟩
  go_wp2_with fail
  go_ret
  exact ⟨rfl, ((Below.refl _ _).alloc (Nat.le_refl _) _).up hb1⟩

/-- The bounds of the six numbers, in the reference's order. -/
def mostL : List Int := [1024, 4096, 4096, 4096, 1000000, 64]
def inL (ls : List Int) (k : Nat) : Prop := ∀ j, j < k → ∀ a m, ls[j]? = some a → mostL[j]? = some m → 1 ≤ a ∧ a ≤ m
theorem inL_succ {ls : List Int} {k : Nat} {a m : Int} (h : inL ls k) (ha : ls[k]? = some a) (hm : mostL[k]? = some m) (h1 : 1 ≤ a) (h2 : a ≤ m) : inL ls (k + 1) := by
  intro j hj a' m' ha' hm'
  by_cases e : j = k
  · subst e; rw [ha] at ha'; rw [hm] at hm'; cases ha'; cases hm'; exact ⟨h1, h2⟩
  · exact h j (by omega) a' m' ha' hm'
theorem inL_all {l r n o q v : Int} (h : inL [l, r, n, o, q, v] 6) : goodB l r n o q v = true := by
  rw [goodB_iff]
  exact ⟨h 0 (by omega) _ _ rfl rfl, h 1 (by omega) _ _ rfl rfl, h 2 (by omega) _ _ rfl rfl, h 3 (by omega) _ _ rfl rfl, h 4 (by omega) _ _ rfl rfl, h 5 (by omega) _ _ rfl rfl⟩
theorem inL_not {l r n o q v : Int} {k : Nat} {a m : Int} (hk : k < 6) (ha : [l, r, n, o, q, v][k]? = some a) (hm : mostL[k]? = some m) (h : a < 1 ∨ m < a) : goodB l r n o q v = false := by
  cases hg : goodB l r n o q v
  · rfl
  · exfalso
    rw [goodB_iff] at hg
    unfold mostL at hm
    match k, hk with
    | 0, _ => simp at ha hm; omega
    | 1, _ => simp at ha hm; omega
    | 2, _ => simp at ha hm; omega
    | 3, _ => simp at ha hm; omega
    | 4, _ => simp at ha hm; omega
    | 5, _ => simp at ha hm; omega

theorem mostL_get {k : Nat} (hk : k < 6) : ∃ m, mostL[k]? = some m ∧ 1 ≤ m ∧ m ≤ 1000000 := by
  unfold mostL
  match k, hk with
  | 0, _ => exact ⟨_, rfl, by omega, by omega⟩
  | 1, _ => exact ⟨_, rfl, by omega, by omega⟩
  | 2, _ => exact ⟨_, rfl, by omega, by omega⟩
  | 3, _ => exact ⟨_, rfl, by omega, by omega⟩
  | 4, _ => exact ⟨_, rfl, by omega, by omega⟩
  | 5, _ => exact ⟨_, rfl, by omega, by omega⟩
theorem i64s_at {w : World} {b : Nat} {xs : List Int} (h : I64s w b 0 xs) {k : Nat} {a : Int} (ha : xs[k]? = some a) : w.cell? ⟨b, k, none⟩ = some (.int .i64 a) := by
  obtain ⟨hk, e⟩ := List.getElem?_eq_some_iff.1 ha
  have := h k hk
  rw [e, Nat.zero_add] at this
  exact this

set_option maxHeartbeats 1000000 in
theorem rGood (l r n o q v : Int) (w : World) : Calls Try.prog 57 #[.agg #[.int .i64 l, .int .i64 r, .int .i64 n, .int .i64 o, .int .i64 q, .int .i64 v]] w fun e w' => e = .returned (.bool (goodB l r n o q v)) ∧ Below w.heap.size w w' := by
  go_enter Try.func57, Try.ntmps57
  go_upto_region 2 with fail
  go_cut [3, 4, 5] (fun s3 s4 s5 wx => ∃ b1 b2 : Nat, s5 = .int .i64 0 ∧ s3 = .slice (some ⟨b1, 0, none⟩) 6 6 ∧ s4 = .slice (some ⟨b2, 0, none⟩) 6 6 ∧ I64s wx b1 0 [l, r, n, o, q, v] ∧ I64s wx b2 0 mostL ∧ Below w.heap.size w wx)
  case first =>
    go_wp2_with fail
    go_meet
    refine ⟨_, _, rfl, rfl, rfl, ?_, ?_, by (repeat' (first | exact Below.refl _ _ | assumption | apply Below.drew | apply below_drewN | refine Below.setCell ?_ (by first | assumption | (simp; done) | (simp <;> omega)) _ | refine Below.alloc ?_ (by first | exact Nat.le_refl _ | assumption | (simp; done) | (simp <;> omega)) _))⟩
    · intro k hk
      match k, hk with
      | 0, _ => simp [go_sem]
      | 1, _ => simp [go_sem]
      | 2, _ => simp [go_sem]
      | 3, _ => simp [go_sem]
      | 4, _ => simp [go_sem]
      | 5, _ => simp [go_sem]
    · intro k hk
      match k, hk with
      | 0, _ => simp [go_sem, mostL]
      | 1, _ => simp [go_sem, mostL]
      | 2, _ => simp [go_sem, mostL]
      | 3, _ => simp [go_sem, mostL]
      | 4, _ => simp [go_sem, mostL]
      | 5, _ => simp [go_sem, mostL]
  case rest =>
    obtain ⟨b1, b2, rfl, rfl, rfl, k1, k2, hb⟩ := hcut
    have K1 := Lib.hid k1
    have K2 := Lib.hid k2
    clear k1 k2
    go_wp2_with fail
    go_loopw [5] (fun i wr => ∃ k : Nat, k ≤ 6 ∧ i = .int .i64 k ∧ inL [l, r, n, o, q, v] k ∧ Below wc.heap.size wc wr) (fun i _ => 6 - (intOf i).toNat)
    case atStart => exact ⟨0, by omega, rfl, fun j hj => absurd hj (by omega), Below.refl _ _⟩
    case round =>
      obtain ⟨k, hk, rfl, hin, hbr⟩ := hrel
      by_cases hlt : k < 6
      · obtain ⟨a, ha⟩ : ∃ a, [l, r, n, o, q, v][k]? = some a := ⟨_, List.getElem?_eq_getElem (by simpa using hlt)⟩
        obtain ⟨m, hm, _, _⟩ := mostL_get hlt
        have f1 : ∀ w', Below wc.heap.size wc w' → w'.cell? ⟨b1, k, none⟩ = some (.int .i64 a) := fun w' h => (h.cell (p := ⟨b1, k, none⟩) (block_lt (i64s_at K1.out ha))).trans (i64s_at K1.out ha)
        have f2 : ∀ w', Below wc.heap.size wc w' → w'.cell? ⟨b2, k, none⟩ = some (.int .i64 m) := fun w' h => (h.cell (p := ⟨b2, k, none⟩) (block_lt (i64s_at K2.out hm))).trans (i64s_at K2.out hm)
        have HA := Lib.hid ha
        have HM := Lib.hid hm
        have HI := Lib.hid hin
        clear ha hm hin
        have e0 : (0 : Int) ≤ (k : Int) := by omega
        have e1 : (k : Int) < 6 := by omega
        have hu : ∀ u : Later wr.heap.size wr, Below wc.heap.size wc u.world := fun u => hbr.up u.below
        by_cases h1 : a < 1
        · go_wp2_with fail
          refine wp_region_later wr.heap.size (by kernel_rfl) (by kernel_rfl) ?_
          repeat (go_big_quiet_step ((fail)))
          refine wpQuiet_nil ?_
          intro w1 hb1
          go_wp2_with fail
          go_ret
          exact ⟨ret_bool (inL_not hlt HA.out HM.out (.inl h1)).symm, (hb.up hbr).up hb1⟩
        · have h1' : decide (a < 1) = false := by simpa using h1
          by_cases h2 : m < a
          · go_wp2_with fail
            refine wp_region_later wr.heap.size (by kernel_rfl) (by kernel_rfl) ?_
            repeat (go_big_quiet_step ((fail)))
            refine wpQuiet_nil ?_
            intro w1 hb1
            go_wp2_with fail
            go_ret
            exact ⟨ret_bool (inL_not hlt HA.out HM.out (.inr h2)).symm, (hb.up hbr).up hb1⟩
          · have h2' : decide (m < a) = false := by simpa using h2
            go_wp2_with fail
            refine wp_region_later wr.heap.size (by kernel_rfl) (by kernel_rfl) ?_
            repeat (go_big_quiet_step ((fail)))
            refine wpQuiet_nil ?_
            intro w1 hb1
            go_wp2_with fail
            go_roundw
            case rel => exact ⟨k + 1, by omega, by go_num, inL_succ HI.out HA.out HM.out (by omega) (by omega), hbr.up hb1⟩
            case measure => simp [intOf]; omega
      · obtain rfl : k = 6 := by omega
        have HI := Lib.hid (inL_all hin)
        clear hin
        go_wp2
        go_ret
        exact ⟨ret_bool HI.out.symm, hb.up hbr⟩
end Go.Proofs.Ytpnbcepljehogaa
