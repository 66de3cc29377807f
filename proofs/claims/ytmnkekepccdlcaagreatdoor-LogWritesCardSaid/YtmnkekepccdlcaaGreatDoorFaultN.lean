/-
  Contracts of the reference's numbers as texts: any number as its digits, with a sign ahead where it is below 0.
  Conditions: none.
-/
import Derived.Test.YtmnkekepccdlcaaGreatDoorTickW
import Derived.Deep.RegionHeld3
namespace Go.Proofs.YtmnkekepccdlcaaGreatDoor
set_option linter.unusedVariables false
set_option linter.unusedSimpArgs false
open Go.RowKit Go.Sort

/-- The digits of a number that is not above 0; of 0 none. -/
def highT (m : Nat) : List UInt8 := if m = 0 then [] else Lib.decDigits m
theorem high_step (m : Nat) (h : m ≠ 0) : highT (m / 10) ++ Lib.decDigits (m % 10) = Lib.decDigits m := by
  unfold highT
  by_cases h9 : 9 < m
  · rw [if_neg (by omega)]
    have := dec_step m [] h9
    rw [List.append_nil] at this
    rw [this, dec_small (Nat.lt_succ_of_le (Nat.le_of_lt_succ (Nat.mod_lt m (by omega))))]
  · rw [if_pos (by omega), List.nil_append]
    congr 1; omega
theorem bt_append (a b : List UInt8) : bt a ++ bt b = bt (a ++ b) := by
  apply ByteArray.ext
  rw [ByteArray.data_append]
  simp
theorem tdiv10 (m : Nat) : Int.tdiv (-(m : Int)) 10 = -((m / 10 : Nat) : Int) := by
  rw [Int.neg_tdiv]; congr 1
theorem tmod10 (m : Nat) : -(Int.tmod (-(m : Int)) 10) = ((m % 10 : Nat) : Int) := by
  rw [Int.neg_tmod, Int.neg_neg]; rfl

theorem high_len (m : Nat) (h : m ≤ 9223372036854775808) : (highT m).length ≤ 21 ∧ (Lib.decDigits (m % 10)).length ≤ 21 := by
  have hd : ∀ n : Nat, n ≤ 9223372036854775808 → (Lib.decDigits n).length ≤ 21 := fun n hn => by
    by_cases h0 : n = 0
    · subst h0
      have := Lib.itoa_length_le 0 (by omega) (by omega)
      simpa [Lib.itoa] using this
    · have := Lib.itoa_length_le (-(n : Int)) (by omega) (by omega)
      rw [Lib.itoa_neg n (by omega)] at this
      simp at this
      omega
  refine ⟨?_, hd _ (by omega)⟩
  unfold highT
  split
  · simp
  · exact hd _ h

theorem rHigh : ∀ (N : Nat) (m : Nat) (w : World), m ≤ N → m ≤ 9223372036854775808 → Calls Tryz.prog 69 #[.int .i64 (-(m : Int))] w fun e w' => e = .returned (.string (bt (highT m))) ∧ w = w' := by
  intro N
  induction N with
  | zero =>
    intro m w hm _
    obtain rfl : m = 0 := by omega
    go_enter Tryz.func69, Tryz.ntmps69
    go_wp2_with fail
    go_ret
    exact ⟨rfl, rfl⟩
  | succ N ih =>
    intro m w hm hb
    by_cases h0 : m = 0
    · subst h0
      go_enter Tryz.func69, Tryz.ntmps69
      go_wp2_with fail
      go_ret
      exact ⟨rfl, rfl⟩
    · have g0 : ¬ (-(m : Int)) = 0 := by omega
      have e1 := tdiv10 m
      have e2 := tmod10 m
      have hl := high_len (m / 10) (by omega)
      have hl2 := (high_len m hb).2
      have IH := Lib.hid (ih (m / 10))
      clear ih
      go_enter Tryz.func69, Tryz.ntmps69
      go_wp2_with fail
      refine (IH.out _ (by omega) (by omega)).mono ?_; rintro e w1 ⟨rfl, rfl⟩
      go_wp2_with fail
      refine (rDigits (m % 10) _ (by omega)).mono ?_; rintro e w1 ⟨rfl, rfl⟩
      go_wp2_with fail
      go_ret
      have e5 : highT m = Lib.decDigits m := by unfold highT; rw [if_neg h0]
      have e6 := high_step m h0
      refine ⟨?_, rfl⟩
      rw [e5, ← e6, ← bt_append]
      rfl
theorem rNum (n : Int) (w : World) (hn : i64 n) : Calls Tryz.prog 41 #[.int .i64 n] w fun e w' => e = .returned (.string (bt (Lib.itoa n))) ∧ w = w' := by
  unfold i64 at hn
  by_cases h0 : 0 ≤ n
  · obtain ⟨m, rfl⟩ := Int.eq_ofNat_of_zero_le h0
    rw [Lib.itoa_nonneg]
    go_enter Tryz.func41, Tryz.ntmps41
    go_wp2_with fail
    refine (rDigits m _ (by omega)).mono ?_; rintro e w1 ⟨rfl, rfl⟩
    go_wp2_with fail
    go_ret
    exact ⟨rfl, rfl⟩
  · obtain ⟨m, hm⟩ := Int.eq_ofNat_of_zero_le (a := -n) (by omega)
    obtain rfl : n = -(m : Int) := by omega
    rw [Lib.itoa_neg m (by omega)]
    have e1 := tdiv10 m
    have e2 := tmod10 m
    have hl := high_len (m / 10) (by omega)
    have hl2 := (high_len m (by omega)).2
    go_enter Tryz.func41, Tryz.ntmps41
    go_wp2_with fail
    refine (rHigh (m / 10) (m / 10) _ (Nat.le_refl _) (by omega)).mono ?_; rintro e w1 ⟨rfl, rfl⟩
    go_wp2_with fail
    refine (rDigits (m % 10) _ (by omega)).mono ?_; rintro e w1 ⟨rfl, rfl⟩
    go_wp2_with fail
    go_ret
    refine ⟨?_, rfl⟩
    rw [← high_step m (by omega)]
    rw [show (⟨#[45]⟩ : ByteArray) = bt [45] from rfl, bt_append, bt_append]
    rfl
end Go.Proofs.YtmnkekepccdlcaaGreatDoor
