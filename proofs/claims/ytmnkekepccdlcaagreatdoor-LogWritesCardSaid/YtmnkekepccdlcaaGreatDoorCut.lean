/-
  Texts: cut, and put together again.
  Conditions: none.
-/
import Derived.Test.YtmnkekepccdlcaaGreatDoorTick
import Derived.Test.YtmnkekepccdlcaaGreatDoorBlk
namespace Go.Proofs.YtmnkekepccdlcaaGreatDoor
set_option linter.unusedVariables false
set_option linter.unusedSimpArgs false
open Go.RowKit

/-- A text, cut. -/
def cutT (s : ByteArray) (m : Nat) : ByteArray := if m < s.size then s.extract 0 m else s
theorem cutT_size (s : ByteArray) (m : Nat) : (cutT s m).size ≤ m := by
  unfold cutT; split
  · simp; omega
  · omega
theorem xCut (s : ByteArray) (m : Nat) (w : World) : Calls Tryz.prog 11 #[.string s, .int .i64 m] w fun e w' => e = .returned (.string (cutT s m)) ∧ w = w' := by
  by_cases h : m < s.size
  · have h1 : (m : Int) < (s.size : Int) := by omega
    have h2 : (m : Int) ≤ (s.size : Int) := by omega
    have e : cutT s m = s.extract 0 m := by unfold cutT; rw [if_pos h]
    rw [e]
    go_enter Tryz.func11, Tryz.ntmps11
    go_wp2
    go_ret
    exact ⟨rfl, rfl⟩
  · have h1 : ¬ (m : Int) < (s.size : Int) := by omega
    have e : cutT s m = s := by unfold cutT; rw [if_neg h]
    rw [e]
    go_enter Tryz.func11, Tryz.ntmps11
    go_wp2
    go_ret
    exact ⟨rfl, rfl⟩

theorem ext_add (t : ByteArray) (s k : Nat) : t.extract 0 s ++ t.extract s (s + k) = t.extract 0 (s + k) := by
  rw [ByteArray.extract_append_extract]; congr 1 <;> omega
theorem ext_zero (t : ByteArray) : t.extract 0 0 = ⟨#[]⟩ := by
  apply ByteArray.ext
  simp
theorem ext_size (t : ByteArray) {s : Nat} (h : s ≤ t.size) : (t.extract 0 s).size = s := by simp; omega
theorem ext_all (t : ByteArray) {s : Nat} (h : t.size ≤ s) : t.extract 0 s = t := by
  apply ByteArray.ext
  rw [ByteArray.data_extract, Array.extract_eq_self_of_le h]
end Go.Proofs.YtmnkekepccdlcaaGreatDoor
