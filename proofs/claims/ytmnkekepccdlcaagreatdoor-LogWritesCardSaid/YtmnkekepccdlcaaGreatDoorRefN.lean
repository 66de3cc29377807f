/-
  Words that are none.
  Conditions: none.
-/
import Derived.Test.YtmnkekepccdlcaaGreatDoorRefW
namespace Go.Proofs.YtmnkekepccdlcaaGreatDoor
set_option linter.unusedVariables false
set_option linter.unusedSimpArgs false
open Go.RowKit
theorem what_none (n : Int) (h : n < 1 ∨ 14 < n) : whatT n = [] := by
  unfold whatT wordT
  by_cases h0 : n < 0
  · rw [if_pos h0]
  · by_cases h1 : n = 0
    · subst h1; rfl
    · rw [if_neg h0, List.getElem?_eq_none (by have : whatsL.length = 15 := rfl; omega)]; rfl
theorem stat_none (n : Int) (h : n < 0 ∨ 5 < n) : statT n = [] := by
  unfold statT wordT
  by_cases h0 : n < 0
  · rw [if_pos h0]
  · rw [if_neg h0, List.getElem?_eq_none (by have : statsL.length = 6 := rfl; omega)]; rfl
theorem whatT_ne (n : Int) (h : 1 ≤ n) (h2 : n ≤ 14) : (whatT n == []) = false := by
  obtain ⟨k, rfl⟩ : ∃ k : Nat, n = k := ⟨n.toNat, by omega⟩
  have : ∀ k : Fin 15, 1 ≤ k.val → (whatT (k.val : Int) == []) = false := by decide
  exact this ⟨k, by omega⟩ (by show 1 ≤ k; omega)
theorem statT_ne (n : Int) (h : 0 ≤ n) (h2 : n ≤ 5) : (statT n == []) = false := by
  obtain ⟨k, rfl⟩ : ∃ k : Nat, n = k := ⟨n.toNat, by omega⟩
  have : ∀ k : Fin 6, (statT (k.val : Int) == []) = false := by decide
  exact this ⟨k, by omega⟩
theorem emp_of {l : List UInt8} (h : (l == []) = false) : l.isEmpty = false := by cases l <;> simp at h ⊢
theorem ne_emp {b : ByteArray} (h : ¬ b = ⟨#[]⟩) : b.toList.isEmpty = false := by
  rw [Lib.toList_data]
  cases hc : b.data.toList with
  | nil => exact absurd (by apply ByteArray.ext; apply Array.toList_inj.1; rw [hc]) h
  | cons => rfl
end Go.Proofs.YtmnkekepccdlcaaGreatDoor
