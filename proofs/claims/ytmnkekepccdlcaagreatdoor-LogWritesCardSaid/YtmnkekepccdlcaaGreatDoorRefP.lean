/-
  Texts laid one behind the other.
  Conditions: none.
-/
import Derived.Test.YtmnkekepccdlcaaGreatDoorRefW
import Derived.Test.YtmnkekepccdlcaaGreatDoorQuoteRef
import Derived.Test.YtmnkekepccdlcaaGreatDoorFaultN
namespace Go.Proofs.YtmnkekepccdlcaaGreatDoor
set_option linter.unusedVariables false
set_option linter.unusedSimpArgs false
open Go.RowKit
theorem bt_app (a b : List UInt8) : (⟨a.toArray⟩ : ByteArray) ++ ⟨b.toArray⟩ = ⟨(a ++ b).toArray⟩ := by
  apply ByteArray.ext
  simp [ByteArray.data_append]
theorem itoa_21 {n : Int} (h : i64 n) : (Lib.itoa n).length ≤ 21 := by
  unfold i64 at h
  exact Lib.itoa_length_le n (by omega) (by omega)
theorem text_21 {t : Int} (h : i64 t) : (textT t).length ≤ 21 := by
  unfold textT
  split
  · decide
  · have h2 := ownT_le h
    have := Lib.itoa_length_le (ownT t) (by omega) (by omega)
    have e : Lib.itoa (ownT t) = Lib.decDigits (ownT t).toNat := by unfold Lib.itoa; rw [if_neg (by omega)]
    rw [e] at this
    exact this
theorem word_100 (l : List (List UInt8)) (hl : ∀ x ∈ l, x.length ≤ 100) (n : Int) : (wordT l n).length ≤ 100 := by
  unfold wordT
  split
  · simp
  · cases h : l[n.toNat]? with
    | none => simp
    | some x => have := hl x (List.mem_of_getElem? h); simpa using this
end Go.Proofs.YtmnkekepccdlcaaGreatDoor
