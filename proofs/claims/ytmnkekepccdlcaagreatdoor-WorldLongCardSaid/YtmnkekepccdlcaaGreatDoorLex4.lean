/-
  Contracts of package lex and of its reference: words joined; which lines say nothing; a text's lines.
  Conditions: a text of at most 100000 bytes; words of so many bytes together.
-/
import Derived.Test.YtmnkekepccdlcaaGreatDoorLex3
import Derived.Test.YtmnkekepccdlcaaGreatDoorLines
namespace Go.Proofs.YtmnkekepccdlcaaGreatDoor
set_option linter.unusedVariables false
set_option linter.unusedSimpArgs false
open Go.RowKit


/-! Words, read out of a row. -/
theorem ow_at {eT B cap : Nat} {w : World} {ao : Option Addr} {l : List Wd} (h : OW eT B w ao cap l) (i : Nat) (hi : i < l.length) :
    ∃ g, ao = some ⟨g, 0, none⟩ ∧ g < w.heap.size ∧ ∀ w', Below w.heap.size w w' → w'.cell? ⟨g, i * 3, none⟩ = some (.string (bt l[i].text)) ∧ w'.cell? ⟨g, i * 3 + 1, none⟩ = some (.bool l[i].quoted) ∧ w'.cell? ⟨g, i * 3 + 2, none⟩ = some (.int .i64 (l[i].place : Nat)) := by
  have hl := wsCells_len l
  obtain ⟨g, hg, hlt, h0⟩ := orow_cell h (i * 3) (by omega)
  obtain ⟨g1, hg1, _, h1⟩ := orow_cell h (i * 3 + 1) (by omega)
  obtain ⟨g2, hg2, _, h2⟩ := orow_cell h (i * 3 + 2) (by omega)
  rw [hg] at hg1 hg2
  cases hg1
  cases hg2
  exact ⟨g, hg, hlt, fun w' hb => ⟨(h0 w' hb).trans (wsCells_at l i hi 0 (by omega)), (h1 w' hb).trans (wsCells_at l i hi 1 (by omega)), (h2 w' hb).trans (wsCells_at l i hi 2 (by omega))⟩⟩

/-! Texts in a row of the call's own. -/
theorem joinT_eq : ∀ l : List Wd, joinT l = Lib.join (l.map wordB) [32]
  | [] => rfl
  | [x] => by rw [List.map_cons, List.map_nil, Lib.join_one]; rfl
  | x :: y :: l => by
    have := joinT_eq (y :: l)
    show wordB x ++ 32 :: joinT (y :: l) = _
    rw [this]
    simp [Lib.join, List.intercalate]

theorem joinT_word {l : List Wd} {x : Wd} (h : x ∈ l) : (wordB x).length ≤ (joinT l).length := by
  induction l with
  | nil => cases h
  | cons y l ih =>
    cases l with
    | nil =>
      simp at h
      subst h
      exact Nat.le_refl _
    | cons z l =>
      show _ ≤ (wordB y ++ 32 :: joinT (z :: l)).length
      rcases List.mem_cons.1 h with rfl | h
      · rw [List.length_append]; omega
      · have := ih h
        rw [List.length_append, List.length_cons]; omega
theorem lex_text_le (x : Wd) : x.text.length ≤ (wordB x).length := by
  unfold wordB
  split
  · have : ∀ l : List UInt8, l.length ≤ (l.flatMap sgn).length := by
      intro l
      induction l with
      | nil => exact Nat.le_refl _
      | cons c l ih =>
        have h : 1 ≤ (sgn c).length := by unfold sgn; repeat' split
                                          all_goals simp
        simp only [List.flatMap_cons, List.length_append, List.length_cons]
        omega
    have := this x.text
    simp only [quoteT, List.length_cons, List.length_append, List.length_nil]
    omega
  · exact Nat.le_refl _

end Go.Proofs.YtmnkekepccdlcaaGreatDoor
