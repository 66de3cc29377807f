/-
  The reference's Good and Print of good events.
  Conditions: the numbers are numbers of the machine, the bytes are not too many.
-/
import Derived.Test.YtmnkekepccdlcaaGreatDoorLogQA
import Derived.Test.YtmnkekepccdlcaaGreatDoorRefGA
import Derived.Test.YtmnkekepccdlcaaGreatDoorRefGB
import Derived.Test.YtmnkekepccdlcaaGreatDoorRefPA
import Derived.Test.YtmnkekepccdlcaaGreatDoorRefPB
namespace Go.Proofs.YtmnkekepccdlcaaGreatDoor
set_option linter.unusedVariables false
set_option linter.unusedSimpArgs false
open Go.RowKit

theorem rGoodT (x : Ev) (w : World) (hg : goodT x = true) : Calls Tryz.prog 14 #[.agg (evC x)] w fun e w' => e = .returned (.bool true) ∧ Below w.heap.size w w' := by
  obtain ⟨k, d, n, t, b, er, s1, s2, s3, s4, s5, s6⟩ := x
  unfold goodT at hg
  simp only [Bool.and_eq_true, decide_eq_true_eq] at hg
  obtain ⟨⟨hb, hk⟩, hg⟩ := hg
  unfold inT at hk; simp at hk
  have hq : k = 1 ∨ k = 2 ∨ k = 3 ∨ k = 4 ∨ k = 5 ∨ k = 6 ∨ k = 7 ∨ k = 8 ∨ k = 9 := by omega
  unfold bareT ev0 at hb
  rcases hq with rfl | rfl | rfl | rfl | rfl | rfl | rfl | rfl | rfl
  · simp at hb hg
    obtain ⟨rfl, rfl, rfl, rfl, rfl, rfl, rfl, rfl, rfl, rfl⟩ := hb
    exact rGood1 t w hg
  · simp [inT] at hb hg
    obtain ⟨rfl, rfl, rfl, rfl, rfl, rfl, rfl, rfl, rfl⟩ := hb
    exact rGood2 d n w hg.1.1 (by omega) hg.2.1 hg.2.2
  · simp [inT] at hb hg
    obtain ⟨rfl, rfl, rfl, rfl, rfl, rfl, rfl, rfl⟩ := hb
    by_cases h0 : 0 ≤ d
    · exact rGood3 d n er w h0 (by omega) hg.2.1 hg.2.2
    · obtain rfl : d = -1 := by omega
      exact rGood3m n er w hg.2.1 hg.2.2
  · simp [inT] at hb hg
    obtain ⟨rfl, rfl, rfl, rfl, rfl, rfl, rfl, rfl, rfl⟩ := hb
    exact rGood4 d b w hg.1.1 (by omega) (by omega) (by omega)
  · simp [inT] at hb hg
    obtain ⟨rfl, rfl, rfl, rfl, rfl, rfl, rfl, rfl, rfl, rfl⟩ := hb
    exact rGood5 d w hg.1 (by omega)
  · simp [inT] at hb hg
    obtain ⟨rfl, rfl, rfl, rfl, rfl, rfl, rfl, rfl, rfl⟩ := hb
    exact rGood6 d b w hg.1.1 (by omega) (by omega) (by omega)
  · simp at hb hg
    obtain ⟨rfl, rfl, rfl, rfl, rfl, rfl, rfl, rfl, rfl, rfl⟩ := hb
    exact rGood7 t w hg
  · simp at hb hg
    obtain ⟨rfl, rfl, rfl, rfl⟩ := hb
    obtain ⟨hg1, hg2⟩ := hg
    unfold stepT at hg2
    simp [inT] at hg1 hg2
    exact rGood8 d s1 s2 s3 s4 s5 s6 w (by omega) (by omega) (by omega) (by omega) (by omega) (by omega) (by omega) (by omega) (by omega) (by omega) (by omega) (by omega) (by omega)
  · simp at hb hg
    obtain ⟨rfl, rfl, rfl, rfl, rfl, rfl, rfl, rfl, rfl, rfl, rfl⟩ := hb
    exact rGood9 w

theorem rPrintT (x : Ev) (w : World) (hg : goodT x = true) (h64 : Ev64 x) : Calls Tryz.prog 15 #[.agg (evC x)] w fun e w' => e = .returned (.string ⟨(lineT x).toArray⟩) ∧ Below w.heap.size w w' := by
  obtain ⟨k, d, n, t, b, er, s1, s2, s3, s4, s5, s6⟩ := x
  have hk : inT k 1 9 = true := by
    unfold goodT at hg
    simp only [Bool.and_eq_true] at hg
    exact hg.1.2
  unfold inT at hk
  simp at hk
  have hq : k = 1 ∨ k = 2 ∨ k = 3 ∨ k = 4 ∨ k = 5 ∨ k = 6 ∨ k = 7 ∨ k = 8 ∨ k = 9 := by omega
  rcases hq with rfl | rfl | rfl | rfl | rfl | rfl | rfl | rfl | rfl
  · exact rPrint1 d n t b er s1 s2 s3 s4 s5 s6 w h64
  · exact rPrint2 d n t b er s1 s2 s3 s4 s5 s6 w h64
  · exact rPrint3 d n t b er s1 s2 s3 s4 s5 s6 w h64
  · exact rPrint4 d n t b er s1 s2 s3 s4 s5 s6 w h64
  · exact rPrint5 d n t b er s1 s2 s3 s4 s5 s6 w h64
  · exact rPrint6 d n t b er s1 s2 s3 s4 s5 s6 w h64
  · exact rPrint7 d n t b er s1 s2 s3 s4 s5 s6 w h64
  · exact rPrint8 d n t b er s1 s2 s3 s4 s5 s6 w h64
  · exact rPrint9 d n t b er s1 s2 s3 s4 s5 s6 w h64
end Go.Proofs.YtmnkekepccdlcaaGreatDoor
