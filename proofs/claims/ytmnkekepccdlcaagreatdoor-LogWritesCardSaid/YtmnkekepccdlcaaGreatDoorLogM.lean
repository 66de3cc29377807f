/-
  A good event's line.
  Conditions: its numbers are numbers of the machine, its bytes are not too many; the table of powers is laid.
-/
import Derived.Test.YtmnkekepccdlcaaGreatDoorLogLA
namespace Go.Proofs.YtmnkekepccdlcaaGreatDoor
set_option linter.unusedVariables false
set_option linter.unusedSimpArgs false
open Go.RowKit
theorem lLine (x : Ev) (w : World) (hg : goodT x = true) (h64 : Ev64 x) (hp : Pow w) : Calls Tryz.prog 45 #[.agg (evC x)] w fun e w' => e = .returned (.string ⟨(lineT x).toArray⟩) ∧ Below w.heap.size w w' := by
  obtain ⟨k, d, n, t, b, er, s1, s2, s3, s4, s5, s6⟩ := x
  have hk : inT k 1 9 = true := by
    unfold goodT at hg
    simp only [Bool.and_eq_true] at hg
    exact hg.1.2
  unfold inT at hk
  simp at hk
  have hq : k = 1 ∨ k = 2 ∨ k = 3 ∨ k = 4 ∨ k = 5 ∨ k = 6 ∨ k = 7 ∨ k = 8 ∨ k = 9 := by omega
  rcases hq with rfl | rfl | rfl | rfl | rfl | rfl | rfl | rfl | rfl
  · exact lLine1 d n t b er s1 s2 s3 s4 s5 s6 w h64 hp
  · exact lLine2 d n t b er s1 s2 s3 s4 s5 s6 w h64 hp
  · exact lLine3 d n t b er s1 s2 s3 s4 s5 s6 w h64 hp
  · exact lLine4 d n t b er s1 s2 s3 s4 s5 s6 w h64 hp
  · exact lLine5 d n t b er s1 s2 s3 s4 s5 s6 w h64 hp
  · exact lLine6 d n t b er s1 s2 s3 s4 s5 s6 w h64 hp
  · exact lLine7 d n t b er s1 s2 s3 s4 s5 s6 w h64 hp
  · exact lLine8 d n t b er s1 s2 s3 s4 s5 s6 w h64 hp
  · exact lLine9 d n t b er s1 s2 s3 s4 s5 s6 w h64 hp
end Go.Proofs.YtmnkekepccdlcaaGreatDoor
