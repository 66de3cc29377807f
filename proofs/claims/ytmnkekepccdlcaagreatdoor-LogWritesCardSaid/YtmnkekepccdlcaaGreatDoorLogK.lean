/-
  The event of any words.
  Conditions: the words are short; the errors of strconv stand in their variables.
-/
import Derived.Test.YtmnkekepccdlcaaGreatDoorLogJA
import Derived.Test.YtmnkekepccdlcaaGreatDoorLogJB
namespace Go.Proofs.YtmnkekepccdlcaaGreatDoor
set_option linter.unusedVariables false
set_option linter.unusedSimpArgs false
open Go.RowKit
theorem lSome (ws : List (List UInt8)) (g cap : Nat) (w : World) (hw : WL w g ws) (hl : 1 ≤ ws.length ∧ ws.length ≤ 200000) (hz : ∀ x ∈ ws, x.length ≤ 100000) (he : EnvL w) :
    Calls Tryz.prog 66 #[.slice (some ⟨g, 0, none⟩) ws.length cap] w fun e w' => e = .returned (.agg (evC (someT ws))) ∧ Below w.heap.size w w' := by
  by_cases h0 : atW ws 0 = wRound
  · exact lSome_round ws g cap w hw hl hz he h0
  by_cases h1 : atW ws 0 = wDrain
  · exact lSome_drain ws g cap w hw hl hz he h1
  by_cases h2 : atW ws 0 = wOpen
  · exact lSome_open ws g cap w hw hl hz he h2
  by_cases h3 : atW ws 0 = wRefuse
  · exact lSome_refuse ws g cap w hw hl hz he h3
  by_cases h4 : atW ws 0 = wRead
  · exact lSome_read ws g cap w hw hl hz he h4
  by_cases h5 : atW ws 0 = wWrite
  · exact lSome_write ws g cap w hw hl hz he h5
  by_cases h6 : atW ws 0 = wEof
  · exact lSome_eof ws g cap w hw hl hz he h6
  by_cases h7 : atW ws 0 = wStep
  · exact lSome_step ws g cap w hw hl hz he h7
  by_cases h8 : atW ws 0 = wStop
  · exact lSome_stop ws g cap w hw hl hz he h8
  exact lSome_other ws g cap w hw hl hz he h0 h1 h2 h3 h4 h5 h6 h7 h8
end Go.Proofs.YtmnkekepccdlcaaGreatDoor
