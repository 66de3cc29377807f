/-
  What the rows of world list as laid, what a world then holds; and a world that holds it.
  Conditions: none.
-/
import Derived.Test.YtmnkekepccdlcaaGreatDoorWgG
import Derived.Test.YtmnkekepccdlcaaGreatDoorTickLaid
import Derived.Lib.LaidU8
namespace Go.Proofs.YtmnkekepccdlcaaGreatDoor
set_option linter.unusedVariables false
set_option linter.unusedSimpArgs false
open Go.RowKit

def worldLaid : List (String × DataW Unit) := [("math/bits.deBruijn32tab", Rows.laid_math_bits_deBruijn32tab), ("math/bits.deBruijn64tab", Rows.laid_math_bits_deBruijn64tab), ("internal/strconv.uint64pow10", Rows.laid_internal_strconv_uint64pow10), ("unicode/utf8.acceptRanges", Rows.laid_unicode_utf8_acceptRanges), ("strconv.ErrRange", Rows.laid_strconv_ErrRange), ("strconv.ErrSyntax", Rows.laid_strconv_ErrSyntax), ("unicode/utf8.first", Rows.laid_unicode_utf8_first)]
theorem env_of_worldLaid {W : World} (h : laidMet Tryz.prog worldLaid W) (hs : W.ShapedOpen Tryz.prog) : EnvW W :=
  ⟨laid_pow h.tail.tail, laid_range h.tail.tail.tail.tail, Tryz.laysM143.s1_3 W hs⟩

/-- A WORLD FOR THE WITNESS. -/
noncomputable def worldP.laidWorld (os : Os) : World :=
  let w0 := Go.Proofs.YtmnkekepccdlcaaGreatDoor.laidWorld os
  let h1 := putAt w0.heap 2 (Lib.firstTab.map fun z => Value.int .u8 z).toArray
  let h2 := putAt h1 3 ((List.range 16).flatMap fun i => [Value.int .u8 (Lib.accLo i), Value.int .u8 (Lib.accHi i)]).toArray
  { w0 with heap := h2 }
theorem worldP.laidWorld_met (os : Os) (args : Array Value) : laidMet Tryz.prog worldLaid ((worldP.laidWorld os).forCall (fun _ _ => 0) ⟨#[], args, []⟩).memory :=
  laidMet_of_run' 8 (by kernel_rfl) (by kernel_rfl)
end Go.Proofs.YtmnkekepccdlcaaGreatDoor
