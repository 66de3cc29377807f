/-
  What the rows of log and world list as laid, what a world then holds; and a world that holds it.
  Conditions: none.
-/
import Derived.Test.YtmnkekepccdlcaaDoorLogG
import Derived.Test.YtmnkekepccdlcaaDoorTickLaid
import Derived.Lib.LaidU8
namespace Go.Proofs.YtmnkekepccdlcaaDoor
set_option linter.unusedVariables false
set_option linter.unusedSimpArgs false
open Go.RowKit

def logLaid : List (String × DataW Unit) := [("math/bits.deBruijn32tab", Rows.laid_math_bits_deBruijn32tab), ("math/bits.deBruijn64tab", Rows.laid_math_bits_deBruijn64tab), ("internal/strconv.uint64pow10", Rows.laid_internal_strconv_uint64pow10), ("unicode/utf8.acceptRanges", Rows.laid_unicode_utf8_acceptRanges), ("strconv.ErrRange", Rows.laid_strconv_ErrRange), ("strconv.ErrSyntax", Rows.laid_strconv_ErrSyntax), ("unicode/utf8.first", Rows.laid_unicode_utf8_first)]
theorem gES : Tryd.prog.globalNamed "strconv.ErrSyntax" = some 3 := by kernel_rfl
theorem gESType : (Tryd.prog.globals[3]?).map (·.type) = some 65 := by kernel_rfl
theorem laid_synt {r : List (String × DataW Unit)} {W : World} (h : laidMet Tryd.prog (("strconv.ErrSyntax", Rows.laid_strconv_ErrSyntax) :: r) W) : SyntV W := by
  obtain ⟨a1, s1, hv1, -, -, -⟩ := laid_sentinel h gES gESType Tryd.underlying65 rowES Tryd.underlying123 Tryd.underlying125 rfl rfl Tryd.underlying9 cellsES cellsStr
  exact ⟨_, _, by have h0 := World.var?_cell gES hv1 0; simpa using h0⟩
theorem env_of_laid {W : World} (h : laidMet Tryd.prog logLaid W) (hs : W.ShapedOpen Tryd.prog) : EnvL W :=
  ⟨laid_pow h.tail.tail, laid_range h.tail.tail.tail.tail, laid_synt h.tail.tail.tail.tail.tail, Tryd.laysM143.s1_3 W hs⟩

/-- A WORLD FOR THE WITNESS. -/
noncomputable def logP.laidWorld (os : Os) : World :=
  let w0 := Go.Proofs.YtmnkekepccdlcaaDoor.laidWorld os
  let h1 := putAt w0.heap 1 (Lib.firstTab.map fun z => Value.int .u8 z).toArray
  let h2 := putAt h1 2 ((List.range 16).flatMap fun i => [Value.int .u8 (Lib.accLo i), Value.int .u8 (Lib.accHi i)]).toArray
  { w0 with heap := h2 }
theorem logP.laidWorld_met (os : Os) (args : Array Value) : laidMet Tryd.prog logLaid ((logP.laidWorld os).forCall (fun _ _ => 0) ⟨#[], args, []⟩).memory :=
  laidMet_of_run' 8 (by kernel_rfl) (by kernel_rfl)
end Go.Proofs.YtmnkekepccdlcaaDoor
