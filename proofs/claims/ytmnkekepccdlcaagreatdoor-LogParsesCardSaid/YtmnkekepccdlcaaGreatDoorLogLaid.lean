/-
  What the rows of log and world list as laid, what a world then holds; and a world that holds it.
  Conditions: none.
-/
import Derived.Test.YtmnkekepccdlcaaGreatDoorLogG
import Derived.Test.YtmnkekepccdlcaaGreatDoorTickLaid
import Derived.Lib.LaidU8
namespace Go.Proofs.YtmnkekepccdlcaaGreatDoor
open Go.RowKit

def logLaid : List (String × DataW Unit) := [("math/bits.deBruijn32tab", Rows.laid_math_bits_deBruijn32tab), ("math/bits.deBruijn64tab", Rows.laid_math_bits_deBruijn64tab), ("internal/strconv.uint64pow10", Rows.laid_internal_strconv_uint64pow10), ("unicode/utf8.acceptRanges", Rows.laid_unicode_utf8_acceptRanges), ("strconv.ErrRange", Rows.laid_strconv_ErrRange), ("strconv.ErrSyntax", Rows.laid_strconv_ErrSyntax), ("unicode/utf8.first", Rows.laid_unicode_utf8_first)]
theorem gES : Tryz.prog.globalNamed "strconv.ErrSyntax" = some 4 := by kernel_rfl
theorem gESType : (Tryz.prog.globals[4]?).map (·.type) = some 77 := by kernel_rfl
theorem laid_synt {r : List (String × DataW Unit)} {W : World} (h : laidMet Tryz.prog (("strconv.ErrSyntax", Rows.laid_strconv_ErrSyntax) :: r) W) : SyntV W := by
  obtain ⟨a1, s1, hv1, -, -, -⟩ := laid_sentinel h gES gESType Tryz.underlying77 rowES Tryz.underlying200 Tryz.underlying202 rfl rfl Tryz.underlying9 cellsES cellsStr
  exact ⟨_, _, by have h0 := World.var?_cell gES hv1 0; simpa using h0⟩
theorem env_of_laid {W : World} (h : laidMet Tryz.prog logLaid W) (hs : W.ShapedOpen Tryz.prog) : EnvL W :=
  ⟨laid_pow h.tail.tail, laid_range h.tail.tail.tail.tail, laid_synt h.tail.tail.tail.tail.tail, Tryz.laysM143.s1_3 W hs⟩

/-- A WORLD FOR THE WITNESS. -/
noncomputable def logP.laidWorld (os : Os) : World :=
  let w0 := Go.Proofs.YtmnkekepccdlcaaGreatDoor.laidWorld os
  let h1 := putAt w0.heap 2 (Lib.firstTab.map fun z => Value.int .u8 z).toArray
  let h2 := putAt h1 3 ((List.range 16).flatMap fun i => [Value.int .u8 (Lib.accLo i), Value.int .u8 (Lib.accHi i)]).toArray
  { w0 with heap := h2 }
theorem logP.laidWorld_met (os : Os) (args : Array Value) : laidMet Tryz.prog logLaid ((logP.laidWorld os).forCall (fun _ _ => 0) ⟨#[], args, []⟩).memory :=
  laidMet_of_run' 8 (by kernel_rfl) (by kernel_rfl)
end Go.Proofs.YtmnkekepccdlcaaGreatDoor
