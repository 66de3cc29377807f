/-
  What the rows of this seat list as laid: the table of powers of ten, and strconv's two errors; and a world that holds them.
  Conditions: none.
-/
import Derived.Test.YtmnkekepccdlcaaGreatDoorWgE
import Derived.Stop.LaidErr
import Derived.Deep.DeepHandedRow
import Derived.Deep.DeepWitnessRowRef
import Derived.Lib.LaidTab
import Derived.Lib.LaidIn
namespace Go.Proofs.YtmnkekepccdlcaaGreatDoor
set_option linter.unusedVariables false
set_option linter.unusedSimpArgs false
open Go.RowKit

def tickLaid : List (String × DataW Unit) := [("math/bits.deBruijn32tab", Rows.laid_math_bits_deBruijn32tab), ("math/bits.deBruijn64tab", Rows.laid_math_bits_deBruijn64tab), ("internal/strconv.uint64pow10", Rows.laid_internal_strconv_uint64pow10), ("strconv.ErrRange", Rows.laid_strconv_ErrRange), ("strconv.ErrSyntax", Rows.laid_strconv_ErrSyntax)]
theorem gER : Tryz.prog.globalNamed "strconv.ErrRange" = some 5 := by kernel_rfl
theorem gERType : (Tryz.prog.globals[5]?).map (·.type) = some 77 := by kernel_rfl
theorem gPowType : (Tryz.prog.globals[1]?).map (·.type) = some 182 := by kernel_rfl
theorem cellsES : Tryz.prog.cellsOf 202 = 1 := by kernel_rfl
theorem cellsStr : Tryz.prog.cellsOf 9 = 1 := by kernel_rfl
theorem cellsU64 : Tryz.prog.cellsOf 167 = 1 := by kernel_rfl
theorem cellsPow : Tryz.prog.cellsOf 182 = 20 := by kernel_rfl
theorem starES : "*" ++ "errors.errorString" = "*errors.errorString" := by decide
theorem rowES (u : TypeId) (h : Tryz.prog.typeName? 3 u = some "*errors.errorString") : u = 200 :=
  typeName_ptr_named (nm := "errors.errorString") (by rw [starES]; kernel_rfl) (by kernel_rfl) (by decide) u (by rw [starES]; exact h)

theorem laid_pow {r : List (String × DataW Unit)} {W : World} (h : laidMet Tryz.prog (("internal/strconv.uint64pow10", Rows.laid_internal_strconv_uint64pow10) :: r) W) : Pow W :=
  Lib.tabIs_of_head gPow gPowType Tryz.underlying182 Tryz.underlying167 cellsU64 cellsPow h
theorem laid_range {r : List (String × DataW Unit)} {W : World} (h : laidMet Tryz.prog (("strconv.ErrRange", Rows.laid_strconv_ErrRange) :: r) W) : RangeV W := by
  obtain ⟨a1, s1, hv1, -, -, -⟩ := laid_sentinel h gER gERType Tryz.underlying77 rowES Tryz.underlying200 Tryz.underlying202 rfl rfl Tryz.underlying9 cellsES cellsStr
  exact ⟨_, _, by have h0 := World.var?_cell gER hv1 0; simpa using h0⟩
theorem tick_laid {W : World} (h : laidMet Tryz.prog tickLaid W) : Pow W ∧ RangeV W :=
  ⟨laid_pow h.tail.tail, laid_range h.tail.tail.tail⟩

def litCell : DataW Unit → List Value
  | .lit (.int k n) => [.int k n]
  | _ => []
def litCells : DataW Unit → List Value
  | .agg l => l.flatMap litCell
  | _ => []
def sentText : DataW Unit → ByteArray
  | .iface _ (.ptr (.agg [.lit (.string b)])) => ⟨b.toArray⟩
  | _ => ⟨#[]⟩
/-- So many blocks has the settled world. -/
noncomputable def low : Nat := (World.holding Tryz.prog default ⟨#[], #[], []⟩).heap.size
def putAt (h : Array Obj) (g : Nat) (cs : Array Value) : Array Obj := h.modify g fun
  | .cells _ t frozen => .cells cs t frozen
  | o => o
/-- A WORLD FOR THE WITNESS: the settled one, what is listed laid. -/
noncomputable def laidWorld (os : Os) : World :=
  let w0 := World.holding Tryz.prog os ⟨#[.cells #[.string (sentText Rows.laid_strconv_ErrRange)] 202, .cells #[.string (sentText Rows.laid_strconv_ErrSyntax)] 202], #[], []⟩
  let h1 := putAt w0.heap 6 (litCells Rows.laid_math_bits_deBruijn32tab).toArray
  let h2 := putAt h1 7 (litCells Rows.laid_math_bits_deBruijn64tab).toArray
  let h3 := putAt h2 1 (litCells Rows.laid_internal_strconv_uint64pow10).toArray
  let h4 := putAt h3 5 #[.iface 200 (.pointer (some ⟨low, 0, none⟩))]
  let h5 := putAt h4 4 #[.iface 200 (.pointer (some ⟨low + 1, 0, none⟩))]
  { w0 with heap := h5 }
theorem laidWorld_met (os : Os) (args : Array Value) : laidMet Tryz.prog tickLaid ((laidWorld os).forCall (fun _ _ => 0) ⟨#[], args, []⟩).memory :=
  laidMet_of_run' 8 (by kernel_rfl) (by kernel_rfl)
end Go.Proofs.YtmnkekepccdlcaaGreatDoor
