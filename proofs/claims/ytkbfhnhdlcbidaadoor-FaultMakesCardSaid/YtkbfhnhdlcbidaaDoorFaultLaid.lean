/-
  What the rows of package fault's laws list as laid: the table of powers of ten, and errors' handle of the type error; and worlds that hold them.
  Conditions: none.
-/
import Derived.Test.YtkbfhnhdlcbidaaDoorTickLaid
import Derived.LaidHandle
import Derived.Stop.Joined
namespace Go.Proofs.YtkbfhnhdlcbidaaDoor
open Go.RowKit

def faultLaid : List (String × DataW Unit) := [("math/bits.deBruijn32tab", Rows.laid_math_bits_deBruijn32tab), ("math/bits.deBruijn64tab", Rows.laid_math_bits_deBruijn64tab), ("internal/strconv.uint64pow10", Rows.laid_internal_strconv_uint64pow10)]
def faultLaidH : List (String × DataW Unit) := [("math/bits.deBruijn32tab", Rows.laid_math_bits_deBruijn32tab), ("math/bits.deBruijn64tab", Rows.laid_math_bits_deBruijn64tab), ("internal/strconv.uint64pow10", Rows.laid_internal_strconv_uint64pow10), ("errors.errorType", Rows.laid_errors_errorType)]
theorem fault_laid {W : World} (h : laidMet Tryd.prog faultLaid W) : Pow W := laid_pow h.tail.tail
theorem faultTexts.laidWorld_met (os : Os) (args : Array Value) : laidMet Tryd.prog faultLaid ((laidWorld os).forCall (fun _ _ => 0) ⟨#[], args, []⟩).memory :=
  laidMet_of_run' 8 (by kernel_rfl) (by kernel_rfl)

/-- The handle of the type error lies in its variable. -/
abbrev Handle (W : World) : Prop := W.cell? ⟨0, 0, none⟩ = some (.iface 101 (.agg #[.pointer (some ⟨6, 28, none⟩)]))
theorem gET : Tryd.prog.globalNamed "errors.errorType" = some 0 := by kernel_rfl
theorem rtRow : (Tryd.prog.cutTypes.find? (·.1 == "internal/reflectlite.rtype")).map (·.2) = some 101 := by kernel_rfl
theorem oneRow : ((List.range 173).filter fun t => Tryd.prog.rowNamed t [101, 114, 114, 111, 114]) = [28] := by kernel_rfl
theorem typesSize : Tryd.prog.types.size = 173 := by kernel_rfl
theorem handle_of_laid {W : World} (h : laidMetH Tryd.prog faultLaidH W) : Handle W := by
  have h' : laidMet Tryd.prog faultLaid W ∧ handlesMet Tryd.prog [("errors.errorType", Rows.laid_errors_errorType)] W := h
  obtain ⟨name, u, ty, e1, e2, e3, e4, e5⟩ := h'.2 _ (List.mem_singleton.2 rfl)
  have en : name = [101, 114, 114, 111, 114] := (Option.some.inj e1).symm
  subst en
  obtain rfl := Option.some.inj (rtRow.symm.trans e2)
  have hm : ty ∈ (List.range 173).filter fun t => Tryd.prog.rowNamed t [101, 114, 114, 111, 114] := List.mem_filter.2 ⟨List.mem_range.2 (by rw [← typesSize]; exact e3), e4⟩
  rw [oneRow] at hm
  obtain rfl := List.mem_singleton.1 hm
  have hh : typeHandle Tryd.prog 28 = .pointer (some ⟨6, 28, none⟩) := by kernel_rfl
  rw [hh] at e5
  simpa using World.var?_cell gET e5 0
theorem pow_of_laidH {W : World} (h : laidMetH Tryd.prog faultLaidH W) : Pow W := by
  have h' : laidMet Tryd.prog faultLaid W ∧ handlesMet Tryd.prog [("errors.errorType", Rows.laid_errors_errorType)] W := h
  exact fault_laid h'.1
/-- A world for the witness: the handle laid too. -/
noncomputable def faultH.laidWorld (os : Os) : World :=
  let w0 := Go.Proofs.YtkbfhnhdlcbidaaDoor.laidWorld os
  { w0 with heap := putAt w0.heap 0 #[.iface 101 (.agg #[.pointer (some ⟨6, 28, none⟩)])] }
theorem faultH.laid_part (os : Os) (args : Array Value) : laidMet Tryd.prog faultLaid ((faultH.laidWorld os).forCall (fun _ _ => 0) ⟨#[], args, []⟩).memory :=
  laidMet_of_run' 8 (by kernel_rfl) (by kernel_rfl)
theorem faultH.laidWorld_met (os : Os) (args : Array Value) : laidMetH Tryd.prog faultLaidH ((faultH.laidWorld os).forCall (fun _ _ => 0) ⟨#[], args, []⟩).memory :=
  laidMetH_of_parts (faultH.laid_part os args) (by kernel_rfl)
end Go.Proofs.YtkbfhnhdlcbidaaDoor
