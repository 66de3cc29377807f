/-
  What strconv's error and table hold, they hold in every later world.
  Conditions: none.
-/
import Derived.Test.YtmnkekepccdlcaaGreatDoorTickW
namespace Go.Proofs.YtmnkekepccdlcaaGreatDoor
set_option linter.unusedVariables false
set_option linter.unusedSimpArgs false
open Go.RowKit Go.Sort

theorem range_later {w w' : World} (h : RangeV w) (hb : Below w.heap.size w w') : RangeV w' := by
  obtain ⟨t, p, hc⟩ := h
  exact ⟨t, p, (hb.cell (p := ⟨5, 0, none⟩) (World.block_lt_of_cell? w _ hc)).trans hc⟩
theorem gPow : Tryz.prog.globalNamed "internal/strconv.uint64pow10" = some 1 := by kernel_rfl
theorem pow_later {w w' : World} (h : Pow w) (hb : Below w.heap.size w w') : Pow w' := by
  have e : w.var? Tryz.prog "internal/strconv.uint64pow10" = some (Lib.pow10Tab.map fun z => Value.int .u64 z).toArray := h
  show w'.var? Tryz.prog "internal/strconv.uint64pow10" = _
  rw [← e]
  unfold World.var? at e ⊢
  rw [gPow] at e ⊢
  simp only [Option.bind_some] at e ⊢
  have hlt : 1 < w.heap.size := by
    rcases Nat.lt_or_ge 1 w.heap.size with h | h
    · exact h
    · rw [Array.getElem?_eq_none h] at e; cases e
  rw [hb.block _ hlt]

end Go.Proofs.YtmnkekepccdlcaaGreatDoor
