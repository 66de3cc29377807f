/-
  A slice of integers that came in: how long it is, and what its cells hold.
  Conditions: none; over any program.
-/
import Derived.Test.YtkbfhnhdlcbidaaDoorLaw
import Derived.ChangeSlices
namespace Go.Proofs.YtkbfhnhdlcbidaaDoor
open Go.ChangeShapes Go.WideShapes Go.ChangeAt Go.RowKit Go.Joins Go.Deep

section
variable {H : Type} {enc : TypeId × Value → H} {P : Program} {w : World} {base : Nat} {spare : Nat → Bool} {held : Bool}
theorem open_intsArg {r : Reach} {b0 : Nat} {t e : TypeId} {k : IntKind} {v : Value} {d : DataW H} {ps : List MemPlace} (ht : P.underlying t = some (.slice e)) (he : P.underlying e = some (.int k)) (hc : P.cellsOf e = 1)
    (hval : Value.okWide P w r b0 t v) (hd : DataW.Trod enc P w base spare held t v d ps) :
    ∃ (ao : Option Addr) (len cap : Nat) (zs : List Int), v = .slice ao len cap ∧ zs.length = len ∧ len ≤ maxLen ∧
      (∀ i (h : i < zs.length), ∃ b off, ao = some ⟨b, off, none⟩ ∧ w.cell? ⟨b, off + i, none⟩ = some (.int k zs[i])) ∧ (∀ n ∈ zs, (Lit.int k n).wf = true) := by
  obtain ⟨ao, len, cap, rfl⟩ := okWide_slice ht hval
  obtain ⟨fuel, hf⟩ := hd
  simp only [Value.cells] at hf
  rcases open_ints ht he hc hf with ⟨h, _⟩ | ⟨a, len', cap', zs, h, _, hlc, hm, hl, _, hcell, hwf⟩
  · simp only [List.cons.injEq, Value.slice.injEq, and_true] at h
    obtain ⟨rfl, rfl, rfl⟩ := h
    exact ⟨none, 0, 0, [], rfl, rfl, by decide, fun i h => absurd h (by simp), by simp⟩
  · simp only [List.cons.injEq, Value.slice.injEq, and_true] at h
    obtain ⟨rfl, rfl, rfl⟩ := h
    have hle : len ≤ zs.length := by rw [hl]; split <;> omega
    refine ⟨some a, len, cap, zs.take len, rfl, by simp; omega, by omega, fun i hi => ?_, fun n hn => hwf n (List.mem_of_mem_take hn)⟩
    simp only [List.length_take] at hi
    have h0 := hcell i (by omega)
    obtain ⟨b, off, sp⟩ := a
    have hsp : sp = none := by
      have := World.cell?_spot (hcell 0 (by omega))
      simpa [Addr.add] using this
    subst hsp
    refine ⟨b, off, rfl, ?_⟩
    rw [add_plain] at h0
    rw [h0, List.getElem_take, List.getD_eq_getElem?_getD, List.getElem?_eq_getElem (by omega)]
    rfl
end
end Go.Proofs.YtkbfhnhdlcbidaaDoor
