/-
  A slice of structs that came in: how long it is, and what its cells hold.
  Conditions: none; over any program.
-/
import Derived.Test.YtkbfhnhdlcbidaaDoorSlice
namespace Go.Proofs.YtkbfhnhdlcbidaaDoor
open Go.ChangeShapes Go.WideShapes Go.ChangeAt Go.RowKit Go.Joins Go.Deep

section
variable {H : Type} {enc : TypeId × Value → H} {P : Program} {w : World} {base : Nat} {spare : Nat → Bool} {held : Bool}
theorem open_cellsArg {r : Reach} {b0 c : Nat} {t e : TypeId} {v : Value} {d : DataW H} {ps : List MemPlace} (ht : P.underlying t = some (.slice e)) (hc : P.cellsOf e = c) (hpos : 0 < c)
    (hval : Value.okWide P w r b0 t v) (hd : DataW.Trod enc P w base spare held t v d ps) :
    ∃ (ao : Option Addr) (len cap : Nat), v = .slice ao len cap ∧ len ≤ maxLen ∧
      ∀ i, i < len → ∃ b off cs n y, ao = some ⟨b, off, none⟩ ∧ cs.length = c ∧ (∀ j, j < c → w.cell? ⟨b, off + i * c + j, none⟩ = cs[j]?) ∧ DataW.trod enc P w base spare held n e cs = some y := by
  subst hc
  obtain ⟨ao, len, cap, rfl⟩ := okWide_slice ht hval
  obtain ⟨fuel, hf⟩ := hd
  simp only [Value.cells] at hf
  rcases open_slice ht hf with ⟨h, _⟩ | ⟨a, len', cap', m, n, D, Pl, h, _, hlc, hm, hmm, _, hx⟩
  · simp only [List.cons.injEq, Value.slice.injEq, and_true] at h
    obtain ⟨rfl, rfl, rfl⟩ := h
    exact ⟨none, 0, 0, rfl, by decide, fun i h => absurd h (by simp)⟩
  · simp only [List.cons.injEq, Value.slice.injEq, and_true] at h
    obtain ⟨rfl, rfl, rfl⟩ := h
    have hle : len ≤ m := by rw [hmm]; split <;> omega
    refine ⟨some a, len, cap, rfl, by omega, fun i hi => ?_⟩
    obtain ⟨cs0, hx0, _⟩ := hx 0 (by omega)
    obtain ⟨b, off, sp⟩ := a
    obtain ⟨_, hl0, hc0⟩ := World.cells?_some hx0
    have hsp : sp = none := by
      have h1 := hc0 0 hpos
      rw [List.getElem?_eq_getElem (by omega)] at h1
      have := World.cell?_spot h1
      simpa [Addr.add] using this
    subst hsp
    obtain ⟨cs, hxi, hyi⟩ := hx i (by omega)
    obtain ⟨_, hl, hcs⟩ := World.cells?_some hxi
    refine ⟨b, off, cs, n, _, rfl, hl, fun j hj => ?_, hyi⟩
    have := hcs j hj
    rwa [add_plain, add_plain] at this

theorem open_strsArg {r : Reach} {b0 : Nat} {t e : TypeId} {v : Value} {d : DataW H} {ps : List MemPlace} (ht : P.underlying t = some (.slice e)) (he : P.underlying e = some .string) (hc : P.cellsOf e = 1)
    (hval : Value.okWide P w r b0 t v) (hd : DataW.Trod enc P w base spare held t v d ps) :
    ∃ (ao : Option Addr) (len cap : Nat), v = .slice ao len cap ∧ len ≤ maxLen ∧
      ∀ i, i < len → ∃ b off S, ao = some ⟨b, off, none⟩ ∧ w.cell? ⟨b, off + i, none⟩ = some (.string S) ∧ S.size ≤ maxLen := by
  obtain ⟨ao, len, cap, rfl, hm, hcell⟩ := open_cellsArg ht hc (by omega) hval hd
  refine ⟨ao, len, cap, rfl, hm, fun i hi => ?_⟩
  obtain ⟨b, off, cs, n, y, e1, hl, hcs, hy⟩ := hcell i hi
  match cs, hl with
  | [c0], _ =>
    obtain ⟨S, rfl, hS⟩ := field_string he hy
    have := hcs 0 (by omega)
    exact ⟨b, off, S, e1, by simpa using this, hS⟩

theorem open_cells3 {t : TypeId} {f0 f1 f2 : Field} {cs : List Value} {m : Nat} {y : DataW H × List MemPlace} (hs : P.underlying t = some (.struct #[f0, f1, f2])) (hone : oneCellFields P #[f0, f1, f2] = true) (hl : cs.length = 3)
    (h : DataW.trod enc P w base spare held m t cs = some y) :
    ∃ (c0 c1 c2 : Value) (y0 y1 y2 : DataW H × List MemPlace) (n : Nat), cs = [c0, c1, c2] ∧
      DataW.trod enc P w base spare held n f0.type [c0] = some y0 ∧ DataW.trod enc P w base spare held n f1.type [c1] = some y1 ∧ DataW.trod enc P w base spare held n f2.type [c2] = some y2 := by
  match cs, hl with
  | [c0, c1, c2], _ =>
    obtain ⟨xs, n, _, _, _, hlen, hg⟩ := DataW.trod_struct hs h
    obtain ⟨o0, k0⟩ := hone_of hone 0 f0 rfl
    obtain ⟨o1, k1⟩ := hone_of hone 1 f1 rfl
    obtain ⟨o2, k2⟩ := hone_of hone 2 f2 rfl
    match xs, hlen with
    | [y0, y1, y2], _ =>
      exact ⟨c0, c1, c2, y0, y1, y2, n, rfl, by simpa [Value.cells, o0, k0] using hg 0 f0 rfl, by simpa [Value.cells, o1, k1] using hg 1 f1 rfl, by simpa [Value.cells, o2, k2] using hg 2 f2 rfl⟩
end
end Go.Proofs.YtkbfhnhdlcbidaaDoor
