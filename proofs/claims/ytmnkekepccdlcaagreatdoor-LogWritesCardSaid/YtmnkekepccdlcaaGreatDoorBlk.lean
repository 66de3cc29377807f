/-
  Blocks that are known whole: two or more variables of the call's own, kept over what a callee leaves alone.
  Conditions: none; over any program.
-/
import Derived.Test.YtmnkekepccdlcaaGreatDoorRegion
import Derived.Laws.Rows
import Derived.Deep.DeepCutAuto
import Derived.Deep.DeepMust
import Derived.Deep.LoopGhost
import Derived.RegionTactic
import Derived.BigRegion
namespace Go.Proofs.YtmnkekepccdlcaaGreatDoor
set_option linter.unusedVariables false
set_option linter.unusedSimpArgs false
open Go.RowKit

def Blk (w : World) (g : Nat) (t : TypeId) (cs : Array Value) : Prop := w.heap[g]? = some (.cells cs t (0, 0))

section
variable {w w' : World} {g : Nat} {t : TypeId} {cs : Array Value}
theorem Blk.lt (h : Blk w g t cs) : g < w.heap.size := by
  rcases Nat.lt_or_ge g w.heap.size with hlt | hge
  · exact hlt
  · unfold Blk at h; rw [Array.getElem?_eq_none hge] at h; cases h
theorem Blk.cell (h : Blk w g t cs) (i : Nat) : w.cell? ⟨g, i, none⟩ = cs[i]? := cell_of_row w g i cs t (0, 0) h
theorem Blk.frozen (h : Blk w g t cs) (i : Nat) : w.frozen? ⟨g, i, none⟩ = false := by
  unfold Blk at h
  simp [World.frozen?, h]
theorem Blk.new (w : World) (t : TypeId) (cs : Array Value) : Blk (w.alloc (.cells cs t)) w.heap.size t cs := heap_alloc_new w _
theorem Blk.drew (h : Blk w g t cs) : Blk w.drew g t cs := h
theorem Blk.drewN (h : Blk w g t cs) (n : Nat) : Blk (w.drewN n) g t cs := h
theorem Blk.alloc (h : Blk w g t cs) (o : Obj) : Blk (w.alloc o) g t cs := (Below.heap_alloc w o g h.lt).trans h
theorem Blk.set_ (h : Blk w g t cs) (i : Nat) (u : Value) : Blk (w.setCell ⟨g, i, none⟩ u) g t (cs.setIfInBounds i u) := by
  unfold Blk at h ⊢
  simp [World.setCell, Array.getElem?_modify, h]
theorem Blk.far (h : Blk w g t cs) {p : Addr} (hp : g ≠ p.block) (u : Value) : Blk (w.setCell p u) g t cs := (Below.heap_setCell w p u g hp).trans h
theorem Blk.below {B : Nat} (h : Blk w g t cs) (hb : Below B w w') (hg : g < B) : Blk w' g t cs := (hb.block g hg).trans h
theorem Blk.later (h : Blk w g t cs) (hb : Below w.heap.size w w') : Blk w' g t cs := h.below hb h.lt
theorem Blk.grown {row : Option Nat} (h : Blk w g t cs) (hb : w.grownBy w' row) (hg : some g ≠ row) : Blk w' g t cs := (hb.block g h.lt hg).trans h
/-- What the walk asks of a cell, in every later world. -/
theorem Blk.at_ (h : Blk w g t cs) (i : Nat) {v : Value} (hv : cs[i]? = some v) : ∀ w', Below w.heap.size w w' → w'.cell? ⟨g, i, none⟩ = some v := fun _ hb => ((h.later hb).cell i).trans hv
theorem Blk.free (h : Blk w g t cs) : ∀ i w', Below w.heap.size w w' → w'.frozen? ⟨g, i, none⟩ = false := fun i _ hb => (h.later hb).frozen i
/-- The same of all its cells at once: simp takes each limb for a rule. -/
theorem Blk.at1 {x0 : Value} (h : Blk w g t #[x0]) : ∀ w', Below w.heap.size w w' → w'.cell? ⟨g, 0, none⟩ = some x0 ∧ ∀ i, w'.frozen? ⟨g, i, none⟩ = false := fun w' hb => ⟨h.at_ 0 rfl w' hb, fun i => h.free i w' hb⟩
theorem Blk.at2 {x0 x1 : Value} (h : Blk w g t #[x0, x1]) : ∀ w', Below w.heap.size w w' → w'.cell? ⟨g, 0, none⟩ = some x0 ∧ w'.cell? ⟨g, 1, none⟩ = some x1 ∧ ∀ i, w'.frozen? ⟨g, i, none⟩ = false := fun w' hb => ⟨h.at_ 0 rfl w' hb, h.at_ 1 rfl w' hb, fun i => h.free i w' hb⟩
theorem Blk.at3 {x0 x1 x2 : Value} (h : Blk w g t #[x0, x1, x2]) : ∀ w', Below w.heap.size w w' → w'.cell? ⟨g, 0, none⟩ = some x0 ∧ w'.cell? ⟨g, 1, none⟩ = some x1 ∧ w'.cell? ⟨g, 2, none⟩ = some x2 ∧ ∀ i, w'.frozen? ⟨g, i, none⟩ = false := fun w' hb => ⟨h.at_ 0 rfl w' hb, h.at_ 1 rfl w' hb, h.at_ 2 rfl w' hb, fun i => h.free i w' hb⟩
theorem Blk.at4 {x0 x1 x2 x3 : Value} (h : Blk w g t #[x0, x1, x2, x3]) : ∀ w', Below w.heap.size w w' → w'.cell? ⟨g, 0, none⟩ = some x0 ∧ w'.cell? ⟨g, 1, none⟩ = some x1 ∧ w'.cell? ⟨g, 2, none⟩ = some x2 ∧ w'.cell? ⟨g, 3, none⟩ = some x3 ∧ ∀ i, w'.frozen? ⟨g, i, none⟩ = false := fun w' hb => ⟨h.at_ 0 rfl w' hb, h.at_ 1 rfl w' hb, h.at_ 2 rfl w' hb, h.at_ 3 rfl w' hb, fun i => h.free i w' hb⟩
theorem Blk.at5 {x0 x1 x2 x3 x4 : Value} (h : Blk w g t #[x0, x1, x2, x3, x4]) : ∀ w', Below w.heap.size w w' → w'.cell? ⟨g, 0, none⟩ = some x0 ∧ w'.cell? ⟨g, 1, none⟩ = some x1 ∧ w'.cell? ⟨g, 2, none⟩ = some x2 ∧ w'.cell? ⟨g, 3, none⟩ = some x3 ∧ w'.cell? ⟨g, 4, none⟩ = some x4 ∧ ∀ i, w'.frozen? ⟨g, i, none⟩ = false := fun w' hb => ⟨h.at_ 0 rfl w' hb, h.at_ 1 rfl w' hb, h.at_ 2 rfl w' hb, h.at_ 3 rfl w' hb, h.at_ 4 rfl w' hb, fun i => h.free i w' hb⟩
theorem Blk.at6 {x0 x1 x2 x3 x4 x5 : Value} (h : Blk w g t #[x0, x1, x2, x3, x4, x5]) : ∀ w', Below w.heap.size w w' → w'.cell? ⟨g, 0, none⟩ = some x0 ∧ w'.cell? ⟨g, 1, none⟩ = some x1 ∧ w'.cell? ⟨g, 2, none⟩ = some x2 ∧ w'.cell? ⟨g, 3, none⟩ = some x3 ∧ w'.cell? ⟨g, 4, none⟩ = some x4 ∧ w'.cell? ⟨g, 5, none⟩ = some x5 ∧ ∀ i, w'.frozen? ⟨g, i, none⟩ = false := fun w' hb => ⟨h.at_ 0 rfl w' hb, h.at_ 1 rfl w' hb, h.at_ 2 rfl w' hb, h.at_ 3 rfl w' hb, h.at_ 4 rfl w' hb, h.at_ 5 rfl w' hb, fun i => h.free i w' hb⟩
theorem Blk.at7 {x0 x1 x2 x3 x4 x5 x6 : Value} (h : Blk w g t #[x0, x1, x2, x3, x4, x5, x6]) : ∀ w', Below w.heap.size w w' → w'.cell? ⟨g, 0, none⟩ = some x0 ∧ w'.cell? ⟨g, 1, none⟩ = some x1 ∧ w'.cell? ⟨g, 2, none⟩ = some x2 ∧ w'.cell? ⟨g, 3, none⟩ = some x3 ∧ w'.cell? ⟨g, 4, none⟩ = some x4 ∧ w'.cell? ⟨g, 5, none⟩ = some x5 ∧ w'.cell? ⟨g, 6, none⟩ = some x6 ∧ ∀ i, w'.frozen? ⟨g, i, none⟩ = false := fun w' hb => ⟨h.at_ 0 rfl w' hb, h.at_ 1 rfl w' hb, h.at_ 2 rfl w' hb, h.at_ 3 rfl w' hb, h.at_ 4 rfl w' hb, h.at_ 5 rfl w' hb, h.at_ 6 rfl w' hb, fun i => h.free i w' hb⟩
theorem Blk.at8 {x0 x1 x2 x3 x4 x5 x6 x7 : Value} (h : Blk w g t #[x0, x1, x2, x3, x4, x5, x6, x7]) : ∀ w', Below w.heap.size w w' → w'.cell? ⟨g, 0, none⟩ = some x0 ∧ w'.cell? ⟨g, 1, none⟩ = some x1 ∧ w'.cell? ⟨g, 2, none⟩ = some x2 ∧ w'.cell? ⟨g, 3, none⟩ = some x3 ∧ w'.cell? ⟨g, 4, none⟩ = some x4 ∧ w'.cell? ⟨g, 5, none⟩ = some x5 ∧ w'.cell? ⟨g, 6, none⟩ = some x6 ∧ w'.cell? ⟨g, 7, none⟩ = some x7 ∧ ∀ i, w'.frozen? ⟨g, i, none⟩ = false := fun w' hb => ⟨h.at_ 0 rfl w' hb, h.at_ 1 rfl w' hb, h.at_ 2 rfl w' hb, h.at_ 3 rfl w' hb, h.at_ 4 rfl w' hb, h.at_ 5 rfl w' hb, h.at_ 6 rfl w' hb, h.at_ 7 rfl w' hb, fun i => h.free i w' hb⟩

/-- A block of three cells, stored whole. -/
theorem Blk.set3 {p q r : Value} (h : Blk w g t #[p, q, r]) (x y z : Value) : Blk (((w.setCell ⟨g, 0, none⟩ x).setCell ⟨g, 1, none⟩ y).setCell ⟨g, 2, none⟩ z) g t #[x, y, z] := by
  have := ((h.set_ 0 x).set_ 1 y).set_ 2 z
  simpa using this
theorem Blk.far3 (h : Blk w g t cs) {b : Nat} (hb : g ≠ b) (x y z : Value) : Blk (((w.setCell ⟨b, 0, none⟩ x).setCell ⟨b, 1, none⟩ y).setCell ⟨b, 2, none⟩ z) g t cs :=
  ((h.far (p := ⟨b, 0, none⟩) hb x).far (p := ⟨b, 1, none⟩) hb y).far (p := ⟨b, 2, none⟩) hb z
theorem below_set3 {B : Nat} {a : World} (h : Below B a w) {b : Nat} (hb : B ≤ b) (x y z : Value) : Below B a (((w.setCell ⟨b, 0, none⟩ x).setCell ⟨b, 1, none⟩ y).setCell ⟨b, 2, none⟩ z) :=
  ((h.setCell (p := ⟨b, 0, none⟩) hb x).setCell (p := ⟨b, 1, none⟩) hb y).setCell (p := ⟨b, 2, none⟩) hb z
end
end Go.Proofs.YtmnkekepccdlcaaGreatDoor
