/-
  A slice that the call itself makes, of elements of some cells each: appended to element by element, and read.
  Conditions: none; over any program.
-/
import Derived.Test.YtmnkekepccdlcaaGreatDoorOwn
namespace Go.Proofs.YtmnkekepccdlcaaGreatDoor
set_option linter.unusedVariables false
set_option linter.unusedSimpArgs false
open Go.RowKit

/-- n elements of k cells each, owned by the call: a row from block B on. -/
abbrev ORow (e : TypeId) (k B : Nat) (w : World) (v : Value) (n : Nat) (xs : List Value) : Prop := w.ownsRow B e k v n xs

section
variable {P : Program} {e : TypeId} {k B : Nat} {w w' : World} {v : Value} {n : Nat} {xs : List Value}
theorem orow_form (h : ORow e k B w v n xs) : ∃ ao cap, v = .slice ao n cap ∧ n ≤ maxLen := by
  rcases h.2 with ⟨rfl, h0⟩ | ⟨g, cap, cur, rfl, _, _, h1, h2, _⟩
  · exact ⟨none, 0, by rw [h0], by rw [h0]; exact Nat.zero_le _⟩
  · exact ⟨_, _, rfl, Nat.le_trans h1 h2⟩
theorem orow_later (h : ORow e k B w v n xs) (hb : Below w.heap.size w w') : ORow e k B w' v n xs := by
  refine ⟨h.1, ?_⟩
  rcases h.2 with hn | ⟨g, cap, cur, rfl, h1, hg, rest⟩
  · exact .inl hn
  · exact .inr ⟨g, cap, cur, rfl, h1, (hb.block g (Array.getElem?_eq_some_iff.1 hg).1).trans hg, rest⟩
theorem orow_lower {B' : Nat} (h : ORow e k B w v n xs) (hB : B' ≤ B) : ORow e k B' w v n xs := by
  refine ⟨h.1, ?_⟩
  rcases h.2 with hn | ⟨g, cap, cur, rfl, h1, rest⟩
  · exact .inl hn
  · exact .inr ⟨g, cap, cur, rfl, Nat.le_trans hB h1, rest⟩
theorem orow_below {w0 : World} (h : ORow e k B w v n xs) (hb : Below B w0 w) (hg : w.grownBy w' v.ownBlock) (hB : B ≤ w0.heap.size) : Below B w0 w' :=
  hb.grown hg (Nat.le_trans hB hb.size) (fun j hj => (World.ownsRow.lt h j hj).1)
theorem orow_empty (e : TypeId) (k B : Nat) (w : World) (hB : B ≤ w.heap.size) : ORow e k B (w.alloc (.cells #[] e)) (.slice (some ⟨w.heap.size, 0, none⟩) 0 0) 0 [] :=
  World.ownsRow_made w #[] 0 hB (Nat.zero_le _) (by simp)

/-- Where a cell lies. -/
theorem orow_cell {ao : Option Addr} {m cap : Nat} (h : ORow e k B w (.slice ao m cap) n xs) (i : Nat) (hi : i < xs.length) :
    ∃ g, ao = some ⟨g, 0, none⟩ ∧ g < w.heap.size ∧ ∀ w', Below w.heap.size w w' → w'.cell? ⟨g, i, none⟩ = xs[i]? := by
  have hx := h.1
  rcases h.2 with ⟨_, h0⟩ | ⟨g, cap', cur, hv, _, hg, _, _, _, ht⟩
  · rw [h0, Nat.zero_mul] at hx
    omega
  · cases hv
    refine ⟨g, rfl, (Array.getElem?_eq_some_iff.1 hg).1, fun w' hb => ?_⟩
    have hg' := (hb.block g (Array.getElem?_eq_some_iff.1 hg).1).trans hg
    rw [cell_of_row w' g i cur _ _ hg', ← ht, List.getElem?_take_of_lt (by omega)]
    simp

theorem wpList_append_elem {te : TypeId} {z : Value} {bytes : Nat} (infoE : (P.info? e).map (fun i => (i.zero, i.size, i.bytes)) = some (some z, k, bytes)) (hz : z.cells.size = k) (hk : 0 < k) (hby : bytes ≤ 1000) (hte : P.underlying te = some (.slice e)) (w : World) {ops : Array Oper} {rest : List Oper} {o : Oper} {a : Act} {Q : Exit → Act → World → Prop}
    (hg : o.guard = none) (s x : Operand) (hop : o.op = Op.call { callee := Callee.builtin Builtin.append, args := #[s, x], argTypes := #[te, te] }) (B : Nat) (v : Value) (n : Nat) (xs : List Value) (hs : a.eval s = v) (h : ORow e k B w v n xs)
    (q : Nat) (hx : a.eval x = .slice (some ⟨q, 0, none⟩) 1 1) (news : List Value) (hl : news.length = k) (hq : ∀ j u, news[j]? = some u → w.cell? ⟨q, j, none⟩ = some u) (h1 : ∀ u ∈ news, u.oneCell' = true) (hm : n ≤ 1000000) (hB : B ≤ w.heap.size)
    (hK : ∀ ao cap w', ORow e k B w' (.slice ao (n + 1) cap) (n + 1) (xs ++ news) → w.grownBy w' v.ownBlock → wpList P ops Q rest (a.put o.dst (.slice ao (n + 1) cap)) w') : wpList P ops Q (o :: rest) a w := by
  obtain ⟨i0, hi, hz0, hz1, hz2⟩ := info_parts infoE
  have hbb : (n + 1) * bytes ≤ 1000001 * 1000 := Nat.mul_le_mul (by omega) hby
  refine wpList_append_own w hg s x te hop B e i0 z k bytes hte hi hz0 hz1 hz2 hz hk v n xs hs h ⟨q, 0, none⟩ 1 1 news hx (by omega) ?_ h1 (by unfold maxLen; omega) (by omega) hB ?_
  · intro j u hj
    rw [Addr.add_lit, Nat.zero_add]
    exact hq j u hj
  · intro v' w' h1 h2 _
    obtain ⟨ao, cap, rfl, _⟩ := orow_form h1
    exact hK ao cap w' h1 h2
end
end Go.Proofs.YtmnkekepccdlcaaGreatDoor
