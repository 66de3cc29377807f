/-
  A slice of bytes that the call itself makes: appended to byte by byte, and turned into a text.
  Conditions: none; over any program.
-/
import Derived.Test.YtmnkekepccdlcaaGreatDoorBlk
import Derived.OwnWalk
import Derived.Laws.IdiomStrings
import Derived.Laws.BytesArg
namespace Go.Proofs.YtmnkekepccdlcaaGreatDoor
set_option linter.unusedVariables false
set_option linter.unusedSimpArgs false
open Go.RowKit

/-- A byte's cell. -/
abbrev bval (c : UInt8) : Value := .int .u8 (c.toNat : Int)
/-- Some bytes, owned by the call: a row from block B on. -/
def OB (e : TypeId) (B : Nat) (w : World) (v : Value) (l : List UInt8) : Prop := w.ownsRow B e 1 v l.length (l.map bval)

theorem cell_new1 (w : World) (t : TypeId) (v : Value) : (w.alloc (.cells #[v] t)).cell? ⟨w.heap.size, 0, none⟩ = some v := (Blk.new w t #[v]).cell 0

section
variable {P : Program} {e : TypeId} {B : Nat} {w w' : World} {v : Value} {l : List UInt8}
theorem OB.form (h : OB e B w v l) : ∃ ao cap, v = .slice ao l.length cap ∧ l.length ≤ maxLen := by
  rcases h.2 with ⟨rfl, h0⟩ | ⟨g, cap, cur, rfl, _, _, h1, h2, _⟩
  · exact ⟨none, 0, by rw [h0], by rw [h0]; exact Nat.zero_le _⟩
  · exact ⟨_, _, rfl, Nat.le_trans h1 h2⟩
theorem OB.nil (e : TypeId) (B : Nat) (w : World) : OB e B w (.slice none 0 0) [] := World.ownsRow_nil _ _ _ _
theorem OB.empty (hB : B ≤ w.heap.size) : OB e B (w.alloc (.cells #[] e)) (.slice (some ⟨w.heap.size, 0, none⟩) 0 0) [] :=
  World.ownsRow_made (size := 1) w #[] 0 hB (Nat.zero_le _) rfl
theorem OB.kept {row : Option Nat} (h : OB e B w v l) (hg : w.grownBy w' row) (hne : v.ownBlock = none ∨ v.ownBlock ≠ row) : OB e B w' v l := World.ownsRow.kept h hg hne
theorem OB.alloc (h : OB e B w v l) (o : Obj) : OB e B (w.alloc o) v l := World.ownsRow.alloc h o
theorem OB.drew (h : OB e B w v l) : OB e B w.drew v l := h
theorem OB.later (h : OB e B w v l) (hb : Below w.heap.size w w') : OB e B w' v l := by
  refine ⟨h.1, ?_⟩
  rcases h.2 with hn | ⟨g, cap, cur, rfl, h1, hg, rest⟩
  · exact .inl hn
  · exact .inr ⟨g, cap, cur, rfl, h1, (hb.block g (Array.getElem?_eq_some_iff.1 hg).1).trans hg, rest⟩
theorem OB.lt (h : OB e B w v l) : ∀ k, v.ownBlock = some k → B ≤ k ∧ k < w.heap.size := World.ownsRow.lt h
theorem OB.cast {l' : List UInt8} (h : OB e B w v l) (hl : l = l') : OB e B w v l' := hl ▸ h
theorem OB.below {w0 : World} (h : OB e B w v l) (hb : Below B w0 w) (hg : w.grownBy w' v.ownBlock) (hB : B ≤ w0.heap.size) : Below B w0 w' :=
  hb.grown hg (Nat.le_trans hB hb.size) (fun k hk => (h.lt k hk).1)

/-- Where the bytes lie. -/
theorem OB.cell {ao : Option Addr} {n cap : Nat} (h : OB e B w (.slice ao n cap) l) (i : Nat) (hi : i < l.length) : ∃ g, ao = some ⟨g, 0, none⟩ ∧ w.cell? ⟨g, i, none⟩ = some (bval l[i]) := by
  rcases h.2 with ⟨_, h0⟩ | ⟨g, cap', cur, hv, _, hg, _, _, _, ht⟩
  · omega
  · cases hv
    refine ⟨g, rfl, ?_⟩
    rw [cell_of_row w g i cur _ _ hg]
    have h5 : (cur.toList.take (l.length * 1))[i]? = some (bval l[i]) := by
      rw [ht, List.getElem?_map, List.getElem?_eq_getElem hi]; rfl
    rw [List.getElem?_take_of_lt (by omega)] at h5
    simpa using h5

/-- The bytes as a text, in every later world. -/
theorem OB.text {t dst : TypeId} {ao : Option Addr} {n cap : Nat} (h : OB e B w (.slice ao n cap) l) (hs : P.underlying t = some (.slice e)) (he : P.underlying e = some (.int .u8)) (hd : P.underlying dst = some .string) :
    ∀ w', Below w.heap.size w w' → (convert t dst (.slice ao n cap)).run P w' = .ok (.string ⟨l.toArray⟩) w' := by
  intro w' hb
  have h' := h.later hb
  rcases h'.2 with ⟨hv, h0⟩ | ⟨g, cap', cur, hv, _, hg, _, _, _, _⟩
  · cases hv
    obtain rfl := List.eq_nil_of_length_eq_zero h0
    rw [run_convert_bytes_string w' t dst e none 0 0 hs he hd]
    rfl
  · cases hv
    refine run_convert_bytes_back w' t dst e _ _ l hs he hd (fun j hj => ?_)
    obtain ⟨g', hg', hc⟩ := h'.cell j hj
    cases hg'
    rw [Addr.add_lit, Nat.zero_add]
    exact hc

theorem wpList_append_byte {te : TypeId} (infoB : (P.info? e).map (fun i => (i.zero, i.size, i.bytes)) = some (some (.int .u8 0), 1, 1)) (hte : P.underlying te = some (.slice e)) (w : World) {ops : Array Oper} {rest : List Oper} {o : Oper} {a : Act} {Q : Exit → Act → World → Prop}
    (hg : o.guard = none) (s x : Operand) (hop : o.op = Op.call { callee := Callee.builtin Builtin.append, args := #[s, x], argTypes := #[te, te] }) (B : Nat) (v : Value) (l : List UInt8) (hs : a.eval s = v) (h : OB e B w v l)
    (q : Nat) (hx : a.eval x = .slice (some ⟨q, 0, none⟩) 1 1) (c : UInt8) (hq : w.cell? ⟨q, 0, none⟩ = some (bval c)) (hm : l.length ≤ 1000000) (hB : B ≤ w.heap.size)
    (hK : ∀ ao cap w', OB e B w' (.slice ao (l.length + 1) cap) (l ++ [c]) → w.grownBy w' v.ownBlock → wpList P ops Q rest (a.put o.dst (.slice ao (l.length + 1) cap)) w') : wpList P ops Q (o :: rest) a w := by
  obtain ⟨i0, hi, hz0, hz1, hz2⟩ := info_parts infoB
  refine wpList_append_own w hg s x te hop B e i0 (.int .u8 0) 1 1 hte hi hz0 hz1 hz2 rfl (by decide) v l.length (l.map bval) hs h ⟨q, 0, none⟩ 1 1 [bval c] hx rfl ?_ ?_ (by unfold maxLen; omega) (by omega) hB ?_
  · intro j u hj
    match j, hj with
    | 0, hj => simp at hj; subst hj; simpa [Addr.add] using hq
  · intro u hu; simp at hu; subst hu; rfl
  · intro v' w' h1 h2 _
    have h3 : OB e B w' v' (l ++ [c]) := by
      unfold OB
      rw [List.map_append, List.length_append]
      exact h1
    obtain ⟨ao, cap, rfl, _⟩ := h3.form
    rw [List.length_append] at h3 ⊢
    exact hK ao cap w' h3 h2
end
abbrev bt (l : List UInt8) : ByteArray := ⟨l.toArray⟩
theorem u8_eq {c d : UInt8} (h : (c.toNat : Int) = (d.toNat : Int)) : c = d := by
  apply UInt8.toNat_inj.1; omega
theorem ne_b {n m : Int} (h : ¬ n = m) : (n == m) = false := beq_eq_false_iff_ne.2 h
theorem drop_at (s : ByteArray) (k : Nat) (h : k < s.size) : s.data.toList.drop k = s[k] :: s.data.toList.drop (k + 1) := List.drop_eq_getElem_cons (by simpa using h)
theorem drop_end (s : ByteArray) (k : Nat) (h : s.size ≤ k) : s.data.toList.drop k = [] := List.drop_of_length_le (by simpa using h)
end Go.Proofs.YtmnkekepccdlcaaGreatDoor
