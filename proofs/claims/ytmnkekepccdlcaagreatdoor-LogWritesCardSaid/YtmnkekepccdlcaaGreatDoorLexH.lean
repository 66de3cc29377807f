/-
  A region whose order Go leaves open, whose calls come one behind the other: met once in the order of the text; a call may give what hangs on the world; what a guard rules out is passed over.
  Conditions: none; over any program.
-/
import Derived.Test.YtmnkekepccdlcaaGreatDoorBlk
import Derived.Deep.RegionHeld3
import Derived.ArgAppend
namespace Go.Proofs.YtmnkekepccdlcaaGreatDoor
set_option linter.unusedVariables false
set_option linter.unusedSimpArgs false
open Go.RowKit

def isGoCall (o : Oper) : Bool := match o.op with
  | .call c => (match c.callee with | .value _ => true | .builtin .append => true | _ => false)
  | _ => false
section
variable {P : Program} {ops : Array Oper} {Q : Exit → Act → World → Prop} {md : Region.Mode} {S : World → Prop}

def wpLexH (P : Program) (ops : Array Oper) (Q : Exit → Act → World → Prop) (S : World → Prop) : List Oper → Act → World → Prop
  | [], a, w => Q .normal a w
  | o :: l, a, w =>
    (∃ v, YieldsIf P ops S o v a ∧ wpLexH P ops Q S l (a.put o.dst v) w) ∨
    (isGoCall o = true ∧ Region.wanted o (yielded ops a.tmps) = true ∧ o.wp P a w (fun a' w' => S w' ∧ wpLexH P ops Q S l a' w') Q)
def lexHB (md : Region.Mode) (ops : Array Oper) : List Oper → Nat → Array Bool → Bool
  | [], _, listed => (Region.ready md ops listed).isEmpty
  | o :: l, k, listed => (Region.ready md ops listed).contains k && Region.free md ops listed k && (!isGoCall o || Region.ready md ops listed == [k]) && lexHB md ops l (k + 1) (listed.setIfInBounds k true)

theorem wpAnyH_of_lexH (hs : Region.noSelect ops = true) (hQ : ∀ c a t v w, Q (.panic c) (Act.put a t v) w → Q (.panic c) a w) :
    ∀ (l : List Oper) (k : Nat) (listed : Array Bool) (a : Act) (w : World), (∀ j, j < l.length → l[j]? = ops[k + j]?) → lexHB md ops l k listed = true → S w → wpLexH P ops Q S l a w →
      wpAnyH P md ops Q S l.length listed a w
  | [], k, listed, a, w, _, hB, _, h => ⟨by simpa [lexHB] using hB, h⟩
  | o :: l, k, listed, a, w, hl, hB, hS, h => by
    have h0 : ops[k]? = some o := by simpa using (hl 0 (by simp)).symm
    have hl' : ∀ j, j < l.length → l[j]? = ops[k + 1 + j]? := fun j hj => by
      have := hl (j + 1) (by simp; omega)
      simpa [Nat.add_assoc, Nat.add_comm 1 j] using this
    simp only [lexHB, Bool.and_eq_true] at hB
    obtain ⟨⟨⟨hr, hf⟩, hc⟩, hB'⟩ := hB
    rcases h with ⟨v, hy, h⟩ | ⟨hg, hw, h⟩
    · exact wpAnyH_take h0 hs hf hr (fun c a w => hQ c a o.dst v w) hy hS (wpAnyH_of_lexH hs hQ l (k + 1) _ _ w hl' hB' hS h)
    · rw [hg] at hc
      have hr' : Region.ready md ops listed = [k] := by simpa using hc
      refine wpAnyH_all hr' (by simp) (fun i hi => ?_)
      obtain rfl : i = k := by simpa using hi
      unfold wpOp
      rw [h0]
      simp only [hw, if_true]
      exact .inl (Oper.wp_mono (fun a' w' ⟨hS', h'⟩ => ⟨hS', wpAnyH_of_lexH hs hQ l (i + 1) _ a' w' hl' hB' hS' h'⟩) h)

theorem wp_region_lexH {id : Nat} {a : Act} {w : World} {l : List Oper} (hm : P.follows .mixedOrders = true) (hs : Region.noSelect l.toArray = true)
    (hB : lexHB .any l.toArray l 0 (Array.replicate l.toArray.size false) = true) (hS : S w.drew) (h : wpLexH P l.toArray (NoPanic Q) S l a w.drew) : (Code.region id l.toArray true).wp P Q a w := by
  refine wp_region_noPanic (wp_region_held (S := S) hm ?_)
  have := wpAnyH_of_lexH (md := .any) hs (fun _ _ _ _ _ h => h) l 0 _ a w.drew (fun j _ => by simp) hB hS h
  simpa using this

variable {o : Oper} {l : List Oper} {a : Act} {w : World}
theorem lexH_skip (hw : Region.wanted o (yielded ops a.tmps) = false) (h : wpLexH P ops Q S l (a.put o.dst undef) w) : wpLexH P ops Q S (o :: l) a w :=
  .inl ⟨undef, .inr ⟨hw, rfl⟩, h⟩
theorem lexH_take {v : Value} (hw : Region.wanted o (yielded ops a.tmps) = true) (hy : ∀ w, S w → (execOp a.eval o).run P w = .ok (.value v) w) (h : wpLexH P ops Q S l (a.put o.dst v) w) : wpLexH P ops Q S (o :: l) a w :=
  .inl ⟨v, .inl ⟨hw, hy⟩, h⟩
theorem lexH_call (hg : isGoCall o = true) (hw : Region.wanted o (yielded ops a.tmps) = true)
    (h : ∀ K : Act → World → Prop, Shut (∀ a' w', S w' → (S w' → wpLexH P ops Q S l a' w') → K a' w') → o.wp P a w K Q) : wpLexH P ops Q S (o :: l) a w :=
  .inr ⟨hg, hw, h _ fun _ _ hS hh => ⟨hS, hh hS⟩⟩
theorem lexH_done (h : Q .normal a w) : wpLexH P ops (NoPanic Q) S [] a w := h
/-- append of a slice whose cells are known, as one step. -/
theorem wp_append_arg {K : Act → World → Prop} (s x : Operand) (t : TypeId) (hop : o.op = Op.call { callee := Callee.builtin Builtin.append, args := #[s, x], argTypes := #[t, t] })
    (e : TypeId) (i : TypeInfo) (z : Value) (size bytes : Nat) (h1 : P.underlying t = some (.slice e)) (h2 : P.info? e = some i) (h3 : i.zero = some z) (h4 : i.size = size) (h5 : i.bytes = bytes) (h6 : z.cells.size = size) (h7 : 0 < size)
    (b off n cap : Nat) (olds : List Value) (hs : a.eval s = .slice (some ⟨b, off, none⟩) n cap) (hlo : olds.length = n * size) (holds : ∀ j u, olds[j]? = some u → w.cell? ⟨b, off + j, none⟩ = some u)
    (ad : Addr) (m c : Nat) (news : List Value) (hx : a.eval x = .slice (some ad) m c) (hn : news.length = m * size) (hc : ∀ j u, news[j]? = some u → w.cell? (ad.add j) = some u) (h1c : ∀ u ∈ news, u.oneCell' = true)
    (hspare : n + m ≤ cap → ∀ j, j < news.length → (w.cell? ⟨b, off + n * size + j, none⟩).isSome = true ∧ w.frozen? ⟨b, off + n * size + j, none⟩ = false)
    (b1 : n + m ≤ maxLen) (b2 : (n + m) * bytes ≤ 140737488355328)
    (hroom : n + m ≤ cap → K (a.put o.dst (.slice (some ⟨b, off, none⟩) (n + m) cap)) (w.setCells b (off + n * size) news))
    (hgrow : cap < n + m → ∀ v' w', w'.ownsRow w.heap.size e size v' (n + m) (olds ++ news) → w.grownBy w' none → K (a.put o.dst v') w') : o.wp P a w K Q := by
  by_cases hr : n + m ≤ cap
  · subst h4
    have hrun := run_append_room_cells (P := P) w t o.type e i h1 h2 b off n cap ad m c news hn hc h1c hr (fun j hj => (hspare hr j hj).1) (fun j hj => (hspare hr j hj).2)
    unfold Oper.wp
    simp [execOp, hop, resolve, invoke, builtin, hs, hx, hrun, Result.andThen]
    exact hroom hr
  · obtain ⟨v', w', hrun, r1, r2⟩ := run_append_arg_grows (P := P) w t o.type e i z size bytes h1 h2 h3 h4 h5 h6 h7 ⟨b, off, none⟩ n cap olds hlo (fun j u hj => by rw [Addr.add_lit]; exact holds j u hj) ad m c news hn hc (by omega) b1 b2
    unfold Oper.wp
    simp [execOp, hop, resolve, invoke, builtin, hs, hx, hrun, Result.andThen]
    exact hgrow (by omega) v' w' r1 r2
end
end Go.Proofs.YtmnkekepccdlcaaGreatDoor
