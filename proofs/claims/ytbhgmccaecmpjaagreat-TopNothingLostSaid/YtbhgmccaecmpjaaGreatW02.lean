/-
  Regions whose order Go leaves open, met once in the order of the text, where operations only read old memory and calls only make new memory.
  Conditions: none; over any program.
-/
import Derived.WalkKit
import Derived.Deep.QuietTactic
import Derived.BigQuiet
import Derived.StillTail
import Derived.Lib.Hide
import Derived.Laws.Rows
import Derived.Deep.DeepCutAuto
import Derived.Deep.DeepMust
import Derived.Deep.LoopGhost
import Derived.RegionTactic
import Derived.BigRegion
import Derived.OwnWalk
import Derived.Laws.IdiomStrings
import Derived.Laws.BytesArg
namespace Go.Proofs.YtbhgmccaecmpjaaGreat
set_option linter.unusedVariables false
set_option linter.unusedSimpArgs false
open Go.RowKit

/-- Two steps, each of which leaves alone what it found. -/
theorem _root_.Go.RowKit.Below.up {B : Nat} {W w1 w2 : World} (h : Below B W w1) (k : Below w1.heap.size w1 w2) (hB : B ≤ W.heap.size := by first | exact Nat.le_refl _ | (simp; done) | (simp <;> omega)) : Below B W w2 :=
  h.trans (k.mono (Nat.le_trans hB h.size))

section
variable {P : Program}

/-- A world that lies behind w: below block B all is as it was. -/
structure Later (B : Nat) (w : World) where
  world : World
  below : Below B w world

instance laterNonempty {B : Nat} {w : World} : Nonempty (Later B w) := ⟨⟨w, Below.refl B w⟩⟩

theorem block_lt {w : World} {a : Addr} {v : Value} (h : w.cell? a = some v) : a.block < w.heap.size := by
  rcases Nat.lt_or_ge a.block w.heap.size with hlt | hge
  · exact hlt
  · unfold World.cell? at h; rw [Array.getElem?_eq_none hge] at h; simp at h
theorem wp_region_later {id : Nat} {Q : Exit → Act → World → Prop} {a : Act} {w : World} {l : List Oper} (B : Nat) (hm : P.follows .mixedOrders = true) (hB : Region.lexB .any l.toArray = true)
    (h : wpQuiet P l.toArray (fun w' => ∃ u : Later B w, w' = u.world) (fun a' => ∀ w', Below B w w' → Q .normal a' w') l a) : (Code.region id l.toArray true).wp P Q a w := by
  refine wp_region_quiet (C := fun w' => ∃ u : Later B w, w' = u.world) hm hB ⟨⟨w.drew, (Below.refl B w).drew⟩, rfl⟩ ?_
  have e : (fun a' => ∀ w', (∃ u : Later B w, w' = u.world) → Q .normal a' w') = (fun a' => ∀ w', Below B w w' → Q .normal a' w') := by
    funext a'
    exact propext ⟨fun H w' hb => H w' ⟨⟨w', hb⟩, rfl⟩, fun H w' ⟨u, hu⟩ => by subst hu; exact H _ u.below⟩
  rw [e]
  simpa using h

theorem later_same {B : Nat} {w : World} {u : Later B w} {f : FuncId} {args : Array Value} {v : Value}
    (h : Calls P f args u.world fun e w' => e = .returned v ∧ u.world = w') : Calls P f args u.world fun e w'' => e = .returned v ∧ ∃ u' : Later B w, w'' = u'.world :=
  h.mono fun _ _ ⟨he, hw⟩ => ⟨he, u, hw.symm⟩
theorem later_below {B : Nat} {w : World} {u : Later B w} {f : FuncId} {args : Array Value} {v : Value} (hB : B ≤ w.heap.size)
    (h : Calls P f args u.world fun e w' => e = .returned v ∧ Below u.world.heap.size u.world w') : Calls P f args u.world fun e w'' => e = .returned v ∧ ∃ u' : Later B w, w'' = u'.world :=
  h.mono fun _ w' ⟨he, hb⟩ => ⟨he, ⟨w', u.below.trans (hb.mono (Nat.le_trans hB u.below.size))⟩, rfl⟩

theorem quiet_left {f : FuncId} {args : Array Value} {w : World} {n : Nat} {v : Value}
    (h : Calls P f args (w.drewN n) fun e w' => e = .returned v ∧ w.drewN n = w') : Calls P f args (w.drewN n) fun e w'' => e = .returned v ∧ ∃ m, w'' = w.drewN m :=
  h.mono fun _ _ ⟨he, hm⟩ => ⟨he, n, hm.symm⟩
theorem below_drewN {B : Nat} {a w : World} (h : Below B a w) (n : Nat) : Below B a (w.drewN n) := ⟨h.os, h.tape, h.output, h.size, h.block⟩
end

/-! A region whose first n operations are quiet in a class of worlds, in whatever order, and whose last ones come one behind the other. -/
section
variable {P : Program} {ops : Array Oper} {md : Region.Mode} {C : World → Prop}

def headQ (P : Program) (md : Region.Mode) (ops : Array Oper) (C : World → Prop) (n : Nat) (L : Array Bool → Act → Prop) : Nat → Array Bool → Act → Prop
  | 0, listed, a => L listed a
  | f + 1, listed, a =>
    Region.ready md ops listed ≠ [] ∧ ∀ i ∈ Region.ready md ops listed, i < n ∧ qOp P ops C i (headQ P md ops C n L f (listed.setIfInBounds i true)) a

theorem wpAny_of_headQ {n g : Nat} {L : Array Bool → Act → Prop} {Q' : Exit → Act → World → Prop} (hL : ∀ listed a w, C w → L listed a → wpAny P md ops Q' g listed a w) :
    ∀ (f : Nat) (listed : Array Bool) (a : Act) (w : World), C w → headQ P md ops C n L f listed a → wpAny P md ops Q' (f + g) listed a w
  | 0, listed, a, w, hw, h => by rw [Nat.zero_add]; exact hL _ _ _ hw h
  | f + 1, listed, a, w, hw, h => by
    rw [show f + 1 + g = (f + g) + 1 by omega]
    exact ⟨fun h0 => absurd h0 h.1, fun i hi => wpOp_of_qOp hw (fun a' w' hw' h' => wpAny_of_headQ hL f _ a' w' hw' h') (h.2 i hi).2⟩

theorem headQ_first {n i : Nat} {oi : Oper} {v : Value} {L : Array Bool → Act → Prop} (hi : ops[i]? = some oi) (hsel : ∀ (j : Nat) (o : Oper) cs b, ops[j]? = some o → o.op ≠ .select cs b)
    (hs : Region.sinkB md ops n = true) (hc : Region.chainB md ops n = true) (hn : n < ops.size) (hin : i < n)
    (hdone : ∀ listed a, L listed a → ∀ j ∈ Region.ready md ops listed, n ≤ j) (f : Nat) :
    ∀ (listed : Array Bool) (a : Act), HeadInv md ops n listed →
      (∀ j oj, ops[j]? = some oj → j ≠ i → listed.getD j true = false → (∀ e ∈ oj.after, Region.binds md e = true → e.on ≠ i) → oi.apart ops oj = true) →
      i ∈ Region.ready md ops listed → YieldsIn P ops C oi v a →
      headQ P md ops C n L f (listed.setIfInBounds i true) (a.put oi.dst v) → headQ P md ops C n L (f + 1) listed a := by
  induction f with
  | zero =>
    intro listed a inv _ hr hy H
    refine ⟨fun h => (by rw [h] at hr; cases hr), fun j hj => ?_⟩
    have hjn : j < n := (Nat.lt_or_ge j n).elim id fun h => absurd hj (tail_waits hs hc hn inv _ i rfl hin (mem_ready.1 hr).1 j h)
    refine ⟨hjn, ?_⟩
    by_cases hji : j = i
    · subst hji; exact hy.qOp hi H
    · have := hdone _ _ H j (ready_mono hj hji)
      omega
  | succ f ih =>
    intro listed a inv hfree hr hy H
    have hun := (mem_ready.1 hr).1
    refine ⟨fun h => (by rw [h] at hr; cases hr), fun j hj => ?_⟩
    have hjn : j < n := (Nat.lt_or_ge j n).elim id fun h => absurd hj (tail_waits hs hc hn inv _ i rfl hin hun j h)
    refine ⟨hjn, ?_⟩
    by_cases hji : j = i
    · subst hji; exact hy.qOp hi H
    · obtain ⟨hjun, oj, hoj, hall⟩ := mem_ready.1 hj
      have hnot : ∀ e ∈ oj.after, Region.binds md e = true → e.on ≠ i := fun e he hb heq => by
        have h1 := hall e he hb
        rw [heq, getD_both hun] at h1
        cases h1
      have h2 := qOp_put hoj (hfree j oj hoj hji hjun hnot) (fun cs b => hsel i oi cs b hi) (fun cs b => hsel j oj cs b hoj) hy (H.2 j (ready_mono hj hji)).2
      refine qOp_mono (fun a' h3 => ih (listed.setIfInBounds j true) a' (inv.set hj hjn) (fun k ok hk hki hun' hno => hfree k ok hk hki ?_ hno) (ready_mono hr (Ne.symm hji)) h3.1 ?_) h2
      · by_cases hjk : j = k
        · subst hjk; exact hjun
        · rw [getD_set_ne true hjk] at hun'; exact hun'
      · rw [Array.setIfInBounds_comm _ _ hji]
        exact h3.2

theorem headQ_lex {n g : Nat} {Lq : Act → Prop} (hsel : Region.noSelect ops = true) (hs : Region.sinkB md ops n = true) (hc : Region.chainB md ops n = true) (hn : n < ops.size) :
    ∀ (l : List Oper) (k : Nat) (listed : Array Bool) (a : Act), (∀ j, j < l.length → l[j]? = ops[k + j]?) → k + l.length = n → HeadInv md ops n listed →
    Region.lexHead md ops g l.length k listed = true → wpQuiet P ops C Lq l a →
    headQ P md ops C n (fun listed' a' => Region.seqB md ops g n listed' = true ∧ Lq a') l.length listed a
  | [], k, listed, a, _, hk, _, hB, h => by
    obtain rfl : k = n := by simpa using hk
    exact ⟨by simpa [Region.lexHead] using hB, h⟩
  | o :: l, k, listed, a, hl, hk, inv, hB, h => by
    have h0 : ops[k]? = some o := by simpa using (hl 0 (by simp)).symm
    simp only [List.length_cons, Region.lexHead, Bool.and_eq_true] at hB
    have hkn : k < n := by simp only [List.length_cons] at hk; omega
    have hr' : k ∈ Region.ready md ops listed := by simpa using hB.1.1
    have hst : qOp P ops C k (wpQuiet P ops C Lq l) a := by unfold qOp; simp only [h0]; exact h
    obtain ⟨v, hy, hK⟩ := yieldsIn_of_qOp h0 hst
    exact headQ_first h0 (Region.noSelect_spec hsel) hs hc hn hkn (fun listed' a' hL => seqB_ready hL.1) l.length listed a inv (Region.free_spec h0 hB.1.2) hr' hy
      (headQ_lex hsel hs hc hn l (k + 1) _ _ (fun j hj => by have := hl (j + 1) (by simp; omega); simpa [Nat.add_assoc, Nat.add_comm 1 j] using this) (by simp only [List.length_cons] at hk; omega) (inv.set hr' hkn) hB.2 hK)

theorem wp_region_quiet_tail {id : Nat} {Q : Exit → Act → World → Prop} {a : Act} {w : World} {l : List Oper} (n : Nat) (hm : P.follows .mixedOrders = true) (hB : Region.lexTailB .any l.toArray n = true) (hC : C { w with drawn := w.drawn + 1 })
    (h : wpQuiet P l.toArray C (fun a' => ∀ w', C w' → wpList P l.toArray Q (l.drop n) a' w') (l.take n) a) : (Code.region id l.toArray true).wp P Q a w := by
  simp only [Region.lexTailB, Bool.and_eq_true, decide_eq_true_eq] at hB
  obtain ⟨⟨⟨⟨hsel, hn⟩, hs⟩, hc⟩, hlex⟩ := hB
  have hn' : n < l.length := by simpa using hn
  have htl : (l.take n).length = n := by simp; omega
  have hdl : (l.drop n).length = l.toArray.size - n := by simp
  have inv0 : HeadInv .any l.toArray n (Array.replicate l.toArray.size false) :=
    ⟨by simp, fun j oj _ hl => (by rw [getD_replicate_false] at hl; cases hl), fun t _ ht => getD_in (by simpa using ht) (getD_replicate_false _ _)⟩
  have H := headQ_lex (md := .any) (g := l.toArray.size - n) hsel hs hc hn (l.take n) 0 _ a (fun j hj => by
    have hj' : j < n := by rw [htl] at hj; exact hj
    simp [hj']) (by simpa using htl) inv0 (by rw [htl]; exact hlex) h
  refine wp_region_any hm ?_
  have := wpAny_of_headQ (Q' := Q) (g := l.toArray.size - n) (fun listed a' w' hw' hL => by
    have := wpAny_of_seq (md := .any) (Q' := Q) (l.drop n) n listed a' w' (fun j => by simp [List.getElem?_drop]) (by rw [hdl]; exact hL.1) (hL.2 w' hw')
    rwa [hdl] at this) _ _ _ _ hC H
  rw [htl, show n + (l.toArray.size - n) = l.toArray.size by omega] at this
  exact this

theorem wp_region_later_tail {id : Nat} {Q : Exit → Act → World → Prop} {a : Act} {w : World} {l : List Oper} (B n : Nat) (hm : P.follows .mixedOrders = true) (hB : Region.lexTailB .any l.toArray n = true)
    (h : wpQuiet P l.toArray (fun w' => ∃ u : Later B w, w' = u.world) (fun a' => ∀ w', Below B w w' → wpList P l.toArray Q (l.drop n) a' w') (l.take n) a) : (Code.region id l.toArray true).wp P Q a w := by
  refine wp_region_quiet_tail (C := fun w' => ∃ u : Later B w, w' = u.world) n hm hB ⟨⟨w.drew, (Below.refl B w).drew⟩, rfl⟩ ?_
  have e : (fun a' => ∀ w', (∃ u : Later B w, w' = u.world) → wpList P l.toArray Q (l.drop n) a' w') = (fun a' => ∀ w', Below B w w' → wpList P l.toArray Q (l.drop n) a' w') := by
    funext a'
    exact propext ⟨fun H w' hb => H w' ⟨⟨w', hb⟩, rfl⟩, fun H w' ⟨u, hu⟩ => by subst hu; exact H _ u.below⟩
  rw [e]
  exact h
end
end Go.Proofs.YtbhgmccaecmpjaaGreat

namespace Go.Proofs.YtbhgmccaecmpjaaGreat
set_option linter.unusedVariables false
set_option linter.unusedSimpArgs false
open Go.RowKit

def Blk (w : World) (g : Nat) (t : TypeId) (cs : Array Value) : Prop := w.heap[g]? = some (.cells cs t (0, 0))

section
variable {w w' : World} {g : Nat} {t : TypeId} {cs : Array Value}
theorem Blk.lt (h : Blk w g t cs) : g < w.heap.size := by
  rcases Nat.lt_or_ge g w.heap.size with hlt | hge
  · exact hlt
  · unfold Blk at h; rw [Array.getElem?_eq_none hge] at h; cases h
theorem Blk.cell (h : Blk w g t cs) (i : Nat) : w.cell? ⟨g, i, none⟩ = cs[i]? := cell_of_row w g i cs t (0, 0) h
theorem Blk.frozen (h : Blk w g t cs) (i : Nat) : w.frozen? ⟨g, i, none⟩ = false := by
  unfold Blk at h
  simp [World.frozen?, h]
theorem Blk.new (w : World) (t : TypeId) (cs : Array Value) : Blk (w.alloc (.cells cs t)) w.heap.size t cs := heap_alloc_new w _
theorem Blk.drew (h : Blk w g t cs) : Blk w.drew g t cs := h
theorem Blk.drewN (h : Blk w g t cs) (n : Nat) : Blk (w.drewN n) g t cs := h
theorem Blk.alloc (h : Blk w g t cs) (o : Obj) : Blk (w.alloc o) g t cs := (Below.heap_alloc w o g h.lt).trans h
theorem Blk.set_ (h : Blk w g t cs) (i : Nat) (u : Value) : Blk (w.setCell ⟨g, i, none⟩ u) g t (cs.setIfInBounds i u) := by
  unfold Blk at h ⊢
  simp [World.setCell, Array.getElem?_modify, h]
theorem Blk.far (h : Blk w g t cs) {p : Addr} (hp : g ≠ p.block) (u : Value) : Blk (w.setCell p u) g t cs := (Below.heap_setCell w p u g hp).trans h
theorem Blk.below {B : Nat} (h : Blk w g t cs) (hb : Below B w w') (hg : g < B) : Blk w' g t cs := (hb.block g hg).trans h
theorem Blk.later (h : Blk w g t cs) (hb : Below w.heap.size w w') : Blk w' g t cs := h.below hb h.lt
theorem Blk.grown {row : Option Nat} (h : Blk w g t cs) (hb : w.grownBy w' row) (hg : some g ≠ row) : Blk w' g t cs := (hb.block g h.lt hg).trans h
/-- What the walk asks of a cell, in every later world. -/
theorem Blk.at_ (h : Blk w g t cs) (i : Nat) {v : Value} (hv : cs[i]? = some v) : ∀ w', Below w.heap.size w w' → w'.cell? ⟨g, i, none⟩ = some v := fun _ hb => ((h.later hb).cell i).trans hv
theorem Blk.free (h : Blk w g t cs) : ∀ i w', Below w.heap.size w w' → w'.frozen? ⟨g, i, none⟩ = false := fun i _ hb => (h.later hb).frozen i
theorem Blk.at2 {x0 x1 : Value} (h : Blk w g t #[x0, x1]) : ∀ w', Below w.heap.size w w' → w'.cell? ⟨g, 0, none⟩ = some x0 ∧ w'.cell? ⟨g, 1, none⟩ = some x1 ∧ ∀ i, w'.frozen? ⟨g, i, none⟩ = false := fun w' hb => ⟨h.at_ 0 rfl w' hb, h.at_ 1 rfl w' hb, fun i => h.free i w' hb⟩
theorem Blk.at3 {x0 x1 x2 : Value} (h : Blk w g t #[x0, x1, x2]) : ∀ w', Below w.heap.size w w' → w'.cell? ⟨g, 0, none⟩ = some x0 ∧ w'.cell? ⟨g, 1, none⟩ = some x1 ∧ w'.cell? ⟨g, 2, none⟩ = some x2 ∧ ∀ i, w'.frozen? ⟨g, i, none⟩ = false := fun w' hb => ⟨h.at_ 0 rfl w' hb, h.at_ 1 rfl w' hb, h.at_ 2 rfl w' hb, fun i => h.free i w' hb⟩
theorem Blk.at4 {x0 x1 x2 x3 : Value} (h : Blk w g t #[x0, x1, x2, x3]) : ∀ w', Below w.heap.size w w' → w'.cell? ⟨g, 0, none⟩ = some x0 ∧ w'.cell? ⟨g, 1, none⟩ = some x1 ∧ w'.cell? ⟨g, 2, none⟩ = some x2 ∧ w'.cell? ⟨g, 3, none⟩ = some x3 ∧ ∀ i, w'.frozen? ⟨g, i, none⟩ = false := fun w' hb => ⟨h.at_ 0 rfl w' hb, h.at_ 1 rfl w' hb, h.at_ 2 rfl w' hb, h.at_ 3 rfl w' hb, fun i => h.free i w' hb⟩
theorem Blk.at5 {x0 x1 x2 x3 x4 : Value} (h : Blk w g t #[x0, x1, x2, x3, x4]) : ∀ w', Below w.heap.size w w' → w'.cell? ⟨g, 0, none⟩ = some x0 ∧ w'.cell? ⟨g, 1, none⟩ = some x1 ∧ w'.cell? ⟨g, 2, none⟩ = some x2 ∧ w'.cell? ⟨g, 3, none⟩ = some x3 ∧ w'.cell? ⟨g, 4, none⟩ = some x4 ∧ ∀ i, w'.frozen? ⟨g, i, none⟩ = false := fun w' hb => ⟨h.at_ 0 rfl w' hb, h.at_ 1 rfl w' hb, h.at_ 2 rfl w' hb, h.at_ 3 rfl w' hb, h.at_ 4 rfl w' hb, fun i => h.free i w' hb⟩
theorem Blk.at6 {x0 x1 x2 x3 x4 x5 : Value} (h : Blk w g t #[x0, x1, x2, x3, x4, x5]) : ∀ w', Below w.heap.size w w' → w'.cell? ⟨g, 0, none⟩ = some x0 ∧ w'.cell? ⟨g, 1, none⟩ = some x1 ∧ w'.cell? ⟨g, 2, none⟩ = some x2 ∧ w'.cell? ⟨g, 3, none⟩ = some x3 ∧ w'.cell? ⟨g, 4, none⟩ = some x4 ∧ w'.cell? ⟨g, 5, none⟩ = some x5 ∧ ∀ i, w'.frozen? ⟨g, i, none⟩ = false := fun w' hb => ⟨h.at_ 0 rfl w' hb, h.at_ 1 rfl w' hb, h.at_ 2 rfl w' hb, h.at_ 3 rfl w' hb, h.at_ 4 rfl w' hb, h.at_ 5 rfl w' hb, fun i => h.free i w' hb⟩
theorem Blk.at7 {x0 x1 x2 x3 x4 x5 x6 : Value} (h : Blk w g t #[x0, x1, x2, x3, x4, x5, x6]) : ∀ w', Below w.heap.size w w' → w'.cell? ⟨g, 0, none⟩ = some x0 ∧ w'.cell? ⟨g, 1, none⟩ = some x1 ∧ w'.cell? ⟨g, 2, none⟩ = some x2 ∧ w'.cell? ⟨g, 3, none⟩ = some x3 ∧ w'.cell? ⟨g, 4, none⟩ = some x4 ∧ w'.cell? ⟨g, 5, none⟩ = some x5 ∧ w'.cell? ⟨g, 6, none⟩ = some x6 ∧ ∀ i, w'.frozen? ⟨g, i, none⟩ = false := fun w' hb => ⟨h.at_ 0 rfl w' hb, h.at_ 1 rfl w' hb, h.at_ 2 rfl w' hb, h.at_ 3 rfl w' hb, h.at_ 4 rfl w' hb, h.at_ 5 rfl w' hb, h.at_ 6 rfl w' hb, fun i => h.free i w' hb⟩
end
end Go.Proofs.YtbhgmccaecmpjaaGreat

namespace Go.Proofs.YtbhgmccaecmpjaaGreat
set_option linter.unusedVariables false
set_option linter.unusedSimpArgs false
open Go.RowKit

/-- A byte's cell. -/
abbrev bval (c : UInt8) : Value := .int .u8 (c.toNat : Int)
/-- Some bytes, owned by the call: a row from block B on. -/
def OB (e : TypeId) (B : Nat) (w : World) (v : Value) (l : List UInt8) : Prop := w.ownsRow B e 1 v l.length (l.map bval)

section
variable {P : Program} {e : TypeId} {B : Nat} {w w' : World} {v : Value} {l : List UInt8}
theorem OB.form (h : OB e B w v l) : ∃ ao cap, v = .slice ao l.length cap ∧ l.length ≤ maxLen := by
  rcases h.2 with ⟨rfl, h0⟩ | ⟨g, cap, cur, rfl, _, _, h1, h2, _⟩
  · exact ⟨none, 0, by rw [h0], by rw [h0]; exact Nat.zero_le _⟩
  · exact ⟨_, _, rfl, Nat.le_trans h1 h2⟩
theorem OB.nil (e : TypeId) (B : Nat) (w : World) : OB e B w (.slice none 0 0) [] := World.ownsRow_nil _ _ _ _
theorem OB.empty (hB : B ≤ w.heap.size) : OB e B (w.alloc (.cells #[] e)) (.slice (some ⟨w.heap.size, 0, none⟩) 0 0) [] :=
  World.ownsRow_made (size := 1) w #[] 0 hB (Nat.zero_le _) rfl
theorem OB.alloc (h : OB e B w v l) (o : Obj) : OB e B (w.alloc o) v l := World.ownsRow.alloc h o
theorem OB.drew (h : OB e B w v l) : OB e B w.drew v l := h
theorem OB.later (h : OB e B w v l) (hb : Below w.heap.size w w') : OB e B w' v l := by
  refine ⟨h.1, ?_⟩
  rcases h.2 with hn | ⟨g, cap, cur, rfl, h1, hg, rest⟩
  · exact .inl hn
  · exact .inr ⟨g, cap, cur, rfl, h1, (hb.block g (Array.getElem?_eq_some_iff.1 hg).1).trans hg, rest⟩
theorem OB.lt (h : OB e B w v l) : ∀ k, v.ownBlock = some k → B ≤ k ∧ k < w.heap.size := World.ownsRow.lt h
theorem OB.below {w0 : World} (h : OB e B w v l) (hb : Below B w0 w) (hg : w.grownBy w' v.ownBlock) (hB : B ≤ w0.heap.size) : Below B w0 w' :=
  hb.grown hg (Nat.le_trans hB hb.size) (fun k hk => (h.lt k hk).1)

/-- Where the bytes lie. -/
theorem OB.cell {ao : Option Addr} {n cap : Nat} (h : OB e B w (.slice ao n cap) l) (i : Nat) (hi : i < l.length) : ∃ g, ao = some ⟨g, 0, none⟩ ∧ w.cell? ⟨g, i, none⟩ = some (bval l[i]) := by
  rcases h.2 with ⟨_, h0⟩ | ⟨g, cap', cur, hv, _, hg, _, _, _, ht⟩
  · omega
  · cases hv
    refine ⟨g, rfl, ?_⟩
    rw [cell_of_row w g i cur _ _ hg]
    have h5 : (cur.toList.take (l.length * 1))[i]? = some (bval l[i]) := by
      rw [ht, List.getElem?_map, List.getElem?_eq_getElem hi]; rfl
    rw [List.getElem?_take_of_lt (by omega)] at h5
    simpa using h5

/-- The bytes as a text, in every later world. -/
theorem OB.text {t dst : TypeId} {ao : Option Addr} {n cap : Nat} (h : OB e B w (.slice ao n cap) l) (hs : P.underlying t = some (.slice e)) (he : P.underlying e = some (.int .u8)) (hd : P.underlying dst = some .string) :
    ∀ w', Below w.heap.size w w' → (convert t dst (.slice ao n cap)).run P w' = .ok (.string ⟨l.toArray⟩) w' := by
  intro w' hb
  have h' := h.later hb
  rcases h'.2 with ⟨hv, h0⟩ | ⟨g, cap', cur, hv, _, hg, _, _, _, _⟩
  · cases hv
    obtain rfl := List.eq_nil_of_length_eq_zero h0
    rw [run_convert_bytes_string w' t dst e none 0 0 hs he hd]
    rfl
  · cases hv
    refine run_convert_bytes_back w' t dst e _ _ l hs he hd (fun j hj => ?_)
    obtain ⟨g', hg', hc⟩ := h'.cell j hj
    cases hg'
    rw [Addr.add_lit, Nat.zero_add]
    exact hc

end
abbrev bt (l : List UInt8) : ByteArray := ⟨l.toArray⟩
theorem ne_b {n m : Int} (h : ¬ n = m) : (n == m) = false := beq_eq_false_iff_ne.2 h
end Go.Proofs.YtbhgmccaecmpjaaGreat

namespace Go.Proofs.YtbhgmccaecmpjaaGreat
set_option linter.unusedVariables false
set_option linter.unusedSimpArgs false
open Go.RowKit

/-- n elements of k cells each, owned by the call: a row from block B on. -/
abbrev ORow (e : TypeId) (k B : Nat) (w : World) (v : Value) (n : Nat) (xs : List Value) : Prop := w.ownsRow B e k v n xs

section
variable {P : Program} {e : TypeId} {k B : Nat} {w w' : World} {v : Value} {n : Nat} {xs : List Value}
theorem orow_form (h : ORow e k B w v n xs) : ∃ ao cap, v = .slice ao n cap ∧ n ≤ maxLen := by
  rcases h.2 with ⟨rfl, h0⟩ | ⟨g, cap, cur, rfl, _, _, h1, h2, _⟩
  · exact ⟨none, 0, by rw [h0], by rw [h0]; exact Nat.zero_le _⟩
  · exact ⟨_, _, rfl, Nat.le_trans h1 h2⟩
theorem orow_later (h : ORow e k B w v n xs) (hb : Below w.heap.size w w') : ORow e k B w' v n xs := by
  refine ⟨h.1, ?_⟩
  rcases h.2 with hn | ⟨g, cap, cur, rfl, h1, hg, rest⟩
  · exact .inl hn
  · exact .inr ⟨g, cap, cur, rfl, h1, (hb.block g (Array.getElem?_eq_some_iff.1 hg).1).trans hg, rest⟩
theorem orow_lower {B' : Nat} (h : ORow e k B w v n xs) (hB : B' ≤ B) : ORow e k B' w v n xs := by
  refine ⟨h.1, ?_⟩
  rcases h.2 with hn | ⟨g, cap, cur, rfl, h1, rest⟩
  · exact .inl hn
  · exact .inr ⟨g, cap, cur, rfl, Nat.le_trans hB h1, rest⟩
theorem orow_below {w0 : World} (h : ORow e k B w v n xs) (hb : Below B w0 w) (hg : w.grownBy w' v.ownBlock) (hB : B ≤ w0.heap.size) : Below B w0 w' :=
  hb.grown hg (Nat.le_trans hB hb.size) (fun j hj => (World.ownsRow.lt h j hj).1)
/-- Where a cell lies. -/
theorem orow_cell {ao : Option Addr} {m cap : Nat} (h : ORow e k B w (.slice ao m cap) n xs) (i : Nat) (hi : i < xs.length) :
    ∃ g, ao = some ⟨g, 0, none⟩ ∧ g < w.heap.size ∧ ∀ w', Below w.heap.size w w' → w'.cell? ⟨g, i, none⟩ = xs[i]? := by
  have hx := h.1
  rcases h.2 with ⟨_, h0⟩ | ⟨g, cap', cur, hv, _, hg, _, _, _, ht⟩
  · rw [h0, Nat.zero_mul] at hx
    omega
  · cases hv
    refine ⟨g, rfl, (Array.getElem?_eq_some_iff.1 hg).1, fun w' hb => ?_⟩
    have hg' := (hb.block g (Array.getElem?_eq_some_iff.1 hg).1).trans hg
    rw [cell_of_row w' g i cur _ _ hg', ← ht, List.getElem?_take_of_lt (by omega)]
    simp

theorem wpList_append_elem {te : TypeId} {z : Value} {bytes : Nat} (infoE : (P.info? e).map (fun i => (i.zero, i.size, i.bytes)) = some (some z, k, bytes)) (hz : z.cells.size = k) (hk : 0 < k) (hby : bytes ≤ 1000) (hte : P.underlying te = some (.slice e)) (w : World) {ops : Array Oper} {rest : List Oper} {o : Oper} {a : Act} {Q : Exit → Act → World → Prop}
    (hg : o.guard = none) (s x : Operand) (hop : o.op = Op.call { callee := Callee.builtin Builtin.append, args := #[s, x], argTypes := #[te, te] }) (B : Nat) (v : Value) (n : Nat) (xs : List Value) (hs : a.eval s = v) (h : ORow e k B w v n xs)
    (q : Nat) (hx : a.eval x = .slice (some ⟨q, 0, none⟩) 1 1) (news : List Value) (hl : news.length = k) (hq : ∀ j u, news[j]? = some u → w.cell? ⟨q, j, none⟩ = some u) (h1 : ∀ u ∈ news, u.oneCell' = true) (hm : n ≤ 1000000) (hB : B ≤ w.heap.size)
    (hK : ∀ ao cap w', ORow e k B w' (.slice ao (n + 1) cap) (n + 1) (xs ++ news) → w.grownBy w' v.ownBlock → wpList P ops Q rest (a.put o.dst (.slice ao (n + 1) cap)) w') : wpList P ops Q (o :: rest) a w := by
  obtain ⟨i0, hi, hz0, hz1, hz2⟩ := info_parts infoE
  have hbb : (n + 1) * bytes ≤ 1000001 * 1000 := Nat.mul_le_mul (by omega) hby
  refine wpList_append_own w hg s x te hop B e i0 z k bytes hte hi hz0 hz1 hz2 hz hk v n xs hs h ⟨q, 0, none⟩ 1 1 news hx (by omega) ?_ h1 (by unfold maxLen; omega) (by omega) hB ?_
  · intro j u hj
    rw [Addr.add_lit, Nat.zero_add]
    exact hq j u hj
  · intro v' w' h1 h2 _
    obtain ⟨ao, cap, rfl, _⟩ := orow_form h1
    exact hK ao cap w' h1 h2
end
end Go.Proofs.YtbhgmccaecmpjaaGreat
