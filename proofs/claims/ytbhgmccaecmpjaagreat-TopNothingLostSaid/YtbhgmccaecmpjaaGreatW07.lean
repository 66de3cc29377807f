/-
  A region whose order Go leaves open, with operations that make new things (variables, slices, what a call makes): in whatever order its first operations come, they leave what the order of the text leaves, but for where the new things lie.
  Conditions: none; over any program.
-/
import Derived.Test.YtbhgmccaecmpjaaGreatW06
import Derived.Deep.RegionHeld
namespace Go.Proofs.YtbhgmccaecmpjaaGreat
set_option linter.unusedVariables false
set_option linter.unusedSimpArgs false
open Go.RowKit

section
variable {P : Program} {ops : Array Oper} {md : Region.Mode} {B : Nat} {w0 : World}

/-- What is known of a thing that is made: its value, from and to which block it lies, in any later world. -/
abbrev MkP := Value → Nat → Nat → World → Prop
/-- .. and goes on to hold. -/
def MkP.stays (ψ : MkP) : Prop := ∀ v lo hi w w', Below w.heap.size w w' → hi ≤ w.heap.size → ψ v lo hi w → ψ v lo hi w'
variable {Ψ : Nat → Option MkP}

/-- An operation gives a value and a world, as it is said. -/
def yieldsV (P : Program) (R : Value → World → Prop) : Result Next → Prop
  | .ok (.value v) w' => R v w'
  | .ok (.enter f args) w' => Calls P f args w' fun e w'' => ∃ v, e = .returned v ∧ R v w''
  | _ => False
def mkAt (P : Program) (o : Oper) (a : Act) (B : Nat) (w0 : World) (ψ : MkP) : Prop :=
  ∀ u : Later B w0, yieldsV P (fun v u' => Below u.world.heap.size u.world u' ∧ ψ v u.world.heap.size u'.heap.size u') ((execOp a.eval o).run P u.world)

def mkOp (P : Program) (ops : Array Oper) (Ψ : Nat → Option MkP) (B : Nat) (w0 : World) (i : Nat) (o : Oper) (K : Act → Prop) (a : Act) : Prop :=
  match Ψ i with
  | some ψ => (Region.wanted o (yielded ops a.tmps) = true ∧ mkAt P o a B w0 ψ) ∧ K a
  | none => if Region.wanted o (yielded ops a.tmps) = true then ∃ v, calmAt P o a B w0 v ∧ K (a.put o.dst v) else K (a.put o.dst undef)
theorem mkOp_some {i : Nat} {ψ : MkP} (h : Ψ i = some ψ) (o : Oper) (K : Act → Prop) (a : Act) : mkOp P ops Ψ B w0 i o K a = ((Region.wanted o (yielded ops a.tmps) = true ∧ mkAt P o a B w0 ψ) ∧ K a) := by unfold mkOp; rw [h]
theorem mkOp_none {i : Nat} (h : Ψ i = none) (o : Oper) (K : Act → Prop) (a : Act) : mkOp P ops Ψ B w0 i o K a = (if Region.wanted o (yielded ops a.tmps) = true then ∃ v, calmAt P o a B w0 v ∧ K (a.put o.dst v) else K (a.put o.dst undef)) := by unfold mkOp; rw [h]

def wpMk (P : Program) (ops : Array Oper) (Ψ : Nat → Option MkP) (B : Nat) (w0 : World) (Q : Act → Prop) : Nat → List Oper → Act → Prop
  | _, [], a => Q a
  | i, o :: rest, a => mkOp P ops Ψ B w0 i o (wpMk P ops Ψ B w0 Q (i + 1) rest) a

theorem wpMk_nil {Q : Act → Prop} {a : Act} {i : Nat} (h : Q a) : wpMk P ops Ψ B w0 Q i [] a := h
theorem wpMk_calm {Q : Act → Prop} {a : Act} {o : Oper} {rest : List Oper} {i : Nat} (hi : Ψ i = none)
    (h : ∀ K : Act → Prop, Shut (∀ a, wpMk P ops Ψ B w0 Q (i + 1) rest a → K a) → (if Region.wanted o (yielded ops a.tmps) = true then ∃ v, calmAt P o a B w0 v ∧ K (a.put o.dst v) else K (a.put o.dst undef))) : wpMk P ops Ψ B w0 Q i (o :: rest) a := by
  show mkOp P ops Ψ B w0 i o _ a
  rw [mkOp_none hi]
  exact h _ (fun _ h => h)
theorem wpMk_make {Q : Act → Prop} {a : Act} {o : Oper} {rest : List Oper} {i : Nat} {ψ : MkP} (hi : Ψ i = some ψ) (hw : Region.wanted o (yielded ops a.tmps) = true) (h : ∀ u : Later B w0, yieldsV P (fun v u' => Below u.world.heap.size u.world u' ∧ ψ v u.world.heap.size u'.heap.size u') ((execOp a.eval o).run P u.world)) (h2 : wpMk P ops Ψ B w0 Q (i + 1) rest a) : wpMk P ops Ψ B w0 Q i (o :: rest) a := by
  show mkOp P ops Ψ B w0 i o _ a
  rw [mkOp_some hi]
  exact ⟨⟨hw, h⟩, h2⟩

theorem mkOp_mono {i : Nat} {o : Oper} {a : Act} {K K' : Act → Prop} (h : ∀ a, K a → K' a) (hh : mkOp P ops Ψ B w0 i o K a) : mkOp P ops Ψ B w0 i o K' a := by
  unfold mkOp at *
  split
  · rename_i ψ hψ; rw [hψ] at hh; exact ⟨hh.1, h _ hh.2⟩
  · rename_i hψ
    rw [hψ] at hh
    simp only at hh
    split
    · rename_i h2; rw [if_pos h2] at hh; obtain ⟨v, hv, hk⟩ := hh; exact ⟨v, hv, h _ hk⟩
    · rename_i h2; rw [if_neg h2] at hh; exact h _ hh

/-- What the walk in the text's order shows of one operation. -/
def MkIs (P : Program) (ops : Array Oper) (Ψ : Nat → Option MkP) (B : Nat) (w0 : World) (i : Nat) (o : Oper) (v : Value) (a : Act) : Prop :=
  (∃ ψ, Ψ i = some ψ ∧ Region.wanted o (yielded ops a.tmps) = true ∧ mkAt P o a B w0 ψ) ∨ Ψ i = none ∧ (Region.wanted o (yielded ops a.tmps) = true ∧ calmAt P o a B w0 v ∨ Region.wanted o (yielded ops a.tmps) = false ∧ v = undef)
def putM (Ψ : Nat → Option MkP) (i : Nat) (o : Oper) (v : Value) (a : Act) : Act := if (Ψ i).isSome = true then a else a.put o.dst v

theorem MkIs.op {i : Nat} {o : Oper} {v : Value} {a : Act} (h : MkIs P ops Ψ B w0 i o v a) {K : Act → Prop} (hk : K (putM Ψ i o v a)) : mkOp P ops Ψ B w0 i o K a := by
  unfold putM at hk
  rcases h with ⟨ψ, h, h2, h3⟩ | ⟨h, ⟨h2, h3⟩ | ⟨h2, rfl⟩⟩
  · rw [h] at hk; rw [mkOp_some h]; exact ⟨⟨h2, h3⟩, hk⟩
  · rw [h] at hk; rw [mkOp_none h, if_pos h2]; exact ⟨v, h3, hk⟩
  · rw [h] at hk; rw [mkOp_none h, if_neg (by rw [h2]; exact Bool.false_ne_true)]; exact hk
theorem mkIs_of {i : Nat} {o : Oper} {a : Act} {K : Act → Prop} (h : mkOp P ops Ψ B w0 i o K a) : ∃ v, MkIs P ops Ψ B w0 i o v a ∧ K (putM Ψ i o v a) := by
  unfold putM
  cases hψ : Ψ i with
  | some ψ =>
    rw [mkOp_some hψ] at h
    exact ⟨undef, .inl ⟨ψ, hψ, h.1.1, h.1.2⟩, h.2⟩
  | none =>
    rw [mkOp_none hψ] at h
    by_cases h2 : Region.wanted o (yielded ops a.tmps) = true
    · rw [if_pos h2] at h; obtain ⟨v, hv, hk⟩ := h; exact ⟨v, .inr ⟨hψ, .inl ⟨h2, hv⟩⟩, hk⟩
    · rw [if_neg h2] at h; exact ⟨undef, .inr ⟨hψ, .inr ⟨by simpa using h2, rfl⟩⟩, h⟩

theorem MkIs.put {i : Nat} {oi oj : Oper} {v u : Value} {a : Act} (hsi : ∀ cs b, oi.op ≠ .select cs b) (h : ∀ d, oj.dst = some d → d ∉ oi.looksAt ops) (hy : MkIs P ops Ψ B w0 i oi v a) : MkIs P ops Ψ B w0 i oi v (a.put oj.dst u) := by
  unfold MkIs calmAt Oper.quietAt mkAt at *
  rw [execOp_put oi hsi a oj.dst u h, wanted_put oi a oj.dst u h]
  exact hy

theorem mkOp_put {i j : Nat} {oi oj : Oper} {v : Value} (hap : oi.apart ops oj = true) (hsi : ∀ cs b, oi.op ≠ .select cs b) (hsj : ∀ cs b, oj.op ≠ .select cs b) {K : Act → Prop} {a : Act}
    (hy : MkIs P ops Ψ B w0 i oi v a) (h : mkOp P ops Ψ B w0 j oj K (putM Ψ i oi v a)) : mkOp P ops Ψ B w0 j oj (fun a' => MkIs P ops Ψ B w0 i oi v a' ∧ K (putM Ψ i oi v a')) a := by
  obtain ⟨h1, h2, h3⟩ := Oper.apart_spec hap
  obtain ⟨u, hu, hk⟩ := mkIs_of h
  have hu' : MkIs P ops Ψ B w0 j oj u a := by
    unfold putM at hu
    split at hu
    · exact hu
    · unfold MkIs calmAt Oper.quietAt mkAt at *
      rw [execOp_put oj hsj a oi.dst v h1, wanted_put oj a oi.dst v h1] at hu
      exact hu
  refine hu'.op ⟨?_, ?_⟩
  · unfold putM
    split
    · exact hy
    · exact hy.put hsi h3
  · have e : putM Ψ i oi v (putM Ψ j oj u a) = putM Ψ j oj u (putM Ψ i oi v a) := by
      unfold putM
      split <;> split <;> first | rfl | exact (Act.put_comm a v u h2).symm | exact Act.put_comm a v u h2
    rw [e]; exact hk

/-- The first n operations, in whatever order. -/
def headM (P : Program) (md : Region.Mode) (ops : Array Oper) (Ψ : Nat → Option MkP) (B : Nat) (w0 : World) (n : Nat) (L : Array Bool → Act → Prop) : Nat → Array Bool → Act → Prop
  | 0, listed, a => L listed a
  | f + 1, listed, a =>
    Region.ready md ops listed ≠ [] ∧ ∀ i ∈ Region.ready md ops listed, i < n ∧ ∀ o, ops[i]? = some o → mkOp P ops Ψ B w0 i o (headM P md ops Ψ B w0 n L f (listed.setIfInBounds i true)) a

theorem headM_first {n i : Nat} {oi : Oper} {v : Value} {L : Array Bool → Act → Prop} (hi : ops[i]? = some oi) (hsel : ∀ (j : Nat) (o : Oper) cs b, ops[j]? = some o → o.op ≠ .select cs b)
    (hs : Region.sinkB md ops n = true) (hc : Region.chainB md ops n = true) (hn : n < ops.size) (hin : i < n)
    (hdone : ∀ listed a, L listed a → ∀ j ∈ Region.ready md ops listed, n ≤ j) (f : Nat) :
    ∀ (listed : Array Bool) (a : Act), HeadInv md ops n listed →
      (∀ j oj, ops[j]? = some oj → j ≠ i → listed.getD j true = false → (∀ e ∈ oj.after, Region.binds md e = true → e.on ≠ i) → oi.apart ops oj = true) →
      i ∈ Region.ready md ops listed → MkIs P ops Ψ B w0 i oi v a →
      headM P md ops Ψ B w0 n L f (listed.setIfInBounds i true) (putM Ψ i oi v a) → headM P md ops Ψ B w0 n L (f + 1) listed a := by
  induction f with
  | zero =>
    intro listed a inv _ hr hy H
    refine ⟨fun h => (by rw [h] at hr; cases hr), fun j hj => ?_⟩
    have hjn : j < n := (Nat.lt_or_ge j n).elim id fun h => absurd hj (tail_waits hs hc hn inv _ i rfl hin (mem_ready.1 hr).1 j h)
    refine ⟨hjn, fun o ho => ?_⟩
    by_cases hji : j = i
    · subst hji
      obtain rfl : o = oi := Option.some.inj (ho.symm.trans hi)
      exact hy.op H
    · have := hdone _ _ H j (ready_mono hj hji)
      omega
  | succ f ih =>
    intro listed a inv hfree hr hy H
    have hun := (mem_ready.1 hr).1
    refine ⟨fun h => (by rw [h] at hr; cases hr), fun j hj => ?_⟩
    have hjn : j < n := (Nat.lt_or_ge j n).elim id fun h => absurd hj (tail_waits hs hc hn inv _ i rfl hin hun j h)
    refine ⟨hjn, fun o ho => ?_⟩
    by_cases hji : j = i
    · subst hji
      obtain rfl : o = oi := Option.some.inj (ho.symm.trans hi)
      exact hy.op H
    · obtain ⟨hjun, oj, hoj, hall⟩ := mem_ready.1 hj
      obtain rfl : o = oj := Option.some.inj (ho.symm.trans hoj)
      have hnot : ∀ e ∈ o.after, Region.binds md e = true → e.on ≠ i := fun e he hb heq => by
        have h1 := hall e he hb
        rw [heq, getD_both hun] at h1
        cases h1
      have h2 := mkOp_put (hfree j o hoj hji hjun hnot) (fun cs b => hsel i oi cs b hi) (fun cs b => hsel j o cs b hoj) hy ((H.2 j (ready_mono hj hji)).2 o hoj)
      refine mkOp_mono (fun a' h3 => ih (listed.setIfInBounds j true) a' (inv.set hj hjn) (fun k ok hk hki hun' hno => hfree k ok hk hki ?_ hno) (ready_mono hr (Ne.symm hji)) h3.1 ?_) h2
      · by_cases hjk : j = k
        · subst hjk; exact hjun
        · rw [getD_set_ne true hjk] at hun'; exact hun'
      · rw [Array.setIfInBounds_comm _ _ hji]
        exact h3.2

theorem headM_lex {n g : Nat} {Lq : Act → Prop} (hsel : Region.noSelect ops = true) (hs : Region.sinkB md ops n = true) (hc : Region.chainB md ops n = true) (hn : n < ops.size) :
    ∀ (l : List Oper) (k : Nat) (listed : Array Bool) (a : Act), (∀ j, j < l.length → l[j]? = ops[k + j]?) → k + l.length = n → HeadInv md ops n listed →
    (∀ j, j < k → listed.getD j false = true) →
    Region.lexHead md ops g l.length k listed = true → wpMk P ops Ψ B w0 Lq k l a →
    headM P md ops Ψ B w0 n (fun listed' a' => Region.seqB md ops g n listed' = true ∧ (∀ j, j < n → listed'.getD j false = true) ∧ Lq a') l.length listed a
  | [], k, listed, a, _, hk, _, hd, hB, h => by
    obtain rfl : k = n := by simpa using hk
    exact ⟨by simpa [Region.lexHead] using hB, hd, h⟩
  | o :: l, k, listed, a, hl, hk, inv, hd, hB, h => by
    have h0 : ops[k]? = some o := by simpa using (hl 0 (by simp)).symm
    simp only [List.length_cons, Region.lexHead, Bool.and_eq_true] at hB
    have hkn : k < n := by simp only [List.length_cons] at hk; omega
    have hr' : k ∈ Region.ready md ops listed := by simpa using hB.1.1
    obtain ⟨v, hy, hK⟩ := mkIs_of (show mkOp P ops Ψ B w0 k o (wpMk P ops Ψ B w0 Lq (k + 1) l) a from h)
    refine headM_first h0 (Region.noSelect_spec hsel) hs hc hn hkn (fun listed' a' hL => seqB_ready hL.1) l.length listed a inv (Region.free_spec h0 hB.1.2) hr' hy
      (headM_lex hsel hs hc hn l (k + 1) _ _ (fun j hj => by have := hl (j + 1) (by simp; omega); simpa [Nat.add_assoc, Nat.add_comm 1 j] using this) (by simp only [List.length_cons] at hk; omega) (inv.set hr' hkn) (fun j hj => ?_) hB.2 hK)
    by_cases hjk : j = k
    · subst hjk
      have hsz : j < listed.size := by rw [inv.size]; omega
      simp [hsz]
    · exact getD_set_true (hd j (by omega))

/-! What is made. -/
def putV1 (ops : Array Oper) (Ψ : Nat → Option MkP) (β : Nat → Value) (s : Nat → Bool) (a : Act) (i : Nat) : Act :=
  match ops[i]? with
  | some o => if (Ψ i).isSome = true ∧ s i = true then a.put o.dst (β i) else a
  | none => a
def putV (ops : Array Oper) (Ψ : Nat → Option MkP) (β : Nat → Value) (s : Nat → Bool) (R : List Nat) (a : Act) : Act := R.foldl (putV1 ops Ψ β s) a

def mkB (ops : Array Oper) (ms : List Nat) (n : Nat) : Bool :=
  (List.range n).all fun i => match ops[i]? with
    | some o => !ms.contains i || match o.dst with
      | some d => (List.range n).all fun j => j == i || match ops[j]? with
        | some oj => (oj.dst != some d) && !(oj.looksAt ops).contains d
        | none => true
      | none => false
    | none => true

/-- A made thing's slot is its own. -/
def MkApart (ops : Array Oper) (Ψ : Nat → Option MkP) (n : Nat) : Prop :=
  ∀ i o, i < n → ops[i]? = some o → (Ψ i).isSome = true → ∃ d, o.dst = some d ∧ ∀ j oj, j < n → j ≠ i → ops[j]? = some oj → oj.dst ≠ some d ∧ d ∉ oj.looksAt ops
theorem mkB_spec {ms : List Nat} {n : Nat} (h : mkB ops ms n = true) (hΨ : ∀ i, (Ψ i).isSome = true → i ∈ ms) : MkApart ops Ψ n := by
  intro i o hi ho ha
  have h1 := List.all_eq_true.1 h i (List.mem_range.2 hi)
  have hm : ms.contains i = true := by simpa using hΨ i ha
  simp only [ho, hm, Bool.not_true, Bool.false_or] at h1
  cases hd : o.dst with
  | none => rw [hd] at h1; cases h1
  | some d =>
    rw [hd] at h1
    refine ⟨d, rfl, fun j oj hj hne hoj => ?_⟩
    have h2 := List.all_eq_true.1 h1 j (List.mem_range.2 hj)
    simp only [hoj, Bool.or_eq_true, beq_iff_eq, Bool.and_eq_true, bne_iff_ne, Bool.not_eq_true', List.contains_eq_mem, decide_eq_false_iff_not] at h2
    rcases h2 with h2 | h2
    · exact absurd h2 hne
    · exact h2

theorem putV_put {β : Nat → Value} {s : Nat → Bool} {x : Option Tmp} {v : Value} : ∀ (R : List Nat) (a : Act), (∀ i ∈ R, ∀ o, ops[i]? = some o → (Ψ i).isSome = true → s i = true → ∀ d, o.dst = some d → x ≠ some d) →
    putV ops Ψ β s R (a.put x v) = (putV ops Ψ β s R a).put x v
  | [], _, _ => rfl
  | i :: R, a, h => by
    have ih := fun a => putV_put (β := β) (s := s) (x := x) (v := v) R a (fun k hk => h k (List.mem_cons_of_mem _ hk))
    show putV ops Ψ β s R (putV1 ops Ψ β s (a.put x v) i) = (putV ops Ψ β s R (putV1 ops Ψ β s a i)).put x v
    have e : putV1 ops Ψ β s (a.put x v) i = (putV1 ops Ψ β s a i).put x v := by
      unfold putV1
      split
      · rename_i o ho
        split
        · rename_i hc
          exact Act.put_comm a v _ (fun d hd he => h i (List.mem_cons_self) o ho hc.1 hc.2 d he hd)
        · rfl
      · rfl
    rw [e, ih]

theorem putV_same {β β' : Nat → Value} {s s' : Nat → Bool} : ∀ (R : List Nat) (a : Act), (∀ i ∈ R, β' i = β i ∧ s' i = s i) → putV ops Ψ β' s' R a = putV ops Ψ β s R a
  | [], _, _ => rfl
  | i :: R, a, h => by
    show putV ops Ψ β' s' R (putV1 ops Ψ β' s' a i) = putV ops Ψ β s R (putV1 ops Ψ β s a i)
    have e : putV1 ops Ψ β' s' a i = putV1 ops Ψ β s a i := by unfold putV1; rw [(h i List.mem_cons_self).1, (h i List.mem_cons_self).2]
    rw [e, putV_same R _ (fun k hk => h k (List.mem_cons_of_mem _ hk))]

theorem putV_insert {n : Nat} (hA : MkApart ops Ψ n) {β : Nat → Value} {s : Nat → Bool} {i : Nat} {o : Oper} (hi : i < n) (ho : ops[i]? = some o) (ha : (Ψ i).isSome = true) (hs : s i = false) (b : Value) :
    ∀ (R : List Nat) (a : Act), i ∈ R → R.Nodup → (∀ k ∈ R, k < n) →
      putV ops Ψ (fun k => if k = i then b else β k) (fun k => if k = i then true else s k) R a = (putV ops Ψ β s R a).put o.dst b
  | [], _, h, _, _ => by cases h
  | k :: R, a, h, hn, hR => by
    show putV ops Ψ _ _ R (putV1 ops Ψ _ _ a k) = (putV ops Ψ β s R (putV1 ops Ψ β s a k)).put o.dst b
    obtain ⟨hkR, hn'⟩ := List.nodup_cons.1 hn
    by_cases hk : k = i
    · subst hk
      have e1 : putV1 ops Ψ (fun j => if j = k then b else β j) (fun j => if j = k then true else s j) a k = a.put o.dst b := by
        unfold putV1; simp [ho, ha]
      have e2 : putV1 ops Ψ β s a k = a := by unfold putV1; simp [ho, hs]
      rw [e1, e2, putV_same (β := β) (s := s) R _ (fun j hj => by
        have hjk : j ≠ k := fun e => hkR (e ▸ hj)
        simp [hjk])]
      refine putV_put R a (fun j hj oj hoj haj _ d hd he => ?_)
      obtain ⟨d', hd', hall⟩ := hA j oj (hR j (List.mem_cons_of_mem _ hj)) hoj haj
      have hjk : k ≠ j := fun e => hkR (e ▸ hj)
      rw [hd] at hd'
      injection hd' with hd'
      subst hd'
      exact (hall k o hi hjk ho).1 he
    · have e1 : putV1 ops Ψ (fun j => if j = i then b else β j) (fun j => if j = i then true else s j) a k = putV1 ops Ψ β s a k := by
        unfold putV1; simp [hk]
      rw [e1]
      exact putV_insert hA hi ho ha hs b R _ ((List.mem_cons.1 h).resolve_left (fun e => hk e.symm)) hn' (fun j hj => hR j (List.mem_cons_of_mem _ hj))

theorem putV_eval {n : Nat} (hA : MkApart ops Ψ n) {β : Nat → Value} {s : Nat → Bool} {j : Nat} {oj : Oper} (hj : j < n) (hoj : ops[j]? = some oj) (haj : s j = false ∨ Ψ j = none) (hsel : ∀ cs b, oj.op ≠ .select cs b) :
    ∀ (R : List Nat) (a : Act), (∀ k ∈ R, k < n) → execOp (putV ops Ψ β s R a).eval oj = execOp a.eval oj ∧ Region.wanted oj (yielded ops (putV ops Ψ β s R a).tmps) = Region.wanted oj (yielded ops a.tmps)
  | [], _, _ => ⟨rfl, rfl⟩
  | k :: R, a, hR => by
    have ih := putV_eval hA (β := β) (s := s) hj hoj haj hsel R (putV1 ops Ψ β s a k) (fun i hi => hR i (List.mem_cons_of_mem _ hi))
    have e : execOp (putV1 ops Ψ β s a k).eval oj = execOp a.eval oj ∧ Region.wanted oj (yielded ops (putV1 ops Ψ β s a k).tmps) = Region.wanted oj (yielded ops a.tmps) := by
      unfold putV1
      split
      · rename_i o ho
        split
        · rename_i hc
          obtain ⟨d, hd, hall⟩ := hA k o (hR k List.mem_cons_self) ho hc.1
          have hkj : j ≠ k := fun e => by
            subst e
            rcases haj with haj | haj
            · rw [haj] at hc; cases hc.2
            · rw [haj] at hc; cases hc.1
          have hno : ∀ d', o.dst = some d' → d' ∉ oj.looksAt ops := fun d' hd' => by
            rw [hd] at hd'
            injection hd' with hd'
            subst hd'
            exact (hall j oj hj hkj hoj).2
          exact ⟨execOp_put oj hsel a o.dst _ hno, wanted_put oj a o.dst _ hno⟩
        · exact ⟨rfl, rfl⟩
      · exact ⟨rfl, rfl⟩
    exact ⟨ih.1.trans e.1, ih.2.trans e.2⟩

/-- What was made so far. -/
structure MadeV (Ψ : Nat → Option MkP) (n B : Nat) (β : Nat → Value) (lo hi : Nat → Nat) (s : Nat → Bool) (w : World) : Prop where
  here : ∀ i ψ, i < n → Ψ i = some ψ → s i = true → B ≤ lo i ∧ lo i ≤ hi i ∧ hi i ≤ w.heap.size ∧ ψ (β i) (lo i) (hi i) w
  ne_ : ∀ i j, i < n → j < n → i ≠ j → (Ψ i).isSome = true → (Ψ j).isSome = true → s i = true → s j = true → hi i ≤ lo j ∨ hi j ≤ lo i

theorem MadeV.later {n : Nat} {β : Nat → Value} {lo hi : Nat → Nat} {s : Nat → Bool} {w w' : World} (hst : ∀ i ψ, i < n → Ψ i = some ψ → ψ.stays) (h : MadeV Ψ n B β lo hi s w) (hb : Below w.heap.size w w') : MadeV Ψ n B β lo hi s w' :=
  ⟨fun i ψ hin hψ hs => by
    obtain ⟨h1, h2, h3, h4⟩ := h.here i ψ hin hψ hs
    exact ⟨h1, h2, Nat.le_trans h3 hb.size, hst i ψ hin hψ _ _ _ _ _ hb h3 h4⟩, h.ne_⟩

theorem wpAny_of_headM {n g : Nat} {L : Array Bool → Act → Prop} {Q' : Exit → Act → World → Prop} (hA : MkApart ops Ψ n) (hst : ∀ i ψ, i < n → Ψ i = some ψ → ψ.stays) (hsel : Region.noSelect ops = true) (hB0 : B ≤ w0.heap.size) (hns : n ≤ ops.size)
    (hL : ∀ listed a w β lo hi, Below B w0 w → MadeV Ψ n B β lo hi (fun k => listed.getD k false) w → L listed a → wpAny P md ops Q' g listed (putV ops Ψ β (fun k => listed.getD k false) (List.range n) a) w) :
    ∀ (f : Nat) (listed : Array Bool) (a : Act) (w : World) (β : Nat → Value) (lo hi : Nat → Nat), listed.size = ops.size → Below B w0 w → MadeV Ψ n B β lo hi (fun k => listed.getD k false) w → headM P md ops Ψ B w0 n L f listed a →
      wpAny P md ops Q' (f + g) listed (putV ops Ψ β (fun k => listed.getD k false) (List.range n) a) w
  | 0, listed, a, w, β, lo, hi, _, hw, hm, h => by rw [Nat.zero_add]; exact hL _ _ _ _ _ _ hw hm h
  | f + 1, listed, a, w, β, lo, hi, hsz, hw, hm, h => by
    rw [show f + 1 + g = (f + g) + 1 by omega]
    refine ⟨fun h0 => absurd h0 h.1, fun i hir => ?_⟩
    obtain ⟨hin, hop⟩ := h.2 i hir
    obtain ⟨hun, o, ho, _⟩ := mem_ready.1 hir
    have hun' := getD_both hun
    have hmk := hop o ho
    have hsz' : (listed.setIfInBounds i true).size = ops.size := by simp [hsz]
    have hil : i < listed.size := by omega
    have es : (fun k => (listed.setIfInBounds i true).getD k false) = (fun k => if k = i then true else listed.getD k false) := by
      funext k; exact getD_set hil k
    have hev := putV_eval hA (β := β) (s := fun k => listed.getD k false) hin ho (.inl hun') (fun cs b => Region.noSelect_spec hsel i o cs b ho) (List.range n) a (fun k hk => List.mem_range.1 hk)
    unfold wpOp
    simp only [ho]
    rw [hev.2]
    cases hψ : Ψ i with
    | some ψ =>
      rw [mkOp_some hψ] at hmk
      obtain ⟨⟨hwant, hat⟩, hK⟩ := hmk
      have ha : (Ψ i).isSome = true := by rw [hψ]; rfl
      rw [if_pos hwant]
      refine .inl ?_
      have go : ∀ v w', Below w.heap.size w w' → ψ v w.heap.size w'.heap.size w' → wpAny P md ops Q' (f + g) (listed.setIfInBounds i true) ((putV ops Ψ β (fun k => listed.getD k false) (List.range n) a).put o.dst v) w' := by
        intro v w' hb hv
        have hm1 := hm.later hst hb
        have hm' : MadeV Ψ n B (fun k => if k = i then v else β k) (fun k => if k = i then w.heap.size else lo k) (fun k => if k = i then w'.heap.size else hi k) (fun k => (listed.setIfInBounds i true).getD k false) w' := by
          rw [es]
          refine ⟨fun k ψk hk hψk hsk => ?_, fun k j hk hj hne hak haj hsk hsj => ?_⟩
          · by_cases hki : k = i
            · subst hki
              rw [hψ] at hψk
              injection hψk with hψk
              subst hψk
              simp only [if_pos]
              exact ⟨Nat.le_trans hB0 hw.size, hb.size, Nat.le_refl _, hv⟩
            · simp only [if_neg hki] at hsk ⊢
              exact hm1.here k ψk hk hψk hsk
          · by_cases hki : k = i
            · subst hki
              have hji : j ≠ k := Ne.symm hne
              obtain ⟨ψj, hψj⟩ := Option.isSome_iff_exists.1 haj
              simp only [if_neg hji] at hsj
              have := (hm.here j ψj hj hψj hsj).2.2.1
              simp only [if_pos, if_neg hji]
              omega
            · by_cases hji : j = i
              · subst hji
                obtain ⟨ψk, hψk⟩ := Option.isSome_iff_exists.1 hak
                simp only [if_neg hki] at hsk
                have := (hm.here k ψk hk hψk hsk).2.2.1
                simp only [if_pos, if_neg hki]
                omega
              · simp only [if_neg hki, if_neg hji] at hsk hsj ⊢
                exact hm.ne_ k j hk hj hne hak haj hsk hsj
        have := wpAny_of_headM hA hst hsel hB0 hns hL f _ a _ _ _ _ hsz' (hw.up hb hB0) hm' hK
        rw [es] at this
        rwa [putV_insert hA hin ho ha hun' v (List.range n) a (List.mem_range.2 hin) List.nodup_range (fun k hk => List.mem_range.1 hk)] at this
      have h3 := hat ⟨w, hw⟩
      unfold Oper.wp
      rw [hev.1]
      generalize (execOp a.eval o).run P w = r at *
      cases r with
      | ok nx w' =>
        cases nx <;> simp only [yieldsV] at h3 <;> simp only [Oper.upon]
        case value u => exact go _ _ h3.1 h3.2
        case enter fn args =>
          exact h3.mono fun e w'' ⟨v, he, hb, hv⟩ => by subst he; exact go _ _ hb hv
      | halt x w' => simp only [yieldsV] at h3
    | none =>
      rw [mkOp_none hψ] at hmk
      have hdst : ∀ v, putV ops Ψ β (fun k => listed.getD k false) (List.range n) (a.put o.dst v) = (putV ops Ψ β (fun k => listed.getD k false) (List.range n) a).put o.dst v := fun v =>
        putV_put (List.range n) a (fun k hk ok hok hak _ d hd he => by
          have hki : k ≠ i := fun e => by
            subst e
            rw [hψ] at hak
            cases hak
          obtain ⟨d', hd', hall⟩ := hA k ok (List.mem_range.1 hk) hok hak
          rw [hd] at hd'
          injection hd' with hd'
          subst hd'
          exact (hall i o hin (Ne.symm hki) ho).1 he)
      have hkeep : ∀ (v : Value) (w' : World), Below w.heap.size w w' → headM P md ops Ψ B w0 n L f (listed.setIfInBounds i true) (a.put o.dst v) →
          wpAny P md ops Q' (f + g) (listed.setIfInBounds i true) ((putV ops Ψ β (fun k => listed.getD k false) (List.range n) a).put o.dst v) w' := fun v w' hb hh => by
        have e2 : putV ops Ψ β (fun k => (listed.setIfInBounds i true).getD k false) (List.range n) (a.put o.dst v) = putV ops Ψ β (fun k => listed.getD k false) (List.range n) (a.put o.dst v) := by
          have hp : ∀ (R : List Nat) (a : Act), putV ops Ψ β (fun k => (listed.setIfInBounds i true).getD k false) R a = putV ops Ψ β (fun k => listed.getD k false) R a := by
            intro R
            induction R with
            | nil => intro a; rfl
            | cons k R ih =>
              intro a
              show putV ops Ψ β _ R (putV1 ops Ψ β _ a k) = putV ops Ψ β _ R (putV1 ops Ψ β _ a k)
              have e : putV1 ops Ψ β (fun k => (listed.setIfInBounds i true).getD k false) a k = putV1 ops Ψ β (fun k => listed.getD k false) a k := by
                by_cases hki : k = i
                · subst hki; unfold putV1; simp [ho, hψ]
                · unfold putV1; simp only [getD_set hil, if_neg hki]
              rw [e]; exact ih _
          exact hp _ _
        rw [← hdst, ← e2]
        refine wpAny_of_headM hA hst hsel hB0 hns hL f _ _ _ β lo hi hsz' (hw.up hb hB0) ?_ hh
        refine MadeV.later hst (w := w) ⟨fun k ψk hk hψk hsk => ?_, fun k j hk hj hne hak haj hsk hsj => ?_⟩ hb
        · have hki : k ≠ i := fun e => by
            subst e
            rw [hψ] at hψk
            cases hψk
          rw [getD_set hil, if_neg hki] at hsk
          exact hm.here k ψk hk hψk hsk
        · have hki : k ≠ i := fun e => by
            subst e
            rw [hψ] at hak
            cases hak
          have hji : j ≠ i := fun e => by
            subst e
            rw [hψ] at haj
            cases haj
          rw [getD_set hil, if_neg hki] at hsk
          rw [getD_set hil, if_neg hji] at hsj
          exact hm.ne_ k j hk hj hne hak haj hsk hsj
      split
      · rename_i hwant
        rw [if_pos hwant] at hmk
        refine .inl ?_
        obtain ⟨v, hv, hk⟩ := hmk
        have h3 := hv ⟨w, hw⟩
        unfold Oper.quietAt at h3
        unfold Oper.wp
        rw [hev.1]
        generalize (execOp a.eval o).run P w = r at *
        cases r with
        | ok nx w' =>
          cases nx <;> simp only [Oper.quietUpon] at h3 <;> simp only [Oper.upon]
          case value u =>
            obtain ⟨e1, e2⟩ := h3
            subst e1; subst e2
            exact hkeep _ _ (Below.refl _ _) hk
          case skip =>
            obtain ⟨e1, e2⟩ := h3
            subst e1; subst e2
            exact hkeep _ _ (Below.refl _ _) hk
          case enter fn args =>
            obtain ⟨e1, hc⟩ := h3
            subst e1
            exact hc.mono fun e w'' ⟨he, hb⟩ => by subst he; exact hkeep _ _ hb hk
        | halt x w' => simp only [Oper.quietUpon] at h3
      · rename_i hwant
        rw [if_neg hwant] at hmk
        exact hkeep _ _ (Below.refl _ _) hmk

/-- What follows, wherever the made things lie. -/
def mkThen (Ψ : Nat → Option MkP) (B : Nat) (w' : World) (K : Act → Prop) : Nat → List Oper → List (Nat × Nat) → Act → Prop
  | _, [], _, a => K a
  | i, o :: rest, used, a => match Ψ i with
    | some ψ => ∀ v lo hi, B ≤ lo → lo ≤ hi → hi ≤ w'.heap.size → (∀ p ∈ used, p.2 ≤ lo ∨ hi ≤ p.1) → ψ v lo hi w' → mkThen Ψ B w' K (i + 1) rest ((lo, hi) :: used) (a.put o.dst v)
    | none => mkThen Ψ B w' K (i + 1) rest used a
theorem mkThen_skip {w' : World} {K : Act → Prop} {i : Nat} {o : Oper} {rest : List Oper} {used : List (Nat × Nat)} {a : Act} (hi : Ψ i = none) (h : mkThen Ψ B w' K (i + 1) rest used a) : mkThen Ψ B w' K i (o :: rest) used a := by
  unfold mkThen; rw [hi]; exact h
theorem mkThen_take {w' : World} {K : Act → Prop} {i : Nat} {o : Oper} {rest : List Oper} {used : List (Nat × Nat)} {a : Act} {ψ : MkP} (hi : Ψ i = some ψ) (h : ∀ v lo hi, B ≤ lo → lo ≤ hi → hi ≤ w'.heap.size → (∀ p ∈ used, p.2 ≤ lo ∨ hi ≤ p.1) → ψ v lo hi w' → mkThen Ψ B w' K (i + 1) rest ((lo, hi) :: used) (a.put o.dst v)) : mkThen Ψ B w' K i (o :: rest) used a := by
  unfold mkThen; rw [hi]; exact h
theorem mkThen_end {w' : World} {K : Act → Prop} {i : Nat} {used : List (Nat × Nat)} {a : Act} (h : K a) : mkThen Ψ B w' K i [] used a := h

theorem mkThen_all {w' : World} {K : Act → Prop} {n : Nat} {β : Nat → Value} {lo hi : Nat → Nat} {s : Nat → Bool} (hm : MadeV Ψ n B β lo hi s w') (hs : ∀ i, i < n → s i = true) :
    ∀ (r : List Oper) (k : Nat) (used : List (Nat × Nat)) (a : Act), (∀ j, j < r.length → r[j]? = ops[k + j]?) → k + r.length = n →
      (∀ p ∈ used, ∃ i, i < k ∧ (Ψ i).isSome = true ∧ p = (lo i, hi i)) → mkThen Ψ B w' K k r used a → K (putV ops Ψ β s (List.range' k r.length) a)
  | [], _, _, _, _, _, _, h => h
  | o :: r, k, used, a, hr, hk, hu, h => by
    have ho : ops[k]? = some o := by simpa using (hr 0 (by simp)).symm
    have hkn : k < n := by simp only [List.length_cons] at hk; omega
    have hr' : ∀ j, j < r.length → r[j]? = ops[k + 1 + j]? := fun j hj => by have := hr (j + 1) (by simp; omega); simpa [Nat.add_assoc, Nat.add_comm 1 j] using this
    have hk' : k + 1 + r.length = n := by simp only [List.length_cons] at hk; omega
    show K (putV ops Ψ β s (List.range' (k + 1) r.length) (putV1 ops Ψ β s a k))
    cases hψ : Ψ k with
    | some ψ =>
      have ha : (Ψ k).isSome = true := by rw [hψ]; rfl
      have e : putV1 ops Ψ β s a k = a.put o.dst (β k) := by unfold putV1; simp [ho, ha, hs k hkn]
      rw [e]
      unfold mkThen at h
      rw [hψ] at h
      obtain ⟨h1, h2, h3, h4⟩ := hm.here k ψ hkn hψ (hs k hkn)
      refine mkThen_all hm hs r (k + 1) ((lo k, hi k) :: used) _ hr' hk' (fun p hp => ?_) (h (β k) (lo k) (hi k) h1 h2 h3 (fun p hp => ?_) h4)
      · rcases List.mem_cons.1 hp with e | hp
        · exact ⟨k, by omega, ha, e⟩
        · obtain ⟨i, hi', hai, e⟩ := hu p hp
          exact ⟨i, by omega, hai, e⟩
      · obtain ⟨i, hi', hai, rfl⟩ := hu p hp
        exact hm.ne_ i k (by omega) hkn (by omega) hai ha (hs i (by omega)) (hs k hkn)
    | none =>
      have e : putV1 ops Ψ β s a k = a := by unfold putV1; simp [ho, hψ]
      rw [e]
      have h' : mkThen Ψ B w' K (k + 1) r used a := by
        unfold mkThen at h
        rw [hψ] at h
        exact h
      exact mkThen_all hm hs r (k + 1) used a hr' hk' (fun p hp => by
        obtain ⟨i, hi', hai, e⟩ := hu p hp
        exact ⟨i, by omega, hai, e⟩) h'

def mkFind (i : Nat) : List (Nat × MkP) → Option MkP
  | [] => none
  | p :: r => if p.1 = i then some p.2 else mkFind i r
theorem mkFind_mem {i : Nat} : ∀ {ms : List (Nat × MkP)}, (mkFind i ms).isSome = true → i ∈ ms.map (·.1)
  | [], h => by cases h
  | p :: r, h => by
    unfold mkFind at h
    by_cases hp : p.1 = i
    · simp [hp]
    · rw [if_neg hp] at h
      simp [mkFind_mem h]
theorem mkFind_stays {i : Nat} {ψ : MkP} : ∀ {ms : List (Nat × MkP)}, (∀ p ∈ ms, p.2.stays) → mkFind i ms = some ψ → ψ.stays
  | [], _, h => by cases h
  | p :: r, hs, h => by
    unfold mkFind at h
    by_cases hp : p.1 = i
    · rw [if_pos hp] at h; injection h with h; subst h; exact hs p (by simp)
    · rw [if_neg hp] at h; exact mkFind_stays (fun q hq => hs q (by simp [hq])) h

/-- **A region that draws its order: calls and loads in any order, new things beside them (at the places of ms), and behind them all some stores, one behind the other.** -/
theorem wp_region_mk {id : Nat} {Q : Exit → Act → World → Prop} {a : Act} {w : World} {l : List Oper} (B n : Nat) (is : List Nat) (ms : List (Nat × MkP)) (hB0 : B ≤ w.heap.size) (hm : P.follows .mixedOrders = true) (hB : Region.lexTailB .any l.toArray n = true) (hA : mkB l.toArray is n = true) (his : ms.map (·.1) = is)
    (hst : ∀ p ∈ ms, p.2.stays)
    (h : wpMk P l.toArray (fun i => mkFind i ms) B w (fun a' => ∀ w', Below B w w' → mkThen (fun i => mkFind i ms) B w' (fun a'' => wpList P l.toArray Q (l.drop n) a'' w') 0 (l.take n) [] a') 0 (l.take n) a) : (Code.region id l.toArray true).wp P Q a w := by
  simp only [Region.lexTailB, Bool.and_eq_true, decide_eq_true_eq] at hB
  obtain ⟨⟨⟨⟨hsel, hn⟩, hs⟩, hc⟩, hlex⟩ := hB
  have hn' : n < l.length := by simpa using hn
  have htl : (l.take n).length = n := by simp; omega
  have hdl : (l.drop n).length = l.toArray.size - n := by simp
  have inv0 : HeadInv .any l.toArray n (Array.replicate l.toArray.size false) :=
    ⟨by simp, fun j oj _ hl => (by rw [getD_replicate_false] at hl; cases hl), fun t _ ht => getD_in (by simpa using ht) (getD_replicate_false _ _)⟩
  have hget : ∀ j, j < (l.take n).length → (l.take n)[j]? = l.toArray[0 + j]? := fun j hj => by
    have hj' : j < n := by rw [htl] at hj; exact hj
    simp [hj']
  have H := headM_lex (md := .any) (g := l.toArray.size - n) (w0 := w) hsel hs hc hn (l.take n) 0 _ a hget (by simpa using htl) inv0 (fun j hj => by omega) (by rw [htl]; exact hlex) h
  refine wp_region_any hm ?_
  have H2 := wpAny_of_headM (Q' := Q) (g := l.toArray.size - n) (w0 := w) (mkB_spec hA fun i hi => his ▸ mkFind_mem hi) (fun i ψ _ hψ => mkFind_stays hst hψ) hsel hB0 (Nat.le_of_lt hn)
    (fun listed a' w' β lo hi hb hmade hL => by
      have h1 := mkThen_all hmade hL.2.1 (l.take n) 0 [] a' hget (by simpa using htl) (fun b hb => by cases hb) (hL.2.2 w' hb)
      rw [htl, ← List.range_eq_range'] at h1
      have := wpAny_of_seq (md := .any) (Q' := Q) (l.drop n) n listed _ w' (fun j => by simp [List.getElem?_drop]) (by rw [hdl]; exact hL.1) h1
      rwa [hdl] at this) _ _ a w.drew (fun _ => undef) (fun _ => 0) (fun _ => 0) (by simp) (Below.refl B w).drew
    ⟨fun i ψ _ _ hs => (by rw [getD_replicate_false] at hs; cases hs), fun i j _ _ _ _ _ hs => (by rw [getD_replicate_false] at hs; cases hs)⟩ H
  have e0 : putV l.toArray (fun i => mkFind i ms) (fun _ => undef) (fun k => (Array.replicate l.toArray.size false).getD k false) (List.range n) a = a := by
    have hp : ∀ (R : List Nat) (a : Act), putV l.toArray (fun i => mkFind i ms) (fun _ => undef) (fun k => (Array.replicate l.toArray.size false).getD k false) R a = a := by
      intro R
      induction R with
      | nil => intro a; rfl
      | cons k R ih =>
        intro a
        show putV l.toArray _ _ _ R (putV1 l.toArray _ _ _ a k) = a
        have e : putV1 l.toArray (fun i => mkFind i ms) (fun _ => undef) (fun k => (Array.replicate l.toArray.size false).getD k false) a k = a := by
          unfold putV1
          split
          · rw [if_neg (fun hh => by have h2 := hh.2; simp only [getD_replicate_false] at h2; cases h2)]
          · rfl
        rw [e]; exact ih _
    exact hp _ _
  rw [e0, htl, show n + (l.toArray.size - n) = l.toArray.size by omega] at H2
  exact H2
end
end Go.Proofs.YtbhgmccaecmpjaaGreat
