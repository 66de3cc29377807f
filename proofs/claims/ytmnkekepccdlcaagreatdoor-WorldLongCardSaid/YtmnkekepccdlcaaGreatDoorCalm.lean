/-
  A region whose order Go leaves open, with variables that it makes itself: in whatever order its first operations come, they leave what the order of the text leaves, but for where the new variables lie.
  Conditions: none; over any program.
-/
import Derived.Test.YtmnkekepccdlcaaGreatDoorWgA
namespace Go.Proofs.YtmnkekepccdlcaaGreatDoor
set_option linter.unusedVariables false
set_option linter.unusedSimpArgs false
open Go.RowKit

section
variable {P : Program} {ops : Array Oper} {md : Region.Mode} {B : Nat} {w0 : World}

/-- A variable that the region makes. -/
def isAlloc (o : Oper) : Bool := match o.op with | .alloc _ => o.guard.isNone | _ => false

/-- In every later world the operation yields v, and what it found stays as it was. -/
def calmAt (P : Program) (o : Oper) (a : Act) (B : Nat) (w0 : World) (v : Value) : Prop :=
  ∀ u : Later B w0, o.quietAt P a (fun w'' => Below u.world.heap.size u.world w'') u.world v

def calmOp (P : Program) (ops : Array Oper) (B : Nat) (w0 : World) (o : Oper) (K : Act → Prop) (a : Act) : Prop :=
  if isAlloc o = true then K a
  else if Region.wanted o (yielded ops a.tmps) = true then ∃ v, calmAt P o a B w0 v ∧ K (a.put o.dst v) else K (a.put o.dst undef)

def wpCalm (P : Program) (ops : Array Oper) (B : Nat) (w0 : World) (Q : Act → Prop) : List Oper → Act → Prop
  | [], a => Q a
  | o :: rest, a => calmOp P ops B w0 o (wpCalm P ops B w0 Q rest) a

attribute [go_sem] isAlloc calmAt calmOp

theorem wpCalm_nil {Q : Act → Prop} {a : Act} (h : Q a) : wpCalm P ops B w0 Q [] a := h
theorem wpCalm_step {Q : Act → Prop} {a : Act} {o : Oper} {rest : List Oper}
    (h : ∀ K : Act → Prop, (∀ a, wpCalm P ops B w0 Q rest a → K a) → calmOp P ops B w0 o K a) : wpCalm P ops B w0 Q (o :: rest) a := h _ (fun _ h => h)

theorem calmOp_mono {o : Oper} {a : Act} {K K' : Act → Prop} (h : ∀ a, K a → K' a) (hh : calmOp P ops B w0 o K a) : calmOp P ops B w0 o K' a := by
  unfold calmOp at *
  split
  · rename_i h1; rw [if_pos h1] at hh; exact h _ hh
  · rename_i h1
    rw [if_neg h1] at hh
    split
    · rename_i h2; rw [if_pos h2] at hh; obtain ⟨v, hv, hk⟩ := hh; exact ⟨v, hv, h _ hk⟩
    · rename_i h2; rw [if_neg h2] at hh; exact h _ hh

/-- What the walk in the text's order shows of one operation. -/
def CalmIs (P : Program) (ops : Array Oper) (B : Nat) (w0 : World) (o : Oper) (v : Value) (a : Act) : Prop :=
  isAlloc o = true ∨ isAlloc o = false ∧ (Region.wanted o (yielded ops a.tmps) = true ∧ calmAt P o a B w0 v ∨ Region.wanted o (yielded ops a.tmps) = false ∧ v = undef)
def putC (o : Oper) (v : Value) (a : Act) : Act := if isAlloc o = true then a else a.put o.dst v

theorem CalmIs.op {o : Oper} {v : Value} {a : Act} (h : CalmIs P ops B w0 o v a) {K : Act → Prop} (hk : K (putC o v a)) : calmOp P ops B w0 o K a := by
  unfold calmOp
  unfold putC at hk
  rcases h with h | ⟨h, ⟨h2, h3⟩ | ⟨h2, rfl⟩⟩
  · rw [if_pos h] at hk ⊢; exact hk
  · have h' : ¬ isAlloc o = true := by rw [h]; exact Bool.false_ne_true
    rw [if_neg h'] at hk ⊢; rw [if_pos h2]; exact ⟨v, h3, hk⟩
  · have h' : ¬ isAlloc o = true := by rw [h]; exact Bool.false_ne_true
    rw [if_neg h'] at hk ⊢; rw [if_neg (by rw [h2]; exact Bool.false_ne_true)]; exact hk
theorem calmIs_of {o : Oper} {a : Act} {K : Act → Prop} (h : calmOp P ops B w0 o K a) : ∃ v, CalmIs P ops B w0 o v a ∧ K (putC o v a) := by
  unfold calmOp at h
  unfold putC
  by_cases h1 : isAlloc o = true
  · rw [if_pos h1] at h; exact ⟨undef, .inl h1, by rw [if_pos h1]; exact h⟩
  · rw [if_neg h1] at h
    have h1' : isAlloc o = false := by simpa using h1
    by_cases h2 : Region.wanted o (yielded ops a.tmps) = true
    · rw [if_pos h2] at h; obtain ⟨v, hv, hk⟩ := h; exact ⟨v, .inr ⟨h1', .inl ⟨h2, hv⟩⟩, by rw [if_neg h1]; exact hk⟩
    · rw [if_neg h2] at h; exact ⟨undef, .inr ⟨h1', .inr ⟨by simpa using h2, rfl⟩⟩, by rw [if_neg h1]; exact h⟩

theorem CalmIs.put {oi oj : Oper} {v u : Value} {a : Act} (hsi : ∀ cs b, oi.op ≠ .select cs b) (h : ∀ d, oj.dst = some d → d ∉ oi.looksAt ops) (hy : CalmIs P ops B w0 oi v a) : CalmIs P ops B w0 oi v (a.put oj.dst u) := by
  unfold CalmIs calmAt Oper.quietAt at *
  rw [execOp_put oi hsi a oj.dst u h, wanted_put oi a oj.dst u h]
  exact hy

theorem calmOp_put {oi oj : Oper} {v : Value} (hap : oi.apart ops oj = true) (hsi : ∀ cs b, oi.op ≠ .select cs b) (hsj : ∀ cs b, oj.op ≠ .select cs b) {K : Act → Prop} {a : Act}
    (hy : CalmIs P ops B w0 oi v a) (h : calmOp P ops B w0 oj K (putC oi v a)) : calmOp P ops B w0 oj (fun a' => CalmIs P ops B w0 oi v a' ∧ K (putC oi v a')) a := by
  obtain ⟨h1, h2, h3⟩ := Oper.apart_spec hap
  obtain ⟨u, hu, hk⟩ := calmIs_of h
  have hu' : CalmIs P ops B w0 oj u a := by
    unfold putC at hu
    split at hu
    · exact hu
    · unfold CalmIs calmAt Oper.quietAt at *
      rw [execOp_put oj hsj a oi.dst v h1, wanted_put oj a oi.dst v h1] at hu
      exact hu
  refine hu'.op ⟨?_, ?_⟩
  · unfold putC
    split
    · exact hy
    · exact hy.put hsi h3
  · have e : putC oi v (putC oj u a) = putC oj u (putC oi v a) := by
      unfold putC
      split <;> split <;> first | rfl | exact (Act.put_comm a v u h2).symm | exact Act.put_comm a v u h2
    rw [e]; exact hk

/-- The first n operations, in whatever order. -/
def headC (P : Program) (md : Region.Mode) (ops : Array Oper) (B : Nat) (w0 : World) (n : Nat) (L : Array Bool → Act → Prop) : Nat → Array Bool → Act → Prop
  | 0, listed, a => L listed a
  | f + 1, listed, a =>
    Region.ready md ops listed ≠ [] ∧ ∀ i ∈ Region.ready md ops listed, i < n ∧ ∀ o, ops[i]? = some o → calmOp P ops B w0 o (headC P md ops B w0 n L f (listed.setIfInBounds i true)) a

theorem headC_first {n i : Nat} {oi : Oper} {v : Value} {L : Array Bool → Act → Prop} (hi : ops[i]? = some oi) (hsel : ∀ (j : Nat) (o : Oper) cs b, ops[j]? = some o → o.op ≠ .select cs b)
    (hs : Region.sinkB md ops n = true) (hc : Region.chainB md ops n = true) (hn : n < ops.size) (hin : i < n)
    (hdone : ∀ listed a, L listed a → ∀ j ∈ Region.ready md ops listed, n ≤ j) (f : Nat) :
    ∀ (listed : Array Bool) (a : Act), HeadInv md ops n listed →
      (∀ j oj, ops[j]? = some oj → j ≠ i → listed.getD j true = false → (∀ e ∈ oj.after, Region.binds md e = true → e.on ≠ i) → oi.apart ops oj = true) →
      i ∈ Region.ready md ops listed → CalmIs P ops B w0 oi v a →
      headC P md ops B w0 n L f (listed.setIfInBounds i true) (putC oi v a) → headC P md ops B w0 n L (f + 1) listed a := by
  induction f with
  | zero =>
    intro listed a inv _ hr hy H
    refine ⟨fun h => (by rw [h] at hr; cases hr), fun j hj => ?_⟩
    have hjn : j < n := (Nat.lt_or_ge j n).elim id fun h => absurd hj (tail_waits hs hc hn inv _ i rfl hin (mem_ready.1 hr).1 j h)
    refine ⟨hjn, fun o ho => ?_⟩
    by_cases hji : j = i
    · subst hji
      obtain rfl : o = oi := Option.some.inj (ho.symm.trans hi)
      exact hy.op H
    · have := hdone _ _ H j (ready_mono hj hji)
      omega
  | succ f ih =>
    intro listed a inv hfree hr hy H
    have hun := (mem_ready.1 hr).1
    refine ⟨fun h => (by rw [h] at hr; cases hr), fun j hj => ?_⟩
    have hjn : j < n := (Nat.lt_or_ge j n).elim id fun h => absurd hj (tail_waits hs hc hn inv _ i rfl hin hun j h)
    refine ⟨hjn, fun o ho => ?_⟩
    by_cases hji : j = i
    · subst hji
      obtain rfl : o = oi := Option.some.inj (ho.symm.trans hi)
      exact hy.op H
    · obtain ⟨hjun, oj, hoj, hall⟩ := mem_ready.1 hj
      obtain rfl : o = oj := Option.some.inj (ho.symm.trans hoj)
      have hnot : ∀ e ∈ o.after, Region.binds md e = true → e.on ≠ i := fun e he hb heq => by
        have h1 := hall e he hb
        rw [heq, getD_both hun] at h1
        cases h1
      have h2 := calmOp_put (hfree j o hoj hji hjun hnot) (fun cs b => hsel i oi cs b hi) (fun cs b => hsel j o cs b hoj) hy ((H.2 j (ready_mono hj hji)).2 o hoj)
      refine calmOp_mono (fun a' h3 => ih (listed.setIfInBounds j true) a' (inv.set hj hjn) (fun k ok hk hki hun' hno => hfree k ok hk hki ?_ hno) (ready_mono hr (Ne.symm hji)) h3.1 ?_) h2
      · by_cases hjk : j = k
        · subst hjk; exact hjun
        · rw [getD_set_ne true hjk] at hun'; exact hun'
      · rw [Array.setIfInBounds_comm _ _ hji]
        exact h3.2

theorem headC_lex {n g : Nat} {Lq : Act → Prop} (hsel : Region.noSelect ops = true) (hs : Region.sinkB md ops n = true) (hc : Region.chainB md ops n = true) (hn : n < ops.size) :
    ∀ (l : List Oper) (k : Nat) (listed : Array Bool) (a : Act), (∀ j, j < l.length → l[j]? = ops[k + j]?) → k + l.length = n → HeadInv md ops n listed →
    (∀ j, j < k → listed.getD j false = true) →
    Region.lexHead md ops g l.length k listed = true → wpCalm P ops B w0 Lq l a →
    headC P md ops B w0 n (fun listed' a' => Region.seqB md ops g n listed' = true ∧ (∀ j, j < n → listed'.getD j false = true) ∧ Lq a') l.length listed a
  | [], k, listed, a, _, hk, _, hd, hB, h => by
    obtain rfl : k = n := by simpa using hk
    exact ⟨by simpa [Region.lexHead] using hB, hd, h⟩
  | o :: l, k, listed, a, hl, hk, inv, hd, hB, h => by
    have h0 : ops[k]? = some o := by simpa using (hl 0 (by simp)).symm
    simp only [List.length_cons, Region.lexHead, Bool.and_eq_true] at hB
    have hkn : k < n := by simp only [List.length_cons] at hk; omega
    have hr' : k ∈ Region.ready md ops listed := by simpa using hB.1.1
    obtain ⟨v, hy, hK⟩ := calmIs_of (show calmOp P ops B w0 o (wpCalm P ops B w0 Lq l) a from h)
    refine headC_first h0 (Region.noSelect_spec hsel) hs hc hn hkn (fun listed' a' hL => seqB_ready hL.1) l.length listed a inv (Region.free_spec h0 hB.1.2) hr' hy
      (headC_lex hsel hs hc hn l (k + 1) _ _ (fun j hj => by have := hl (j + 1) (by simp; omega); simpa [Nat.add_assoc, Nat.add_comm 1 j] using this) (by simp only [List.length_cons] at hk; omega) (inv.set hr' hkn) (fun j hj => ?_) hB.2 hK)
    by_cases hjk : j = k
    · subst hjk
      have hsz : j < listed.size := by rw [inv.size]; omega
      simp [hsz]
    · exact getD_set_true (hd j (by omega))

/-! The new variables: where each lies is not said; that each is new, and holds its type's zero, is. -/
def newAt (b : Nat) : Value := .pointer (some ⟨b, 0, none⟩)
def put1 (ops : Array Oper) (β : Nat → Nat) (s : Nat → Bool) (a : Act) (i : Nat) : Act :=
  match ops[i]? with
  | some o => if isAlloc o = true ∧ s i = true then a.put o.dst (newAt (β i)) else a
  | none => a
def putAll (ops : Array Oper) (β : Nat → Nat) (s : Nat → Bool) (R : List Nat) (a : Act) : Act := R.foldl (put1 ops β s) a

def allocB (ops : Array Oper) (n : Nat) : Bool :=
  (List.range n).all fun i => match ops[i]? with
    | some o => !isAlloc o || match o.dst with
      | some d => (List.range n).all fun j => j == i || match ops[j]? with
        | some oj => (oj.dst != some d) && !(oj.looksAt ops).contains d
        | none => true
      | none => false
    | none => true

/-- A variable's slot is its own. -/
def AllocApart (ops : Array Oper) (n : Nat) : Prop :=
  ∀ i o, i < n → ops[i]? = some o → isAlloc o = true → ∃ d, o.dst = some d ∧ ∀ j oj, j < n → j ≠ i → ops[j]? = some oj → oj.dst ≠ some d ∧ d ∉ oj.looksAt ops
theorem allocB_spec {n : Nat} (h : allocB ops n = true) : AllocApart ops n := by
  intro i o hi ho ha
  have h1 := List.all_eq_true.1 h i (List.mem_range.2 hi)
  simp only [ho, ha, Bool.not_true, Bool.false_or] at h1
  cases hd : o.dst with
  | none => rw [hd] at h1; cases h1
  | some d =>
    rw [hd] at h1
    refine ⟨d, rfl, fun j oj hj hne hoj => ?_⟩
    have h2 := List.all_eq_true.1 h1 j (List.mem_range.2 hj)
    simp only [hoj, Bool.or_eq_true, beq_iff_eq, Bool.and_eq_true, bne_iff_ne, Bool.not_eq_true', List.contains_eq_mem, decide_eq_false_iff_not] at h2
    rcases h2 with h2 | h2
    · exact absurd h2 hne
    · exact h2

theorem putAll_put {n : Nat} {β : Nat → Nat} {s : Nat → Bool} {x : Option Tmp} {v : Value} : ∀ (R : List Nat) (a : Act), (∀ i ∈ R, ∀ o, ops[i]? = some o → isAlloc o = true → s i = true → ∀ d, o.dst = some d → x ≠ some d) →
    putAll ops β s R (a.put x v) = (putAll ops β s R a).put x v
  | [], _, _ => rfl
  | i :: R, a, h => by
    have ih := fun a => putAll_put (n := n) (β := β) (s := s) (x := x) (v := v) R a (fun k hk => h k (List.mem_cons_of_mem _ hk))
    show putAll ops β s R (put1 ops β s (a.put x v) i) = (putAll ops β s R (put1 ops β s a i)).put x v
    have e : put1 ops β s (a.put x v) i = (put1 ops β s a i).put x v := by
      unfold put1
      split
      · rename_i o ho
        split
        · rename_i hc
          exact Act.put_comm a v _ (fun d hd he => h i (List.mem_cons_self) o ho hc.1 hc.2 d he hd)
        · rfl
      · rfl
    rw [e, ih]

theorem putAll_same {β β' : Nat → Nat} {s s' : Nat → Bool} : ∀ (R : List Nat) (a : Act), (∀ i ∈ R, β' i = β i ∧ s' i = s i) → putAll ops β' s' R a = putAll ops β s R a
  | [], _, _ => rfl
  | i :: R, a, h => by
    show putAll ops β' s' R (put1 ops β' s' a i) = putAll ops β s R (put1 ops β s a i)
    have e : put1 ops β' s' a i = put1 ops β s a i := by unfold put1; rw [(h i List.mem_cons_self).1, (h i List.mem_cons_self).2]
    rw [e, putAll_same R _ (fun k hk => h k (List.mem_cons_of_mem _ hk))]

theorem putAll_insert {n : Nat} (hA : AllocApart ops n) {β : Nat → Nat} {s : Nat → Bool} {i : Nat} {o : Oper} (hi : i < n) (ho : ops[i]? = some o) (ha : isAlloc o = true) (hs : s i = false) (b : Nat) :
    ∀ (R : List Nat) (a : Act), i ∈ R → R.Nodup → (∀ k ∈ R, k < n) →
      putAll ops (fun k => if k = i then b else β k) (fun k => if k = i then true else s k) R a = (putAll ops β s R a).put o.dst (newAt b)
  | [], _, h, _, _ => by cases h
  | k :: R, a, h, hn, hR => by
    show putAll ops _ _ R (put1 ops _ _ a k) = (putAll ops β s R (put1 ops β s a k)).put o.dst (newAt b)
    obtain ⟨hkR, hn'⟩ := List.nodup_cons.1 hn
    by_cases hk : k = i
    · subst hk
      have e1 : put1 ops (fun j => if j = k then b else β j) (fun j => if j = k then true else s j) a k = a.put o.dst (newAt b) := by
        unfold put1; simp [ho, ha]
      have e2 : put1 ops β s a k = a := by unfold put1; simp [ho, hs]
      rw [e1, e2, putAll_same (β := β) (s := s) R _ (fun j hj => by
        have hjk : j ≠ k := fun e => hkR (e ▸ hj)
        simp [hjk])]
      refine putAll_put (n := n) R a (fun j hj oj hoj haj _ d hd he => ?_)
      obtain ⟨d', hd', hall⟩ := hA j oj (hR j (List.mem_cons_of_mem _ hj)) hoj haj
      have hjk : k ≠ j := fun e => hkR (e ▸ hj)
      rw [hd] at hd'
      injection hd' with hd'
      subst hd'
      exact (hall k o hi hjk ho).1 he
    · have e1 : put1 ops (fun j => if j = i then b else β j) (fun j => if j = i then true else s j) a k = put1 ops β s a k := by
        unfold put1; simp [hk]
      rw [e1]
      exact putAll_insert hA hi ho ha hs b R _ ((List.mem_cons.1 h).resolve_left (fun e => hk e.symm)) hn' (fun j hj => hR j (List.mem_cons_of_mem _ hj))

theorem putAll_eval {n : Nat} (hA : AllocApart ops n) {β : Nat → Nat} {s : Nat → Bool} {j : Nat} {oj : Oper} (hj : j < n) (hoj : ops[j]? = some oj) (haj : isAlloc oj = false) (hsel : ∀ cs b, oj.op ≠ .select cs b) :
    ∀ (R : List Nat) (a : Act), (∀ k ∈ R, k < n) → execOp (putAll ops β s R a).eval oj = execOp a.eval oj ∧ Region.wanted oj (yielded ops (putAll ops β s R a).tmps) = Region.wanted oj (yielded ops a.tmps)
  | [], _, _ => ⟨rfl, rfl⟩
  | k :: R, a, hR => by
    have ih := putAll_eval hA (β := β) (s := s) hj hoj haj hsel R (put1 ops β s a k) (fun i hi => hR i (List.mem_cons_of_mem _ hi))
    have e : execOp (put1 ops β s a k).eval oj = execOp a.eval oj ∧ Region.wanted oj (yielded ops (put1 ops β s a k).tmps) = Region.wanted oj (yielded ops a.tmps) := by
      unfold put1
      split
      · rename_i o ho
        split
        · rename_i hc
          obtain ⟨d, hd, hall⟩ := hA k o (hR k List.mem_cons_self) ho hc.1
          have hkj : j ≠ k := fun e => by
            subst e
            rw [hoj] at ho
            injection ho with ho
            subst ho
            rw [hc.1] at haj
            cases haj
          have hno : ∀ d', o.dst = some d' → d' ∉ oj.looksAt ops := fun d' hd' => by
            rw [hd] at hd'
            injection hd' with hd'
            subst hd'
            exact (hall j oj hj hkj hoj).2
          exact ⟨execOp_put oj hsel a o.dst _ hno, wanted_put oj a o.dst _ hno⟩
        · exact ⟨rfl, rfl⟩
      · exact ⟨rfl, rfl⟩
    exact ⟨ih.1.trans e.1, ih.2.trans e.2⟩

/-- A callee's contract that leaves the world as it is. -/
theorem calm_same {f : FuncId} {args : Array Value} {w : World} {v : Value} (h : Calls P f args w fun e w' => e = .returned v ∧ w = w') : Calls P f args w fun e w' => e = .returned v ∧ Below w.heap.size w w' :=
  h.mono fun _ _ ⟨he, hw⟩ => ⟨he, by subst hw; exact Below.refl _ _⟩

/-- What making a variable of a type does. -/
def Makes (P : Program) (zs : TypeId → Array Value) (t : TypeId) : Prop :=
  ∀ w : World, (Instr.alloc t true (.tuple #[])).run P w = .ok (newAt w.heap.size) (w.alloc (.cells (zs t) t))

/-- The variables made so far. -/
structure Made (ops : Array Oper) (n B : Nat) (zs : TypeId → Array Value) (β : Nat → Nat) (s : Nat → Bool) (w : World) : Prop where
  here : ∀ i o t, i < n → ops[i]? = some o → isAlloc o = true → o.op = .alloc t → s i = true → B ≤ β i ∧ w.heap[β i]? = some (.cells (zs t) t (0, 0))
  ne_ : ∀ i j oi oj, i < n → j < n → i ≠ j → ops[i]? = some oi → ops[j]? = some oj → isAlloc oi = true → isAlloc oj = true → s i = true → s j = true → β i ≠ β j

theorem isAlloc_op {o : Oper} (h : isAlloc o = true) : ∃ t, o.op = .alloc t ∧ o.guard = none := by
  unfold isAlloc at h
  split at h
  · rename_i t ht; exact ⟨t, ht, by simpa using h⟩
  · cases h

theorem Made.lt {n : Nat} {zs : TypeId → Array Value} {β : Nat → Nat} {s : Nat → Bool} {w : World} (h : Made ops n B zs β s w) {i : Nat} {o : Oper} (hi : i < n) (ho : ops[i]? = some o) (ha : isAlloc o = true) (hs : s i = true) : β i < w.heap.size := by
  obtain ⟨t, ht, _⟩ := isAlloc_op ha
  have := (h.here i o t hi ho ha ht hs).2
  exact (Array.getElem?_eq_some_iff.1 this).1

theorem Made.later {n : Nat} {zs : TypeId → Array Value} {β : Nat → Nat} {s : Nat → Bool} {w w' : World} (h : Made ops n B zs β s w) (hb : Below w.heap.size w w') : Made ops n B zs β s w' :=
  ⟨fun i o t hi ho ha ht hs => ⟨(h.here i o t hi ho ha ht hs).1, (hb.block _ (h.lt hi ho ha hs)).trans (h.here i o t hi ho ha ht hs).2⟩, h.ne_⟩

theorem getD_set {listed : Array Bool} {i : Nat} (hi : i < listed.size) (k : Nat) : (listed.setIfInBounds i true).getD k false = if k = i then true else listed.getD k false := by
  by_cases h : k = i
  · subst h; simp [hi]
  · rw [if_neg h, getD_set_ne false (Ne.symm h)]

theorem wpAny_of_headC {n g : Nat} {L : Array Bool → Act → Prop} {Q' : Exit → Act → World → Prop} {zs : TypeId → Array Value} (hA : AllocApart ops n) (hsel : Region.noSelect ops = true) (hB0 : B ≤ w0.heap.size) (hns : n ≤ ops.size)
    (hz : ∀ i o t, i < n → ops[i]? = some o → o.op = .alloc t → Makes P zs t)
    (hL : ∀ listed a w β, Below B w0 w → Made ops n B zs β (fun k => listed.getD k false) w → L listed a → wpAny P md ops Q' g listed (putAll ops β (fun k => listed.getD k false) (List.range n) a) w) :
    ∀ (f : Nat) (listed : Array Bool) (a : Act) (w : World) (β : Nat → Nat), listed.size = ops.size → Below B w0 w → Made ops n B zs β (fun k => listed.getD k false) w → headC P md ops B w0 n L f listed a →
      wpAny P md ops Q' (f + g) listed (putAll ops β (fun k => listed.getD k false) (List.range n) a) w
  | 0, listed, a, w, β, _, hw, hm, h => by rw [Nat.zero_add]; exact hL _ _ _ _ hw hm h
  | f + 1, listed, a, w, β, hsz, hw, hm, h => by
    rw [show f + 1 + g = (f + g) + 1 by omega]
    refine ⟨fun h0 => absurd h0 h.1, fun i hi => ?_⟩
    obtain ⟨hin, hop⟩ := h.2 i hi
    obtain ⟨hun, o, ho, _⟩ := mem_ready.1 hi
    have hun' := getD_both hun
    have hcalm := hop o ho
    have hsz' : (listed.setIfInBounds i true).size = ops.size := by simp [hsz]
    have hil : i < listed.size := by omega
    have es : (fun k => (listed.setIfInBounds i true).getD k false) = (fun k => if k = i then true else listed.getD k false) := by
      funext k; exact getD_set hil k
    unfold wpOp
    simp only [ho]
    by_cases ha : isAlloc o = true
    · obtain ⟨t, ht, hg⟩ := isAlloc_op ha
      have hwant : Region.wanted o (yielded ops (putAll ops β (fun k => listed.getD k false) (List.range n) a).tmps) = true := by unfold Region.wanted; rw [hg]
      rw [if_pos hwant]
      refine .inl ?_
      unfold calmOp at hcalm
      rw [if_pos ha] at hcalm
      unfold Oper.wp
      have hr : (execOp (putAll ops β (fun k => listed.getD k false) (List.range n) a).eval o).run P w = .ok (.value (newAt w.heap.size)) (w.alloc (.cells (zs t) t)) := by
        unfold execOp
        simp only [ht]
        simp only [Sem.run_bind, hz i o t hin ho ht w, Result.andThen_ok, Sem.run_pure]
      rw [hr]
      simp only [Oper.upon]
      have hm' : Made ops n B zs (fun k => if k = i then w.heap.size else β k) (fun k => (listed.setIfInBounds i true).getD k false) (w.alloc (.cells (zs t) t)) := by
        rw [es]
        refine ⟨fun k ok tk hk hok hak htk hsk => ?_, fun k j ok oj hk hj hne hok hoj hak haj hsk hsj => ?_⟩
        · by_cases hki : k = i
          · subst hki
            rw [ho] at hok
            injection hok with hok
            subst hok
            rw [ht] at htk
            injection htk with htk
            subst htk
            simp only [if_pos]
            exact ⟨Nat.le_trans hB0 hw.size, heap_alloc_new w _⟩
          · simp only [if_neg hki] at hsk ⊢
            have h1 := hm.here k ok tk hk hok hak htk hsk
            exact ⟨h1.1, (Below.heap_alloc w _ _ (hm.lt hk hok hak hsk)).trans h1.2⟩
        · by_cases hki : k = i
          · subst hki
            have hji : j ≠ k := Ne.symm hne
            simp only [if_pos, if_neg hji] at hsj ⊢
            have := hm.lt hj hoj haj hsj
            omega
          · by_cases hji : j = i
            · subst hji
              simp only [if_pos, if_neg hki] at hsk ⊢
              have := hm.lt hk hok hak hsk
              omega
            · simp only [if_neg hki, if_neg hji] at hsk hsj ⊢
              exact hm.ne_ k j ok oj hk hj hne hok hoj hak haj hsk hsj
      have := wpAny_of_headC hA hsel hB0 hns hz hL f _ a _ _ hsz' (hw.alloc (Nat.le_trans hB0 hw.size) _) hm' hcalm
      rw [es] at this
      rwa [putAll_insert hA hin ho ha hun' w.heap.size (List.range n) a (List.mem_range.2 hin) List.nodup_range (fun k hk => List.mem_range.1 hk)] at this
    · have ha' : isAlloc o = false := by simpa using ha
      have hev := putAll_eval hA (β := β) (s := fun k => listed.getD k false) hin ho ha' (fun cs b => Region.noSelect_spec hsel i o cs b ho) (List.range n) a (fun k hk => List.mem_range.1 hk)
      have hdst : ∀ v, putAll ops β (fun k => listed.getD k false) (List.range n) (a.put o.dst v) = (putAll ops β (fun k => listed.getD k false) (List.range n) a).put o.dst v := fun v =>
        putAll_put (n := n) (List.range n) a (fun k hk ok hok hak _ d hd he => by
          have hki : k ≠ i := fun e => by
            subst e
            rw [ho] at hok
            injection hok with hok
            subst hok
            exact ha hak
          obtain ⟨d', hd', hall⟩ := hA k ok (List.mem_range.1 hk) hok hak
          rw [hd] at hd'
          injection hd' with hd'
          subst hd'
          exact (hall i o hin (Ne.symm hki) ho).1 he)
      have hkeep : ∀ (v : Value) (w' : World), Below w.heap.size w w' → headC P md ops B w0 n L f (listed.setIfInBounds i true) (a.put o.dst v) →
          wpAny P md ops Q' (f + g) (listed.setIfInBounds i true) ((putAll ops β (fun k => listed.getD k false) (List.range n) a).put o.dst v) w' := fun v w' hb hh => by
        have e2 : putAll ops β (fun k => (listed.setIfInBounds i true).getD k false) (List.range n) (a.put o.dst v) = putAll ops β (fun k => listed.getD k false) (List.range n) (a.put o.dst v) := by
          have hp : ∀ (R : List Nat) (a : Act), putAll ops β (fun k => (listed.setIfInBounds i true).getD k false) R a = putAll ops β (fun k => listed.getD k false) R a := by
            intro R
            induction R with
            | nil => intro a; rfl
            | cons k R ih =>
              intro a
              show putAll ops β _ R (put1 ops β _ a k) = putAll ops β _ R (put1 ops β _ a k)
              have e : put1 ops β (fun k => (listed.setIfInBounds i true).getD k false) a k = put1 ops β (fun k => listed.getD k false) a k := by
                by_cases hki : k = i
                · subst hki; unfold put1; simp [ho, ha']
                · unfold put1; simp only [getD_set hil, if_neg hki]
              rw [e]; exact ih _
          exact hp _ _
        rw [← hdst, ← e2]
        refine wpAny_of_headC hA hsel hB0 hns hz hL f _ _ _ β hsz' (hw.up hb hB0) ?_ hh
        refine (Made.later (w := w) ⟨fun k ok tk hk hok hak htk hsk => ?_, fun k j ok oj hk hj hne hok hoj hak haj hsk hsj => ?_⟩ hb)
        · have hki : k ≠ i := fun e => by
            subst e
            rw [ho] at hok
            injection hok with hok
            subst hok
            exact ha hak
          rw [getD_set hil, if_neg hki] at hsk
          exact hm.here k ok tk hk hok hak htk hsk
        · have hki : k ≠ i := fun e => by
            subst e
            rw [ho] at hok
            injection hok with hok
            subst hok
            exact ha hak
          have hji : j ≠ i := fun e => by
            subst e
            rw [ho] at hoj
            injection hoj with hoj
            subst hoj
            exact ha haj
          rw [getD_set hil, if_neg hki] at hsk
          rw [getD_set hil, if_neg hji] at hsj
          exact hm.ne_ k j ok oj hk hj hne hok hoj hak haj hsk hsj
      rw [hev.2]
      unfold calmOp at hcalm
      rw [if_neg ha] at hcalm
      split
      · rename_i hwant
        rw [if_pos hwant] at hcalm
        refine .inl ?_
        obtain ⟨v, hv, hk⟩ := hcalm
        have h3 := hv ⟨w, hw⟩
        unfold Oper.quietAt at h3
        unfold Oper.wp
        rw [hev.1]
        generalize (execOp a.eval o).run P w = r at *
        cases r with
        | ok nx w' =>
          cases nx <;> simp only [Oper.quietUpon] at h3 <;> simp only [Oper.upon]
          case value u =>
            obtain ⟨e1, e2⟩ := h3
            subst e1; subst e2
            exact hkeep _ _ (Below.refl _ _) hk
          case skip =>
            obtain ⟨e1, e2⟩ := h3
            subst e1; subst e2
            exact hkeep _ _ (Below.refl _ _) hk
          case enter fn args =>
            obtain ⟨e1, hc⟩ := h3
            subst e1
            exact hc.mono fun e w'' ⟨he, hb⟩ => by subst he; exact hkeep _ _ hb hk
        | halt x w' => simp only [Oper.quietUpon] at h3
      · rename_i hwant
        rw [if_neg hwant] at hcalm
        exact hkeep _ _ (Below.refl _ _) hcalm

/-- What follows, wherever the new variables lie. -/
def newThen (zs : TypeId → Array Value) (B : Nat) (w' : World) (K : Act → Prop) : List Oper → List Nat → Act → Prop
  | [], _, a => K a
  | o :: rest, used, a => match o.op, o.guard with
    | .alloc t, none => ∀ b, B ≤ b → (∀ k ∈ used, k ≠ b) → w'.heap[b]? = some (.cells (zs t) t (0, 0)) → newThen zs B w' K rest (b :: used) (a.put o.dst (newAt b))
    | _, _ => newThen zs B w' K rest used a

theorem newThen_all {zs : TypeId → Array Value} {w' : World} {K : Act → Prop} {n : Nat} {β : Nat → Nat} {s : Nat → Bool} (hm : Made ops n B zs β s w') (hs : ∀ i, i < n → s i = true) :
    ∀ (r : List Oper) (k : Nat) (used : List Nat) (a : Act), (∀ j, j < r.length → r[j]? = ops[k + j]?) → k + r.length = n →
      (∀ b ∈ used, ∃ i o, i < k ∧ ops[i]? = some o ∧ isAlloc o = true ∧ b = β i) → newThen zs B w' K r used a → K (putAll ops β s (List.range' k r.length) a)
  | [], _, _, _, _, _, _, h => h
  | o :: r, k, used, a, hr, hk, hu, h => by
    have ho : ops[k]? = some o := by simpa using (hr 0 (by simp)).symm
    have hkn : k < n := by simp only [List.length_cons] at hk; omega
    have hr' : ∀ j, j < r.length → r[j]? = ops[k + 1 + j]? := fun j hj => by have := hr (j + 1) (by simp; omega); simpa [Nat.add_assoc, Nat.add_comm 1 j] using this
    have hk' : k + 1 + r.length = n := by simp only [List.length_cons] at hk; omega
    show K (putAll ops β s (List.range' (k + 1) r.length) (put1 ops β s a k))
    by_cases ha : isAlloc o = true
    · obtain ⟨t, ht, hg⟩ := isAlloc_op ha
      have e : put1 ops β s a k = a.put o.dst (newAt (β k)) := by unfold put1; simp [ho, ha, hs k hkn]
      rw [e]
      unfold newThen at h
      rw [ht, hg] at h
      have h1 := hm.here k o t hkn ho ha ht (hs k hkn)
      refine newThen_all hm hs r (k + 1) (β k :: used) _ hr' hk' (fun b hb => ?_) (h (β k) h1.1 (fun b hb => ?_) h1.2)
      · rcases List.mem_cons.1 hb with e | hb
        · exact ⟨k, o, by omega, ho, ha, e⟩
        · obtain ⟨i, oi, hi, hoi, hai, e⟩ := hu b hb
          exact ⟨i, oi, by omega, hoi, hai, e⟩
      · obtain ⟨i, oi, hi, hoi, hai, e⟩ := hu b hb
        rw [e]
        exact hm.ne_ i k oi o (by omega) hkn (by omega) hoi ho hai ha (hs i (by omega)) (hs k hkn)
    · have e : put1 ops β s a k = a := by unfold put1; simp [ho, ha]
      rw [e]
      have h' : newThen zs B w' K r used a := by
        unfold newThen at h
        unfold isAlloc at ha
        split at h
        · rename_i t hop hgd; rw [hop, hgd] at ha; exact absurd rfl ha
        · exact h
      exact newThen_all hm hs r (k + 1) used a hr' hk' (fun b hb => by
        obtain ⟨i, oi, hi, hoi, hai, e⟩ := hu b hb
        exact ⟨i, oi, by omega, hoi, hai, e⟩) h'

/-- Each variable's type has a zero. -/
def allocsOK (P : Program) (zs : TypeId → Array Value) : List Oper → Prop
  | [] => True
  | o :: rest => (match o.op with | .alloc t => Makes P zs t | _ => True) ∧ allocsOK P zs rest
theorem allocsOK_get {zs : TypeId → Array Value} : ∀ {l : List Oper} {i : Nat} {o : Oper} {t : TypeId}, allocsOK P zs l → l[i]? = some o → o.op = .alloc t → Makes P zs t
  | [], _, _, _, _, h, _ => by simp at h
  | o :: _, 0, o', t, h, ho, ht => by
    simp only [List.getElem?_cons_zero, Option.some.injEq] at ho
    subst ho
    have := h.1
    rw [ht] at this
    exact this
  | _ :: _, i + 1, _, _, h, ho, ht => allocsOK_get h.2 (by simpa using ho) ht

/-- **A region that draws its order: calls and loads in any order, new variables beside them, and behind them all some stores, one behind the other.** -/
theorem wp_region_calm {id : Nat} {Q : Exit → Act → World → Prop} {a : Act} {w : World} {l : List Oper} (B n : Nat) (zs : TypeId → Array Value) (hB0 : B ≤ w.heap.size) (hm : P.follows .mixedOrders = true) (hB : Region.lexTailB .any l.toArray n = true) (hA : allocB l.toArray n = true)
    (hz : allocsOK P zs (l.take n))
    (h : wpCalm P l.toArray B w (fun a' => ∀ w', Below B w w' → newThen zs B w' (fun a'' => wpList P l.toArray Q (l.drop n) a'' w') (l.take n) [] a') (l.take n) a) : (Code.region id l.toArray true).wp P Q a w := by
  simp only [Region.lexTailB, Bool.and_eq_true, decide_eq_true_eq] at hB
  obtain ⟨⟨⟨⟨hsel, hn⟩, hs⟩, hc⟩, hlex⟩ := hB
  have hn' : n < l.length := by simpa using hn
  have htl : (l.take n).length = n := by simp; omega
  have hdl : (l.drop n).length = l.toArray.size - n := by simp
  have inv0 : HeadInv .any l.toArray n (Array.replicate l.toArray.size false) :=
    ⟨by simp, fun j oj _ hl => (by rw [getD_replicate_false] at hl; cases hl), fun t _ ht => getD_in (by simpa using ht) (getD_replicate_false _ _)⟩
  have hget : ∀ j, j < (l.take n).length → (l.take n)[j]? = l.toArray[0 + j]? := fun j hj => by
    have hj' : j < n := by rw [htl] at hj; exact hj
    simp [hj']
  have H := headC_lex (md := .any) (g := l.toArray.size - n) (w0 := w) hsel hs hc hn (l.take n) 0 _ a hget (by simpa using htl) inv0 (fun j hj => by omega) (by rw [htl]; exact hlex) h
  refine wp_region_any hm ?_
  have H2 := wpAny_of_headC (Q' := Q) (g := l.toArray.size - n) (zs := zs) (w0 := w) (allocB_spec hA) hsel hB0 (Nat.le_of_lt hn)
    (fun i o t hi ho ht => allocsOK_get (i := i) hz (by rw [hget i (by rw [htl]; exact hi)]; simpa using ho) ht)
    (fun listed a' w' β hb hmade hL => by
      have h1 := newThen_all hmade hL.2.1 (l.take n) 0 [] a' hget (by simpa using htl) (fun b hb => by cases hb) (hL.2.2 w' hb)
      rw [htl, ← List.range_eq_range'] at h1
      have := wpAny_of_seq (md := .any) (Q' := Q) (l.drop n) n listed _ w' (fun j => by simp [List.getElem?_drop]) (by rw [hdl]; exact hL.1) h1
      rwa [hdl] at this) _ _ a w.drew (fun _ => 0) (by simp) (Below.refl B w).drew
    ⟨fun i o t _ _ _ _ hs => (by rw [getD_replicate_false] at hs; cases hs), fun i j oi oj _ _ _ _ _ _ _ hs => (by rw [getD_replicate_false] at hs; cases hs)⟩ H
  have e0 : putAll l.toArray (fun _ => 0) (fun k => (Array.replicate l.toArray.size false).getD k false) (List.range n) a = a := by
    have hp : ∀ (R : List Nat) (a : Act), putAll l.toArray (fun _ => 0) (fun k => (Array.replicate l.toArray.size false).getD k false) R a = a := by
      intro R
      induction R with
      | nil => intro a; rfl
      | cons k R ih =>
        intro a
        show putAll l.toArray _ _ R (put1 l.toArray _ _ a k) = a
        have e : put1 l.toArray (fun _ => 0) (fun k => (Array.replicate l.toArray.size false).getD k false) a k = a := by
          unfold put1
          split
          · rw [if_neg (fun hh => by have h2 := hh.2; simp only [getD_replicate_false] at h2; cases h2)]
          · rfl
        rw [e]; exact ih _
    exact hp _ _
  rw [e0, htl, show n + (l.toArray.size - n) = l.toArray.size by omega] at H2
  exact H2
end
end Go.Proofs.YtmnkekepccdlcaaGreatDoor
