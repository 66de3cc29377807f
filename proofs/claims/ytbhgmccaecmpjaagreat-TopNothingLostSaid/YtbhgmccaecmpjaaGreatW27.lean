/-
  dial.Step, of the scripts that are looked at.
  Conditions: the blocks are known; one is ready; no deadline ends the script, nor a wait.
-/
import Derived.Test.YtbhgmccaecmpjaaGreatW26
import Derived.Test.YtbhgmccaecmpjaaGreatW23
import Derived.Laws.ResultCell
namespace Go.Proofs.YtbhgmccaecmpjaaGreat
set_option linter.unusedVariables false
set_option linter.unusedSimpArgs false
open Go.RowKit

/-- What a step leaves: one who runs, or one who has ended. -/
inductive SOut where
  | run (t : DT)
  | fin (st : Int)
structure SRes where
  what : Int
  arm : Int
  n : Int
  out : SOut
def dstepT (c : ScT) (t : DT) : SRes :=
  match opAt c t with
  | none => ⟨9, 0, 0, .fin 1⟩
  | some (.send u) => if 0 < t.tx.size - t.ld then ⟨5, 0, loadT c.o t.tx t.sd t.ld, .run { t with ld := t.ld + loadT c.o t.tx t.sd t.ld }⟩ else ⟨6, 0, u.size, .run (comeT c t 1)⟩
  | some (.pause _) => ⟨8, 0, 0, .run (comeT c t 1)⟩
  | some (.expect _ _) =>
    let T := lookT c.n t.win (t.pat.getD .no) t.inb 0
    if T.isHit = true then ⟨2, 0, T.gone, .run (comeT c { t with inb := T.s, win := T.l, pat := some T.p, lv := false, ju := t.ju + 1 } 2)⟩
    else if T.isFull = true then ⟨13, 0, T.read, .fin 4⟩
    else ⟨1, 0, T.read, .run { t with inb := T.s, win := T.l, pat := some T.p, lv := true }⟩
/-- How one stands who runs such a script. -/
structure DT.fit (c : ScT) (t : DT) : Prop where
  a : t.at_ ≤ 2
  w0 : t.at_ = 0 → t.win = [] ∧ t.lv = true ∧ t.ju = 0
  w1 : t.at_ = 1 → t.lv = true ∧ (∃ p, t.pat = some p ∧ ((∃ n, c.o1 = .expect n none) → p = .no)) ∧ t.ju = 0
  now : 0 ≤ t.now ∧ t.now ≤ 9223372036854775807
/-- No deadline has come. -/
def Calm (t : DT) : Prop := overN t.li t.cu t.now = 0 ∧ (t.at_ = 1 → dueB t.un t.now = false)
/-- What is left behind. -/
def DEnd (w : World) (lab : Nat → Nat) (w' : World) (b : DB) (c : ScT) : SOut → Prop
  | .run t => ∃ lab' b', LabEq lab lab' w ∧ DiaR w' lab' b' c t ∧ b'.x = b.x
  | .fin st => DiE w' b.x st
def SOut.st : SOut → Int
  | .run _ => 0
  | .fin st => st
theorem lookT_no (win : Nat) : ∀ (s : List UInt8) (l : List UInt8) (k : Nat), (lookT win l .no s k).isHit = false
  | [], l, k => rfl
  | c :: s, l, k => by
    unfold lookT
    by_cases h : l.length = win
    · rw [if_pos h]; rfl
    · rw [if_neg h]
      exact lookT_no win s (l ++ [c]) (k + 1)
theorem DEnd.status {w w' : World} {lab : Nat → Nat} {b : DB} {c : ScT} {o : SOut} (h : DEnd w lab w' b c o) : ∃ d, DiB w' b.x d ∧ d.st = o.st := by
  cases o with
  | run t => obtain ⟨lab', b', _, hd, e⟩ := h; exact ⟨_, e ▸ hd.blk, rfl⟩
  | fin st => exact h
theorem DEnd.later {w w' w2 : World} {lab : Nat → Nat} {b : DB} {c : ScT} {o : SOut} (h : DEnd w lab w' b c o) (k : Below w'.heap.size w' w2) : DEnd w lab w2 b c o := by
  cases o with
  | run t => obtain ⟨lab', b', h1, hd, e⟩ := h; exact ⟨lab', b', h1, hd.later k, e⟩
  | fin st => obtain ⟨d, hd, e⟩ := h; exact ⟨d, Blk.later hd k, e⟩
theorem DEnd.base {w w0 w' : World} {lab lab0 : Nat → Nat} {b : DB} {c : ScT} {o : SOut} (h : DEnd w0 lab0 w' b c o) (e : LabEq lab lab0 w) (hs : w.heap.size ≤ w0.heap.size) : DEnd w lab w' b c o := by
  cases o with
  | run t => obtain ⟨lab', b', h1, hd, e2⟩ := h; exact ⟨lab', b', e.trans h1 hs, hd, e2⟩
  | fin st => exact h
theorem DEnd.foot {w0 w5 w4 : World} {lab : Nat → Nat} {b : DB} {c : ScT} {o : SOut} {F : Nat → Prop} (h : DEnd w0 lab w5 b c o) (hs : w0.heap.size ≤ w5.heap.size) (f : Foot F w5 w4) (hF : ∀ i, F i → (i < w0.heap.size ∧ ¬ isD (lab i)) ∨ w5.heap.size ≤ i) (hx : ¬ F b.x) : DEnd w0 lab w4 b c o := by
  cases o with
  | run t =>
    obtain ⟨lab', b', h1, hd, e2⟩ := h
    refine ⟨labNew lab' w5 0, b', h1.trans (labNew_eq _ _ _) hs, (hd.relab (labNew_eq lab' w5 0)).foot f (fun i hi hf => ?_), e2⟩
    rcases hF i hf with ⟨h2, h3⟩ | h2
    · rw [labNew_old (by omega), h1 i h2] at hi; exact h3 hi
    · rw [labNew_new h2] at hi; exact isD_zero hi
  | fin st => obtain ⟨d, hd, e⟩ := h; exact ⟨d, Blk.foot hd f hx, e⟩
set_option maxRecDepth 100000 in
theorem diDoes {w : World} {lab : Nat → Nat} {b : DB} {c : ScT} {t : DT} (h : DiaR w lab b c t) (hc : c.fit) (hf : t.fit c) (hm : Calm t) (tick at_ : Int) : Calls Tryz.prog 135 #[.pointer (some ⟨b.x, 0, none⟩), .agg #[.int .i64 tick, .int .i64 at_, .int .i64 0, .int .i64 0, .int .i64 0, .int .i64 0]] w fun e w' => e = .returned (.agg #[.int .i64 tick, .int .i64 at_, .int .i64 (dstepT c t).what, .int .i64 (dstepT c t).arm, .int .i64 (dstepT c t).n, .int .i64 0]) ∧ Foot (fun i => isD (lab i)) w w' ∧ DEnd w lab w' b c (dstepT c t).out := by
  have hn : i64 t.now := by have := hf.now; unfold i64; omega
  obtain ⟨nn, a, ho1, hnn, ha⟩ := hc.o1
  unfold dstepT
  cases hop : opAt c t with
  | none => exact (doDone h hf.a hm.1 (opVal_none hop) ⟨tick, at_, 0, 0, 0, 0⟩).mono fun e w' ⟨h1, h2, h3⟩ => ⟨h1, h3, h2⟩
  | some o =>
    have h01 : t.at_ = 0 ∨ t.at_ = 1 := by
      unfold opAt at hop
      by_cases h0 : t.at_ = 0
      · exact .inl h0
      · by_cases h1 : t.at_ = 1
        · exact .inr h1
        · rw [if_neg h0, if_neg h1] at hop; cases hop
    cases o with
    | send u =>
      have h0 : t.at_ = 0 := by
        rcases h01 with h0 | h1
        · exact h0
        · unfold opAt at hop; rw [if_neg (by omega), if_pos h1, ho1] at hop; cases hop
      obtain ⟨i1, i2, i3⟩ := hf.w0 h0
      by_cases hr : 0 < t.tx.size - t.ld
      · dsimp only
        rw [if_pos hr]
        exact (doLoad h hf.a hm.1 (opVal_send hop) hr ⟨tick, at_, 0, 0, 0, 0⟩).mono fun e w' ⟨l, b', h1, h2, h3, h4, h5⟩ => ⟨h1, h5, l, b', h2, h3, h4⟩
      · dsimp only
        rw [if_neg hr]
        exact (doSent h hf.a hm.1 (opVal_send hop) (by omega) hc i2 i1 hn h0 ⟨tick, at_, 0, 0, 0, 0⟩).mono fun e w' ⟨l, b', h1, h2, h3, h4, h5⟩ => ⟨h1, h5, l, b', h2, h3, h4⟩
    | pause n =>
      have h0 : t.at_ = 0 := by
        rcases h01 with h0 | h1
        · exact h0
        · unfold opAt at hop; rw [if_neg (by omega), if_pos h1, ho1] at hop; cases hop
      obtain ⟨i1, i2, i3⟩ := hf.w0 h0
      exact (doWoke h hf.a hm.1 (opVal_pause hop) hc i2 i1 hn h0 ⟨tick, at_, 0, 0, 0, 0⟩).mono fun e w' ⟨l, b', h1, h2, h3, h4, h5⟩ => ⟨h1, h5, l, b', h2, h3, h4⟩
    | expect n a' =>
      have h1 : t.at_ = 1 := by
        rcases h01 with h0 | h1
        · unfold opAt at hop; rw [if_pos h0] at hop
          rcases hc.o0 with ⟨u, e, _⟩ | ⟨m, e, _⟩ <;> rw [e] at hop <;> cases hop
        · exact h1
      obtain ⟨i1, ⟨p, hp, hpn⟩, i3⟩ := hf.w1 h1
      have hoo : OpT.expect nn a = OpT.expect n a' := by unfold opAt at hop; rw [if_neg (by omega), if_pos h1, ho1] at hop; injection hop
      obtain ⟨rfl, rfl⟩ : nn = n ∧ a = a' := by injection hoo with e1 e2; exact ⟨e1, e2⟩
      dsimp only
      rw [hp, Option.getD_some]
      obtain ⟨T, hT⟩ : ∃ T, lookT c.n t.win p t.inb 0 = T := ⟨_, rfl⟩
      rw [hT]
      by_cases hh : T.isHit = true
      · rw [if_pos hh]
        cases a with
        | none =>
          exfalso
          obtain rfl := hpn ⟨nn, ho1⟩
          rw [← hT, lookT_no] at hh
          cases hh
        | some pk =>
          obtain ⟨pp, k⟩ := pk
          obtain ⟨g1, g2, rfl, g4⟩ := ha pp k rfl
          obtain ⟨ag, ac, he, hag⟩ := opVal_exp1 (b := b) hop
          obtain ⟨k1, k2, k3, k4⟩ := hag w lab h
          have k5 : ¬ isLk (lab ag) := by rw [k2]; intro e; have := e.2; omega
          exact (doHit h hf.a hm.1 he hp i1 hT hh (by omega) ⟨k1, k4⟩ k5 ⟨tick, at_, 0, 0, 0, 0⟩).mono fun e w' ⟨l, b', h1, h2, h3, h4, h5⟩ => ⟨h1, h5, l, b', h2, h3, h4⟩
      · have hh' : T.isHit = false := by simpa using hh
        rw [if_neg hh]
        obtain ⟨ao, mm, cc, he⟩ : ∃ ao mm cc, opVal c b t = .agg #[.int .i64 2, .string ⟨#[]⟩, .int .i64 nn, .int .i64 0, .slice ao mm cc, .int .i64 (-1), .int .i64 (-1)] := by
          cases a with
          | none => exact ⟨_, _, _, opVal_exp0 hop⟩
          | some pk => obtain ⟨ag, ac, he, _⟩ := opVal_exp1 (b := b) (p := pk.1) (k := pk.2) hop; exact ⟨_, _, _, he⟩
        by_cases hfu : T.isFull = true
        · rw [if_pos hfu]
          exact (doFull h hf.a hm.1 he hp i1 hT hh' hfu ⟨tick, at_, 0, 0, 0, 0⟩).mono fun e w' ⟨h1, h2, h3⟩ => ⟨h1, h3, h2⟩
        · have hfu' : T.isFull = false := by simpa using hfu
          rw [if_neg hfu]
          exact (doNone h hf.a hm.1 he hp i1 hT hh' hfu' (hm.2 h1) ⟨tick, at_, 0, 0, 0, 0⟩).mono fun e w' ⟨l, b', h1, h2, h3, h4, h5⟩ => ⟨h1, h5, l, b', h2, h3, h4⟩
end Go.Proofs.YtbhgmccaecmpjaaGreat

namespace Go.Proofs.YtbhgmccaecmpjaaGreat
set_option linter.unusedVariables false
set_option linter.unusedSimpArgs false
open Go.RowKit

section
variable {P : Program} {ops : Array Oper} {Q : Exit → Act → World → Prop} {md : Region.Mode} {S : World → Prop} {Z : Nat → Bool} {R : List Nat} {K : Act → World → Prop}
def wpAnyZ (P : Program) (md : Region.Mode) (ops : Array Oper) (Q : Exit → Act → World → Prop) (S : World → Prop) (Z : Nat → Bool) : Nat → Array Bool → Act → World → Prop
  | 0, listed, a, w => Region.ready md ops listed = [] ∧ Q .normal a w
  | fuel + 1, listed, a, w =>
    (Region.ready md ops listed = [] → Q .normal a w) ∧
    ∀ i ∈ Region.ready md ops listed, wpOp P ops Q i (fun a' w' => (Z i = true ∨ (S w → S w')) ∧ wpAnyZ P md ops Q S Z fuel (listed.setIfInBounds i true) a' w') a w
theorem wpAny_of_Z : ∀ (fuel : Nat) (listed : Array Bool) (a : Act) (w : World), wpAnyZ P md ops Q S Z fuel listed a w → wpAny P md ops Q fuel listed a w
  | 0, _, _, _, h => h
  | fuel + 1, _, _, _, h => ⟨h.1, fun i hi => wpOp_mono (fun a' w' h' => wpAny_of_Z fuel _ a' w' h'.2) (h.2 i hi)⟩
/-- What waits for all reads. -/
def Late (md : Region.Mode) (ops : Array Oper) (Z : Nat → Bool) (R : List Nat) : Prop := ∀ z, Z z = true → ∃ r, leadB md ops z r = true ∧ ∀ k ∈ R, k ∈ r
theorem wpAnyZ_first {i : Nat} {oi : Oper} {v : Value} (hi : ops[i]? = some oi) (hiR : i ∈ R) (hL : Late md ops Z R) (hiZ : Z i = false) (hsel : ∀ (j : Nat) (o : Oper) cs b, ops[j]? = some o → o.op ≠ .select cs b)
    (hQ : ∀ c a w, Q (.panic c) (a.put oi.dst v) w → Q (.panic c) a w) :
    ∀ (fuel : Nat) (listed : Array Bool) (a : Act) (w : World), Closed md ops listed →
      (∀ j oj, ops[j]? = some oj → j ≠ i → listed.getD j true = false → (∀ e ∈ oj.after, Region.binds md e = true → e.on ≠ i) → oi.apart ops oj = true) →
      i ∈ Region.ready md ops listed → YieldsIf P ops S oi v a → S w →
      wpAnyZ P md ops Q S Z fuel (listed.setIfInBounds i true) (a.put oi.dst v) w → wpAnyZ P md ops Q S Z (fuel + 1) listed a w := by
  intro fuel
  induction fuel with
  | zero =>
    intro listed a w _ _ hr hy hS H
    refine ⟨fun h => (by rw [h] at hr; cases hr), fun j hj => ?_⟩
    by_cases hji : j = i
    · subst hji; exact hy.wpOp hi hS ⟨.inr (fun h => h), H⟩
    · have := ready_mono hj hji
      rw [H.1] at this
      cases this
  | succ fuel ih =>
    intro listed a w hcl hfree hr hy hS H
    refine ⟨fun h => (by rw [h] at hr; cases hr), fun j hj => ?_⟩
    by_cases hji : j = i
    · subst hji; exact hy.wpOp hi hS ⟨.inr (fun h => h), H⟩
    · have h1 := H.2 j (ready_mono hj hji)
      obtain ⟨hjun, oj, hoj, hall⟩ := mem_ready.1 hj
      have hiun : listed.getD i false = true → False := fun h1 => by
        have h0 := (mem_ready.1 hr).1
        rcases Nat.lt_or_ge i listed.size with h' | h'
        · simp [h'] at h0 h1; rw [h0] at h1; cases h1
        · simp [Array.getElem?_eq_none h'] at h1
      have hjZ : Z j = false := by
        cases hz : Z j with
        | false => rfl
        | true =>
          exfalso
          obtain ⟨r, hlead, hsub⟩ := hL j hz
          exact hiun (lead_all hcl hj r hlead i (hsub i hiR))
      have hnot : ∀ e ∈ oj.after, Region.binds md e = true → e.on ≠ i := fun e he hb heq => hiun (by have h1 := hall e he hb; rwa [heq] at h1)
      have h2 := wpOp_putIf hoj (hfree j oj hoj hji hjun hnot) (fun cs b => hsel i oi cs b hi) (fun cs b => hsel j oj cs b hoj) hQ hy h1
      have hfree' : ∀ k ok, ops[k]? = some ok → k ≠ i → (listed.setIfInBounds j true).getD k true = false →
          (∀ e ∈ ok.after, Region.binds md e = true → e.on ≠ i) → oi.apart ops ok = true := fun k ok hk hki hun hno => by
        refine hfree k ok hk hki ?_ hno
        by_cases hjk : j = k
        · subst hjk; exact hjun
        · rw [getD_set_ne true hjk] at hun; exact hun
      refine wpOp_mono (fun a' w' h3 => ?_) h2
      have hS' : S w' := by
        rcases h3.2.1 with h4 | h4
        · rw [hjZ] at h4; cases h4
        · exact h4 hS
      refine ⟨.inr (fun _ => hS'), ih (listed.setIfInBounds j true) a' w' (hcl.put hj) hfree' (ready_mono hr (Ne.symm hji)) h3.1 hS' ?_⟩
      rw [Array.setIfInBounds_comm _ _ hji]
      exact h3.2.2

/-- Reads, in an order of one's own. -/
def wpTake (P : Program) (ops : Array Oper) (S : World → Prop) (K : Act → Prop) : List Oper → Act → Prop
  | [], a => K a
  | o :: l, a => ∃ v, YieldsIf P ops S o v a ∧ wpTake P ops S K l (a.put o.dst v)
def takeB (md : Region.Mode) (ops : Array Oper) (Z : Nat → Bool) (R : List Nat) : List Nat → Array Bool → Bool
  | [], _ => true
  | k :: r, listed => (Region.ready md ops listed).contains k && Region.free md ops listed k && R.contains k && !Z k && takeB md ops Z R r (listed.setIfInBounds k true)
theorem Closed.all : ∀ (r : List Nat) (listed : Array Bool), Closed md ops listed → takeB md ops Z R r listed = true → Closed md ops (markAll listed r)
  | [], _, h, _ => h
  | k :: r, listed, h, hB => by
    simp only [takeB, Bool.and_eq_true] at hB
    exact Closed.all r _ (h.put (by simpa using hB.1.1.1.1)) hB.2
theorem wpAnyZ_take {n : Nat} (hs : Region.noSelect ops = true) (hQ : ∀ c a t v w, Q (.panic c) (Act.put a t v) w → Q (.panic c) a w) (hL : Late md ops Z R) :
    ∀ (r : List Nat) (l : List Oper) (listed : Array Bool) (a : Act) (w : World), l.map some = r.map (fun k => ops[k]?) → takeB md ops Z R r listed = true → Closed md ops listed → S w → wpTake P ops S (fun a' => wpAnyZ P md ops Q S Z n (markAll listed r) a' w) l a →
      wpAnyZ P md ops Q S Z (r.length + n) listed a w
  | [], l, listed, a, w, hl, hB, hcl, hS, h => by
    obtain rfl : l = [] := by simpa using hl
    rw [List.length_nil, Nat.zero_add]
    exact h
  | k :: r, [], _, _, _, hl, _, _, _, _ => by simp at hl
  | k :: r, o :: l, listed, a, w, hl, hB, hcl, hS, h => by
    simp only [List.map_cons, List.cons.injEq] at hl
    obtain ⟨h0, hl'⟩ := hl
    have h0 := h0.symm
    simp only [takeB, Bool.and_eq_true] at hB
    obtain ⟨⟨⟨⟨hr, hf⟩, hR⟩, hz⟩, hB'⟩ := hB
    rw [List.length_cons, Nat.succ_add]
    obtain ⟨v, hy, h⟩ := h
    have hr' : k ∈ Region.ready md ops listed := by simpa using hr
    exact wpAnyZ_first h0 (by simpa using hR) hL (by simpa using hz) (Region.noSelect_spec hs) (fun c a w => hQ c a o.dst v w) _ listed a w hcl (Region.free_spec h0 hf) hr' hy hS (wpAnyZ_take hs hQ hL r l _ _ w hl' hB' (hcl.put hr') hS h)
theorem wpAnyZ_one {i n : Nat} {oi : Oper} {listed : Array Bool} {a : Act} {w : World} (hr : Region.ready md ops listed = [i]) (hi : ops[i]? = some oi) (wi : Region.wanted oi (yielded ops a.tmps) = true)
    (h1 : ∀ K : Act → World → Prop, Shut (∀ a' w', (Z i = true ∨ (S w → S w')) → wpAnyZ P md ops Q S Z n (listed.setIfInBounds i true) a' w' → K a' w') → oi.wp P a w K Q) : wpAnyZ P md ops Q S Z (n + 1) listed a w := by
  refine ⟨fun e => (by rw [hr] at e; cases e), fun k hk => ?_⟩
  obtain rfl : k = i := by rw [hr] at hk; simpa using hk
  unfold wpOp
  rw [hi]
  simp only [wi, if_true]
  exact .inl (h1 _ fun a' w' hS hh => ⟨hS, hh⟩)
theorem wpAnyZ_two {i j n : Nat} {oi oj : Oper} {listed : Array Bool} {a : Act} {w : World} (hr : Region.ready md ops listed = [i, j]) (hi : ops[i]? = some oi) (hj : ops[j]? = some oj)
    (wi : Region.wanted oi (yielded ops a.tmps) = true) (wj : Region.wanted oj (yielded ops a.tmps) = true)
    (h1 : ∀ K : Act → World → Prop, Shut (∀ a' w', (Z i = true ∨ (S w → S w')) → wpAnyZ P md ops Q S Z n (listed.setIfInBounds i true) a' w' → K a' w') → oi.wp P a w K Q)
    (h2 : ∀ K : Act → World → Prop, Shut (∀ a' w', (Z j = true ∨ (S w → S w')) → wpAnyZ P md ops Q S Z n (listed.setIfInBounds j true) a' w' → K a' w') → oj.wp P a w K Q) : wpAnyZ P md ops Q S Z (n + 1) listed a w := by
  refine ⟨fun e => (by rw [hr] at e; cases e), fun k hk => ?_⟩
  have hk : k = i ∨ k = j := by rw [hr] at hk; simpa using hk
  rcases hk with rfl | rfl
  · unfold wpOp
    rw [hi]
    simp only [wi, if_true]
    exact .inl (h1 _ fun a' w' hS hh => ⟨hS, hh⟩)
  · unfold wpOp
    rw [hj]
    simp only [wj, if_true]
    exact .inl (h2 _ fun a' w' hS hh => ⟨hS, hh⟩)
theorem anyZ_done {listed : Array Bool} {a : Act} {w : World} (hr : (Region.ready md ops listed).isEmpty = true) (h : Q .normal a w) : wpAnyZ P md ops (NoPanic Q) S Z 0 listed a w := ⟨by simpa using hr, h⟩
def inZ (zs : List (Nat × List Nat)) (i : Nat) : Bool := zs.any fun p => p.1 == i
def lateB (md : Region.Mode) (ops : Array Oper) (zs : List (Nat × List Nat)) (R : List Nat) : Bool := zs.all fun p => leadB md ops p.1 p.2 && R.all fun k => p.2.contains k
theorem late_of {zs : List (Nat × List Nat)} (h : lateB md ops zs R = true) : Late md ops (inZ zs) R := fun z hz => by
  obtain ⟨p, hp, e⟩ := List.any_eq_true.1 hz
  obtain rfl : p.1 = z := by simpa using e
  have h1 := List.all_eq_true.1 h p hp
  simp only [Bool.and_eq_true] at h1
  exact ⟨p.2, h1.1, fun k hk => by simpa using List.all_eq_true.1 h1.2 k hk⟩
/-- The reads of the list r come first, then what is left. -/
theorem wp_region_Z {id n : Nat} {l : List Oper} {a : Act} {w : World} (zs : List (Nat × List Nat)) (r : List Nat) (hm : P.follows .mixedOrders = true) (hs : Region.noSelect l.toArray = true) (hlen : r.length + n = l.length) (hall : r.all (fun k => decide (k < l.length)) = true)
    (hlate : lateB .any l.toArray zs r = true) (hB : takeB .any l.toArray (inZ zs) r r (Array.replicate l.toArray.size false) = true) (hS : S w.drew)
    (h : wpTake P l.toArray S (fun a' => wpAnyZ P .any l.toArray (NoPanic Q) S (inZ zs) n (markAll (Array.replicate l.toArray.size false) r) a' w.drew) (pickL r l) a) : (Code.region id l.toArray true).wp P Q a w := by
  refine wp_region_noPanic ?_
  refine wp_region_any hm (wpAny_of_Z (S := S) (Z := inZ zs) _ _ _ _ ?_)
  have := wpAnyZ_take (md := .any) (Q := NoPanic Q) (n := n) hs (fun _ _ _ _ _ h => h) (late_of hlate) r _ _ a w.drew (pickL_map hall) hB (Closed.start _) hS h
  rw [hlen] at this
  simpa using this
variable {o : Oper} {l : List Oper} {a : Act} {K1 : Act → Prop}
theorem take_one {v : Value} (hw : Region.wanted o (yielded ops a.tmps) = true) (hy : ∀ w, S w → (execOp a.eval o).run P w = .ok (.value v) w) (h : wpTake P ops S K1 l (a.put o.dst v)) : wpTake P ops S K1 (o :: l) a := ⟨v, .inl ⟨hw, hy⟩, h⟩
theorem take_end (h : K1 a) : wpTake P ops S K1 [] a := h
end
end Go.Proofs.YtbhgmccaecmpjaaGreat

namespace Go.Proofs.YtbhgmccaecmpjaaGreat
set_option linter.unusedVariables false
set_option linter.unusedSimpArgs false
open Go.RowKit

theorem alloc_cell {w : World} {p : Addr} {v : Value} (h : w.cell? p = some v) (o : Obj) : (w.alloc o).cell? p = some v := ((Below.alloc (Below.refl w.heap.size w) (Nat.le_refl _) o).cell (block_lt h)).trans h
/-- What is left behind, and blocks that are none of the dialogue's. -/
def DEndN (w : World) (lab : Nat → Nat) (w' : World) (b : DB) (c : ScT) (N : Nat → Prop) : SOut → Prop
  | .run t => ∃ lab' b', LabEq lab lab' w ∧ DiaR w' lab' b' c t ∧ b'.x = b.x ∧ ∀ i, N i → ¬ isD (lab' i)
  | .fin st => DiE w' b.x st ∧ ¬ N b.x
theorem DEndN.foot {w w5 w4 : World} {lab : Nat → Nat} {b : DB} {c : ScT} {N : Nat → Prop} {o : SOut} (h : DEndN w lab w5 b c N o) (f : Foot N w5 w4) : DEnd w lab w4 b c o := by
  cases o with
  | run t => obtain ⟨lab', b', h1, hd, e2, hN⟩ := h; exact ⟨lab', b', h1, hd.foot f (fun i hi hn => hN i hn hi), e2⟩
  | fin st => obtain ⟨⟨d, hd, e⟩, hn⟩ := h; exact ⟨d, Blk.foot hd f hn, e⟩
theorem DEndN.status {w w' : World} {lab : Nat → Nat} {b : DB} {c : ScT} {N : Nat → Prop} {o : SOut} (h : DEndN w lab w' b c N o) : ∃ d, DiB w' b.x d ∧ d.st = o.st := by
  cases o with
  | run t => obtain ⟨lab', b', _, hd, e, _⟩ := h; exact ⟨_, e ▸ hd.blk, rfl⟩
  | fin st => exact h.1
/-- A step's number, laid by. -/
def StJ (w w4 : World) (lab : Nat → Nat) (b : DB) (c : ScT) (r : SRes) (tick at_ : Int) (q q6 : Nat) : Prop :=
  DEndN w lab w4 b c (fun i => i = q ∨ i = q6) r.out ∧ Foot (fun i => isD (lab i)) w w4 ∧ Blk w4 q 67 #[.int .i64 0, .int .i64 0, .int .i64 0, .int .i64 0, .int .i64 0, .int .i64 0] ∧ Blk w4 q6 67 #[.int .i64 tick, .int .i64 at_, .int .i64 r.what, .int .i64 r.arm, .int .i64 r.n, .int .i64 0] ∧ q ≠ q6 ∧ b.x ≠ q6 ∧ w.heap.size ≤ q6
theorem StJ.mk {w wS w5 w4 : World} {lab : Nat → Nat} {b : DB} {c : ScT} {r : SRes} {tick at_ : Int} {q q6 : Nat} (hb : Foot (fun i => isD (lab i)) w wS) (hq : w.heap.size = q) (KB : Blk wS q 67 #[.int .i64 0, .int .i64 0, .int .i64 0, .int .i64 0, .int .i64 0, .int .i64 0])
    (hE : DEnd wS (labNew lab w 0) w5 b c r.out) (ff : Foot (fun i => isD (labNew lab w 0 i)) wS w5) (fF : Foot (fun i => i = q6) w5 w4) (KF : Blk w4 q6 67 #[.int .i64 tick, .int .i64 at_, .int .i64 r.what, .int .i64 r.arm, .int .i64 r.n, .int .i64 0]) (hq6 : q < q6) (hx : b.x < q) (h6 : q6 < wS.heap.size ∨ w5.heap.size ≤ q6) : StJ w w4 lab b c r tick at_ q q6 := by
  have z1 : ∀ i, w.heap.size ≤ i → ¬ isD (labNew lab w 0 i) := fun i hi => by rw [labNew_new hi]; exact isD_zero
  have sz := hb.size
  have sz5 := ff.size
  have lq := KB.lt
  refine ⟨?_, (hb.then ff (fun i hi e => by rw [labNew_old hi] at e; exact e)).then fF (fun i hi e => by omega), (KB.foot ff (z1 q (by omega))).foot fF (by omega), KF, by omega, by omega, by omega⟩
  have e1 := labNew_eq lab w 0
  generalize r.out = o at *
  cases o with
  | run t =>
    obtain ⟨lab', b', h1, hd, e2⟩ := hE
    have hz : ∀ i, i = q ∨ i = q6 → labNew lab' w5 0 i = 0 := fun i hi => by
      rcases hi with hi | hi
      · rw [hi, labNew_old (by omega), h1 q lq, labNew_new (by omega)]
      · rw [hi]
        rcases h6 with h | h
        · rw [labNew_old (by omega), h1 q6 h, labNew_new (by omega)]
        · exact labNew_new h
    exact ⟨labNew lab' w5 0, b', (e1.trans h1 sz).trans (labNew_eq _ _ _) (by omega), (hd.relab (labNew_eq lab' w5 0)).foot fF (fun i hi e => by rw [hz i (.inr e)] at hi; exact isD_zero hi), e2, fun i hi => by rw [hz i hi]; exact isD_zero⟩
  | fin st =>
    obtain ⟨d, hd, e⟩ := hE
    exact ⟨⟨d, Blk.foot hd fF (by omega), e⟩, by rintro (h | h) <;> omega⟩
set_option maxRecDepth 100000 in
set_option maxHeartbeats 4000000 in
theorem diStep {w : World} {lab : Nat → Nat} {b : DB} {c : ScT} {t : DT} (h : DiaR w lab b c t) (hc : c.fit) (now : Int) (hn : t.now ≤ now) (hf : DT.fit c { t with now := now }) (hm : Calm { t with now := now }) (hr : readyT c t now = true) :
    Calls Tryz.prog 102 #[.pointer (some ⟨b.x, 0, none⟩), .int .i64 now] w fun e w' => e = .returned (.tuple #[.agg #[.int .i64 now, .int .i64 (t.at_ : Nat), .int .i64 (dstepT c { t with now := now }).what, .int .i64 (dstepT c { t with now := now }).arm, .int .i64 (dstepT c { t with now := now }).n, .int .i64 (dstepT c { t with now := now }).out.st], .bool true]) ∧ Foot (fun i => isD (lab i)) w w' ∧ DEnd w lab w' b c (dstepT c { t with now := now }).out := by
  obtain ⟨q, hq⟩ : ∃ q, w.heap.size = q := ⟨_, rfl⟩
  obtain ⟨w1, hw1⟩ : ∃ w1, w1 = w.alloc (.cells #[.int .i64 0, .int .i64 0, .int .i64 0, .int .i64 0, .int .i64 0, .int .i64 0] 67) := ⟨_, rfl⟩
  have b1 : Below w.heap.size w w1 := by rw [hw1]; exact Below.alloc (Below.refl _ _) (Nat.le_refl _) _
  have K1 : Blk w1 q 67 #[.int .i64 0, .int .i64 0, .int .i64 0, .int .i64 0, .int .i64 0, .int .i64 0] := by rw [hw1, ← hq]; exact Blk.new _ _ _
  have e1 := labNew_eq lab w 0
  have H1 := (h.relab e1).later b1
  have FR : Hid (Calls Tryz.prog 60 #[.pointer (some ⟨b.x, 0, none⟩), .int .i64 now] w1 fun e w' => e = .returned (.bool true) ∧ Below w1.heap.size w1 w') := Lib.hid <| by have := diReady H1 hf.a now hn hm.1; rwa [hr] at this
  have hmx : max t.now now = now := by omega
  have HQ := Lib.hid hq
  have HW1 := Lib.hid hw1
  have B1 := Lib.hid b1
  have HX := Lib.hid h.lt.1
  have HN := Lib.hid h.lab
  have HFM := Lib.hid (And.intro hc (And.intro hf hm))
  have HZ : Hid (∀ i, w.heap.size ≤ i → ¬ isD (labNew lab w 0 i)) := Lib.hid fun i hi => by rw [labNew_new hi]; exact isD_zero
  obtain ⟨r, hrr⟩ : ∃ r, dstepT c { t with now := now } = r := ⟨_, rfl⟩
  rw [hrr]
  have HR := Lib.hid hrr
  clear h hw1 hq e1 b1 hc hn hf hm hr hrr
  go_enter Tryz.func102, Tryz.ntmps102
  go_upto_region 1 with fail
  rw [← HW1.out, HQ.out]
  go_wp2_with fail
  refine FR.out.mono ?_; rintro e w2 ⟨rfl, b2⟩
  have H2 := H1.later b2
  have K2 := K1.later b2
  have d : ∀ w', Below w2.heap.size w2 w' → w'.cell? ⟨b.x, 20, none⟩ = some (.int .i64 t.now) ∧ ∀ i, w'.frozen? ⟨b.x, i, none⟩ = false := fun w' hw => ⟨(Blk.later H2.blk hw).cell 20, fun i => (Blk.later H2.blk hw).frozen i⟩
  have hr := Below.refl w2.heap.size w2
  have h3 : DiB _ b.x (({ t with now := now } : DT).dc c b 0) := DiB.setNow H2.blk now
  have f3 : Foot (fun i => i = b.x) w2 (w2.setCell ⟨b.x, 20, none⟩ (.int .i64 now)) := foot_set (fun i => i = b.x) (Foot.refl _ w2) b.x 20 rfl _
  have H3 := H2.own (t' := { t with now := now }) f3 h3 rfl rfl rfl ⟨rfl, rfl, rfl, rfl⟩ (fun e => e)
  have hxq : b.x < q := by have := HX.out; have := HQ.out; omega
  have K3 := K2.far (p := ⟨b.x, 20, none⟩) (by show q ≠ b.x; omega) (.int .i64 now)
  obtain ⟨w3, hw3⟩ : ∃ w3, w3 = w2.setCell ⟨b.x, 20, none⟩ (.int .i64 now) := ⟨_, rfl⟩
  rw [← hw3] at h3 f3 H3 K3
  have HW3 := Lib.hid hw3
  have F3 : Hid (Foot (fun i => isD (lab i)) w w3) := Lib.hid ((Foot.later (B1.out.up b2) : Foot (fun i => isD (lab i)) w w2).then f3 (fun i hi e => by rw [e, HN.out.x]; exact ⟨by omega, by omega⟩))
  have H3 := Lib.hid H3
  have K3 := Lib.hid K3
  have FD : Hid (∀ wS, Below w3.heap.size w3 wS → Calls Tryz.prog 135 #[.pointer (some ⟨b.x, 0, none⟩), .agg #[.int .i64 now, .int .i64 (t.at_ : Nat), .int .i64 0, .int .i64 0, .int .i64 0, .int .i64 0]] wS fun e w' => e = .returned (.agg #[.int .i64 now, .int .i64 (t.at_ : Nat), .int .i64 r.what, .int .i64 r.arm, .int .i64 r.n, .int .i64 0]) ∧ Foot (fun i => isD (labNew lab w 0 i)) wS w' ∧ DEnd wS (labNew lab w 0) w' b c r.out) := Lib.hid fun wS hb => by
    have := diDoes (H3.out.later hb) HFM.out.1 HFM.out.2.1 HFM.out.2.2 now (t.at_ : Nat)
    rw [HR.out] at this
    exact this
  clear hw3 H1 H2 K1 K2 h3 f3 b2 FR HR
  go_upto_region 4 with fail
  rw [← HW3.out]
  clear d hr
  go_cut [6] (fun v wx => ∃ q6 : Nat, v = .pointer (some ⟨q6, 0, none⟩) ∧ Hid (StJ w wx lab b c r now (t.at_ : Nat) q q6))
  case first =>
    have D3 : Below w3.heap.size w3 w3.drew := (Below.refl _ _).drew
    have d20 : w3.drew.cell? ⟨b.x, 20, none⟩ = some (.int .i64 now) := Blk.cell (Blk.drew H3.out.blk) 20
    have d10 : w3.drew.cell? ⟨b.x, 10, none⟩ = some (.int .i64 (t.at_ : Nat)) := Blk.cell (Blk.drew H3.out.blk) 10
    have l3 := K3.out.lt
    refine wp_region_Z (n := 3) (S := fun w' => w'.cell? ⟨b.x, 20, none⟩ = some (.int .i64 now) ∧ w'.cell? ⟨b.x, 10, none⟩ = some (.int .i64 (t.at_ : Nat))) [(10, [0, 1, 2, 3, 4, 5, 6, 7, 8, 9]), (12, [0, 1, 2, 3, 4, 5, 6, 7, 8, 9, 10])] [0, 1, 2, 3, 4, 5, 6, 7, 8, 9] (by kernel_rfl) (by kernel_rfl) (by kernel_rfl) (by kernel_rfl) (by kernel_rfl) (by kernel_rfl) ⟨d20, d10⟩ ?_
    simp only [pickL, List.filterMap_cons, List.filterMap_nil, List.getElem?_cons_zero, List.getElem?_cons_succ]
    repeat (refine take_one (v := ?_) (by rfl) ?_ ?_; rotate_left; (focus (intro w hSw; (try dsimp only at hSw); go_simp; (try with_reducible rfl))); simp only [Act.put, List.setIfInBounds_toArray, List.set_cons_zero, List.set_cons_succ])
    refine take_end ?_
    refine wpAnyZ_two (i := 10) (j := 11) (by kernel_rfl) (by rfl) (by rfl) (by rfl) (by rfl) (fun KK hK => ?_) (fun KK hK => ?_)
    · simp only [List.getElem_toArray, List.getElem_cons_succ, List.getElem_cons_zero]
      try go_simp
      refine (FD.out _ D3).mono ?_; rintro e w5 ⟨rfl, f5, e5⟩
      try go_wp2_with fail
      refine hK.out _ w5 (.inl (by kernel_rfl)) ?_
      clear hK KK
      try simp only [Act.put, List.setIfInBounds_toArray, List.set_cons_zero, List.set_cons_succ]
      refine wpAnyZ_one (i := 11) (by kernel_rfl) (by rfl) (by rfl) (fun KK hK => ?_)
      simp only [List.getElem_toArray, List.getElem_cons_succ, List.getElem_cons_zero]
      try go_simp
      have b6 : Below w5.heap.size w5 (w5.alloc (.cells #[.int .i64 0, .int .i64 0, .int .i64 0, .int .i64 0, .int .i64 0, .int .i64 0] 67)) := Below.alloc (Below.refl _ _) (Nat.le_refl _) _
      have K6 : Blk (w5.alloc (.cells #[.int .i64 0, .int .i64 0, .int .i64 0, .int .i64 0, .int .i64 0, .int .i64 0] 67)) w5.heap.size 67 #[.int .i64 0, .int .i64 0, .int .i64 0, .int .i64 0, .int .i64 0, .int .i64 0] := Blk.new _ _ _
      refine hK.out _ (w5.alloc (.cells #[.int .i64 0, .int .i64 0, .int .i64 0, .int .i64 0, .int .i64 0, .int .i64 0] 67)) (.inr (fun h => ⟨alloc_cell h.1 _, alloc_cell h.2 _⟩)) ?_
      clear hK KK
      try simp only [Act.put, List.setIfInBounds_toArray, List.set_cons_zero, List.set_cons_succ]
      obtain ⟨q6, hq6⟩ : ∃ q6, w5.heap.size = q6 := ⟨_, rfl⟩
      obtain ⟨w6, hw6⟩ : ∃ w6, w6 = w5.alloc (.cells #[.int .i64 0, .int .i64 0, .int .i64 0, .int .i64 0, .int .i64 0, .int .i64 0] 67) := ⟨_, rfl⟩
      rw [← hw6, hq6] at K6
      rw [← hw6] at b6
      rw [← hw6]
      rw [hq6]
      have HQ6 := Lib.hid hq6
      clear hw6 hq6
      refine wpAnyZ_one (i := 12) (by kernel_rfl) (by rfl) (by rfl) (fun KK hK => ?_)
      simp only [List.getElem_toArray, List.getElem_cons_succ, List.getElem_cons_zero]
      have d6 := K6.at6
      have hr6 := Below.refl w6.heap.size w6
      try go_simp
      have f6 := foot_set6 (F := fun i => i = q6) (Foot.later b6) rfl (.int .i64 now) (.int .i64 (t.at_ : Nat)) (.int .i64 r.what) (.int .i64 r.arm) (.int .i64 r.n) (.int .i64 0)
      have K7 := blk_set6 K6 (.int .i64 now) (.int .i64 (t.at_ : Nat)) (.int .i64 r.what) (.int .i64 r.arm) (.int .i64 r.n) (.int .i64 0)
      refine hK.out _ _ (.inl (by kernel_rfl)) ?_
      clear hK KK
      refine anyZ_done (by kernel_rfl) ?_
      try simp only [Act.put, List.setIfInBounds_toArray, List.set_cons_zero, List.set_cons_succ]
      go_wp2_with fail
      go_meet
      have s5 := f5.size
      exact ⟨q6, rfl, Lib.hid (StJ.mk (F3.out.up D3) HQ.out K3.out.drew e5 f5 f6 K7 (by have := HQ6.out; have : w3.drew.heap.size = w3.heap.size := rfl; omega) hxq (.inr (by have := HQ6.out; omega)))⟩
    · simp only [List.getElem_toArray, List.getElem_cons_succ, List.getElem_cons_zero]
      try go_simp
      have bS : Below w3.heap.size w3 (w3.alloc (.cells #[.int .i64 0, .int .i64 0, .int .i64 0, .int .i64 0, .int .i64 0, .int .i64 0] 67)).drew := (Below.alloc (Below.refl _ _) (Nat.le_refl _) _).drew
      have K6 : Blk (w3.alloc (.cells #[.int .i64 0, .int .i64 0, .int .i64 0, .int .i64 0, .int .i64 0, .int .i64 0] 67)).drew w3.heap.size 67 #[.int .i64 0, .int .i64 0, .int .i64 0, .int .i64 0, .int .i64 0, .int .i64 0] := (Blk.new _ _ _).drew
      refine hK.out _ (w3.alloc (.cells #[.int .i64 0, .int .i64 0, .int .i64 0, .int .i64 0, .int .i64 0, .int .i64 0] 67)).drew (.inr (fun h => ⟨alloc_cell h.1 _, alloc_cell h.2 _⟩)) ?_
      clear hK KK
      try simp only [Act.put, List.setIfInBounds_toArray, List.set_cons_zero, List.set_cons_succ]
      obtain ⟨q6, hq6⟩ : ∃ q6, w3.heap.size = q6 := ⟨_, rfl⟩
      obtain ⟨wS, hwS⟩ : ∃ wS, wS = (w3.alloc (.cells #[.int .i64 0, .int .i64 0, .int .i64 0, .int .i64 0, .int .i64 0, .int .i64 0] 67)).drew := ⟨_, rfl⟩
      rw [← hwS, hq6] at K6
      rw [← hwS] at bS
      rw [← hwS]
      try rw [hq6]
      have HQ6 := Lib.hid hq6
      clear hwS hq6
      refine wpAnyZ_one (i := 10) (by kernel_rfl) (by rfl) (by rfl) (fun KK hK => ?_)
      simp only [List.getElem_toArray, List.getElem_cons_succ, List.getElem_cons_zero]
      try go_simp
      refine (FD.out _ bS).mono ?_; rintro e w5 ⟨rfl, f5, e5⟩
      try go_wp2_with fail
      refine hK.out _ w5 (.inl (by kernel_rfl)) ?_
      clear hK KK
      try simp only [Act.put, List.setIfInBounds_toArray, List.set_cons_zero, List.set_cons_succ]
      have s3 := F3.out.size
      have K65 := K6.foot f5 (HZ.out q6 (by have := HQ6.out; omega))
      refine wpAnyZ_one (i := 12) (by kernel_rfl) (by rfl) (by rfl) (fun KK hK => ?_)
      simp only [List.getElem_toArray, List.getElem_cons_succ, List.getElem_cons_zero]
      have d6 := K65.at6
      have hr6 := Below.refl w5.heap.size w5
      try go_simp
      have f6 := foot_set6 (F := fun i => i = q6) (Foot.refl _ w5) rfl (.int .i64 now) (.int .i64 (t.at_ : Nat)) (.int .i64 r.what) (.int .i64 r.arm) (.int .i64 r.n) (.int .i64 0)
      have K7 := blk_set6 K65 (.int .i64 now) (.int .i64 (t.at_ : Nat)) (.int .i64 r.what) (.int .i64 r.arm) (.int .i64 r.n) (.int .i64 0)
      refine hK.out _ _ (.inl (by kernel_rfl)) ?_
      clear hK KK
      refine anyZ_done (by kernel_rfl) ?_
      try simp only [Act.put, List.setIfInBounds_toArray, List.set_cons_zero, List.set_cons_succ]
      go_wp2_with fail
      go_meet
      exact ⟨q6, rfl, Lib.hid (StJ.mk (F3.out.up bS) HQ.out (Blk.later K3.out bS) e5 f5 f6 K7 (by have := HQ6.out; omega) hxq (.inl K6.lt))⟩
  case rest =>
  obtain ⟨q6, rfl, HJ⟩ := hcut
  obtain ⟨hE, hF, KQ, K6, hqq, hxq6, hlo6⟩ := HJ.out
  obtain ⟨d0, hd0, hst⟩ := hE.status
  have hq := HQ.out
  have KB6 := K6.set_ 5 (.int .i64 r.out.st)
  have f4 : Foot (fun i => i = q6) wc (wc.setCell ⟨q6, 5, none⟩ (.int .i64 r.out.st)) := foot_set (fun i => i = q6) (Foot.refl _ wc) q6 5 rfl _
  have K6' : Blk (wc.setCell ⟨q6, 5, none⟩ (.int .i64 r.out.st)) q6 67 #[.int .i64 now, .int .i64 (t.at_ : Nat), .int .i64 r.what, .int .i64 r.arm, .int .i64 r.n, .int .i64 r.out.st] := by simpa using KB6
  have KQ4 := KQ.far (p := ⟨q6, 5, none⟩) hqq (.int .i64 r.out.st)
  have d : ∀ w', Below wc.heap.size wc w' → w'.cell? ⟨b.x, 11, none⟩ = some (.int .i64 r.out.st) := fun w' hw => (Blk.cell (Blk.later hd0 hw) 11).trans (by show some (Value.int IntKind.i64 d0.st) = _; rw [hst])
  have d6 := K6.at6
  have hr := Below.refl wc.heap.size wc
  have HE := Lib.hid hE
  have HF := Lib.hid hF
  have HQQ := Lib.hid (And.intro hqq (And.intro hxq6 hlo6))
  obtain ⟨w4, hw4⟩ : ∃ w4, w4 = wc.setCell ⟨q6, 5, none⟩ (.int .i64 r.out.st) := ⟨_, rfl⟩
  rw [← hw4] at K6' KQ4 f4
  have HW4 := Lib.hid hw4
  clear hw4 KB6 HJ hE hF hqq hxq6 hlo6 hst hd0 FD
  go_upto_region 6 with fail
  rw [← HW4.out]
  clear d d6 hr
  have dA := K6'.at6
  have dB := KQ4.at6
  have hr := Below.refl w4.heap.size w4
  go_wp2_with fail
  have ff := foot_set6 (F := fun i => i = q ∨ i = q6) (f4.mono fun i hi => .inr hi) (.inl rfl) (.int .i64 now) (.int .i64 (t.at_ : Nat)) (.int .i64 r.what) (.int .i64 r.arm) (.int .i64 r.n) (.int .i64 r.out.st)
  (try simp only [Exit.inBlock, Exit.then])
  refine bodyPost_ret (v := .tuple #[.agg #[.int .i64 now, .int .i64 (t.at_ : Nat), .int .i64 r.what, .int .i64 r.arm, .int .i64 r.n, .int .i64 r.out.st], .bool true]) ?_ rfl ⟨rfl, ?_, ?_⟩
  · rw [results_cell_tmp rfl]
    go_simp
  · exact HF.out.then ff (fun i hi e => by have := HQQ.out; omega)
  · exact HE.out.foot ff
end Go.Proofs.YtbhgmccaecmpjaaGreat
