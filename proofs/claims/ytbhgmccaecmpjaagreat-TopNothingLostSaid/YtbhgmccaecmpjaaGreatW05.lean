/-
  A region whose order Go leaves open, met once, in an order of one's own, with a last operation behind which what was read need not hold any more: 'x.f = append(x.f, ..)'.
  Conditions: none; over any program.
-/
import Derived.Test.YtbhgmccaecmpjaaGreatW04
import Derived.Test.YtbhgmccaecmpjaaGreatW03
import Derived.Test.YtbhgmccaecmpjaaGreatW01
namespace Go.Proofs.YtbhgmccaecmpjaaGreat
set_option linter.unusedVariables false
set_option linter.unusedSimpArgs false
open Go.RowKit

/-- What is met alone: a call, a slice that is made, a store. -/
def isLoneL (o : Oper) : Bool := isLone o || (match o.op with | .store _ _ _ => true | _ => false)
section
variable {P : Program} {ops : Array Oper} {Q : Exit → Act → World → Prop} {md : Region.Mode} {S : World → Prop} {z : Nat}

def wpAnyL (P : Program) (md : Region.Mode) (ops : Array Oper) (Q : Exit → Act → World → Prop) (S : World → Prop) (z : Nat) : Nat → Array Bool → Act → World → Prop
  | 0, listed, a, w => Region.ready md ops listed = [] ∧ Q .normal a w
  | fuel + 1, listed, a, w =>
    (Region.ready md ops listed = [] → Q .normal a w) ∧
    ∀ i ∈ Region.ready md ops listed, wpOp P ops Q i (fun a' w' => (i = z ∨ S w') ∧ wpAnyL P md ops Q S z fuel (listed.setIfInBounds i true) a' w') a w
theorem wpAny_of_L : ∀ (fuel : Nat) (listed : Array Bool) (a : Act) (w : World), wpAnyL P md ops Q S z fuel listed a w → wpAny P md ops Q fuel listed a w
  | 0, _, _, _, h => h
  | fuel + 1, _, _, _, h => ⟨h.1, fun i hi => wpOp_mono (fun a' w' h' => wpAny_of_L fuel _ a' w' h'.2) (h.2 i hi)⟩
/-- Whatever has come up, so has all that it waits for. -/
def Closed (md : Region.Mode) (ops : Array Oper) (listed : Array Bool) : Prop := ∀ k ok, ops[k]? = some ok → listed.getD k false = true → ∀ e ∈ ok.after, Region.binds md e = true → listed.getD e.on false = true
theorem getD_put (listed : Array Bool) (j k : Nat) (h : listed.getD k false = true) : (listed.setIfInBounds j true).getD k false = true := by
  by_cases hjk : j = k
  · subst hjk
    rcases Nat.lt_or_ge j listed.size with h' | h'
    · simp [h']
    · simp [Array.getElem?_eq_none h'] at h
  · rcases Nat.lt_or_ge k listed.size with h' | h'
    · simp [h'] at h
      simp [Array.getElem?_setIfInBounds, hjk, h', h]
    · simp [Array.getElem?_eq_none h'] at h
theorem getD_was {listed : Array Bool} {j k : Nat} (hjk : j ≠ k) (h : (listed.setIfInBounds j true).getD k false = true) : listed.getD k false = true := by
  rcases Nat.lt_or_ge k listed.size with h' | h'
  · simp [Array.getElem?_setIfInBounds, hjk, h'] at h
    simp [h', h]
  · simp [Array.getElem?_setIfInBounds, hjk, Array.getElem?_eq_none h'] at h
theorem Closed.put {listed : Array Bool} {j : Nat} (hc : Closed md ops listed) (hj : j ∈ Region.ready md ops listed) : Closed md ops (listed.setIfInBounds j true) := by
  intro k ok hk hl e he hb
  obtain ⟨_, oj, hoj, hall⟩ := mem_ready.1 hj
  by_cases hjk : j = k
  · subst hjk
    rw [hoj] at hk
    cases hk
    exact getD_put _ _ _ (hall e he hb)
  · exact getD_put _ _ _ (hc k ok hk (getD_was hjk hl) e he hb)
theorem Closed.start (n : Nat) : Closed md ops (Array.replicate n false) := by
  intro k ok _ hl
  rcases Nat.lt_or_ge k n with h' | h'
  · simp [h'] at hl
  · simp [h'] at hl

theorem wpAnyL_first {i : Nat} {oi : Oper} {v : Value} (hi : ops[i]? = some oi) (hsel : ∀ (j : Nat) (o : Oper) cs b, ops[j]? = some o → o.op ≠ .select cs b)
    (hQ : ∀ c a w, Q (.panic c) (a.put oi.dst v) w → Q (.panic c) a w) (hz : ∀ listed, Closed md ops listed → z ∈ Region.ready md ops listed → i ≠ z → listed.getD i false = true) (hiz : i ≠ z) :
    ∀ (fuel : Nat) (listed : Array Bool) (a : Act) (w : World), Closed md ops listed →
      (∀ j oj, ops[j]? = some oj → j ≠ i → listed.getD j true = false → (∀ e ∈ oj.after, Region.binds md e = true → e.on ≠ i) → oi.apart ops oj = true) →
      i ∈ Region.ready md ops listed → YieldsIf P ops S oi v a → S w →
      wpAnyL P md ops Q S z fuel (listed.setIfInBounds i true) (a.put oi.dst v) w → wpAnyL P md ops Q S z (fuel + 1) listed a w := by
  intro fuel
  induction fuel with
  | zero =>
    intro listed a w _ _ hr hy hS H
    refine ⟨fun h => (by rw [h] at hr; cases hr), fun j hj => ?_⟩
    by_cases hji : j = i
    · subst hji; exact hy.wpOp hi hS ⟨.inr hS, H⟩
    · have := ready_mono hj hji
      rw [H.1] at this
      cases this
  | succ fuel ih =>
    intro listed a w hcl hfree hr hy hS H
    refine ⟨fun h => (by rw [h] at hr; cases hr), fun j hj => ?_⟩
    by_cases hji : j = i
    · subst hji; exact hy.wpOp hi hS ⟨.inr hS, H⟩
    · have h1 := H.2 j (ready_mono hj hji)
      obtain ⟨hjun, oj, hoj, hall⟩ := mem_ready.1 hj
      have hjz : j ≠ z := fun e => by
        subst e
        have h1 := hz listed hcl hj hiz
        have h0 := (mem_ready.1 hr).1
        rcases Nat.lt_or_ge i listed.size with h' | h'
        · simp [h'] at h0 h1; rw [h0] at h1; cases h1
        · simp [Array.getElem?_eq_none h'] at h1
      have hnot : ∀ e ∈ oj.after, Region.binds md e = true → e.on ≠ i := fun e he hb heq => by
        have h1 := hall e he hb
        have h0 := (mem_ready.1 hr).1
        rw [heq] at h1
        rcases Nat.lt_or_ge i listed.size with h' | h'
        · simp [h'] at h0 h1; rw [h0] at h1; cases h1
        · simp [Array.getElem?_eq_none h'] at h1
      have h2 := wpOp_putIf hoj (hfree j oj hoj hji hjun hnot) (fun cs b => hsel i oi cs b hi) (fun cs b => hsel j oj cs b hoj) hQ hy h1
      have hfree' : ∀ k ok, ops[k]? = some ok → k ≠ i → (listed.setIfInBounds j true).getD k true = false →
          (∀ e ∈ ok.after, Region.binds md e = true → e.on ≠ i) → oi.apart ops ok = true := fun k ok hk hki hun hno => by
        refine hfree k ok hk hki ?_ hno
        by_cases hjk : j = k
        · subst hjk; exact hjun
        · rw [getD_set_ne true hjk] at hun; exact hun
      refine wpOp_mono (fun a' w' h3 => ?_) h2
      have hS' : S w' := h3.2.1.resolve_left hjz
      refine ⟨.inr hS', ih (listed.setIfInBounds j true) a' w' (hcl.put hj) hfree' (ready_mono hr (Ne.symm hji)) h3.1 hS' ?_⟩
      rw [Array.setIfInBounds_comm _ _ hji]
      exact h3.2.2

/-- All of the list lead to z. -/
def leadB (md : Region.Mode) (ops : Array Oper) (z : Nat) : List Nat → Bool
  | [] => true
  | k :: r => ((z :: r).any fun e => match ops[e]? with | none => false | some o => o.after.any fun d => Region.binds md d && d.on == k) && leadB md ops z r
theorem lead_all {listed : Array Bool} (hc : Closed md ops listed) (hz : z ∈ Region.ready md ops listed) : ∀ r, leadB md ops z r = true → ∀ k ∈ r, listed.getD k false = true
  | [], _, k, hk => by cases hk
  | k0 :: r, h, k, hk => by
    simp only [leadB, Bool.and_eq_true] at h
    have ih := lead_all hc hz r h.2
    rcases List.mem_cons.1 hk with rfl | hk
    · obtain ⟨e, he, h1⟩ := List.any_eq_true.1 h.1
      cases ho : ops[e]? with
      | none => rw [ho] at h1; cases h1
      | some o =>
        rw [ho] at h1
        simp only at h1
        obtain ⟨i, hi, h2⟩ := Array.any_eq_true.1 h1
        simp only [Bool.and_eq_true, beq_iff_eq] at h2
        rcases List.mem_cons.1 he with rfl | he
        · obtain ⟨_, oz, hoz, hall⟩ := mem_ready.1 hz
          rw [ho] at hoz
          cases hoz
          rw [← h2.2]
          exact hall _ (Array.getElem_mem hi) h2.1
        · rw [← h2.2]
          exact hc e o ho (ih e he) _ (Array.getElem_mem hi) h2.1
    · exact ih k hk

def wpOrdL (P : Program) (ops : Array Oper) (Q : Exit → Act → World → Prop) (S : World → Prop) : List Oper → Act → World → Prop
  | [], a, w => Q .normal a w
  | o :: l, a, w =>
    (∃ v, YieldsIf P ops S o v a ∧ wpOrdL P ops Q S l (a.put o.dst v) w) ∨
    (Region.wanted o (yielded ops a.tmps) = true ∧ o.wp P a w (fun a' w' => (l = [] ∨ S w') ∧ wpOrdL P ops Q S l a' w') Q ∧ isLoneL o = true)
def ordBL (md : Region.Mode) (ops : Array Oper) (z : Nat) : List Nat → Array Bool → Bool
  | [], listed => (Region.ready md ops listed).isEmpty
  | k :: r, listed => match ops[k]? with
    | none => false
    | some o => (Region.ready md ops listed).contains k && Region.free md ops listed k && (!(isLoneL o || k == z) || Region.ready md ops listed == [k]) && (!r.isEmpty || k == z) && ordBL md ops z r (listed.setIfInBounds k true)
theorem wpAnyL_of_ord (hs : Region.noSelect ops = true) (hQ : ∀ c a t v w, Q (.panic c) (Act.put a t v) w → Q (.panic c) a w) (R : List Nat) (hR : leadB md ops z R = true) :
    ∀ (r : List Nat) (l : List Oper) (listed : Array Bool) (a : Act) (w : World), l.map some = r.map (fun k => ops[k]?) → (∀ k ∈ r, k ≠ z → k ∈ R) → Closed md ops listed → ordBL md ops z r listed = true → S w → wpOrdL P ops Q S l a w →
      wpAnyL P md ops Q S z r.length listed a w
  | [], l, listed, a, w, hl, _, _, hB, _, h => by
    obtain rfl : l = [] := by simpa using hl
    exact ⟨by simpa [ordBL] using hB, h⟩
  | k :: r, [], _, _, _, hl, _, _, _, _, _ => by simp at hl
  | k :: r, o :: l, listed, a, w, hl, hin, hcl, hB, hS, h => by
    simp only [List.map_cons, List.cons.injEq] at hl
    obtain ⟨h0, hl'⟩ := hl
    have h0 := h0.symm
    unfold ordBL at hB
    rw [h0] at hB
    simp only [Bool.and_eq_true] at hB
    obtain ⟨⟨⟨⟨hr, hf⟩, hc⟩, hlast⟩, hB'⟩ := hB
    have hkr : k ∈ Region.ready md ops listed := by simpa using hr
    have hnil : l = [] → k = z := fun e => by
      subst e
      obtain rfl : r = [] := by simpa using hl'.symm
      simpa using hlast
    have ihr := fun a' w' (hS' : S w') (h' : wpOrdL P ops Q S l a' w') => wpAnyL_of_ord hs hQ R hR r l (listed.setIfInBounds k true) a' w' hl' (fun j hj => hin j (List.mem_cons_of_mem _ hj)) (hcl.put hkr) hB' hS' h'
    have ihn := fun a' w' (e : l = []) (h' : wpOrdL P ops Q S l a' w') => (show wpAnyL P md ops Q S z r.length (listed.setIfInBounds k true) a' w' from by
      subst e
      obtain rfl : r = [] := by simpa using hl'.symm
      exact ⟨by simpa [ordBL] using hB', h'⟩)
    have alone : ∀ (hr' : Region.ready md ops listed = [k]), wpOp P ops Q k (fun a' w' => (k = z ∨ S w') ∧ wpAnyL P md ops Q S z r.length (listed.setIfInBounds k true) a' w') a w → wpAnyL P md ops Q S z (k :: r).length listed a w := fun hr' hop => by
      refine ⟨fun e => (by rw [hr'] at e; cases e), fun i hi => ?_⟩
      obtain rfl : i = k := by rw [hr'] at hi; simpa using hi
      exact hop
    rcases h with ⟨v, hy, h⟩ | ⟨hw, h, hg⟩
    · by_cases hkz : k = z
      · have hr' : Region.ready md ops listed = [k] := by simpa [hkz] using hc
        exact alone hr' (hy.wpOp h0 hS ⟨.inr hS, ihr _ _ hS h⟩)
      · exact wpAnyL_first h0 (Region.noSelect_spec hs) (fun c a w => hQ c a o.dst v w) (fun listed hc hz _ => lead_all hc hz R hR k (hin k (by simp) hkz)) hkz _ listed a w hcl (Region.free_spec h0 hf) hkr hy hS (ihr _ _ hS h)
    · have hr' : Region.ready md ops listed = [k] := by simpa [hg] using hc
      refine alone hr' ?_
      unfold wpOp
      rw [h0]
      simp only [hw, if_true]
      exact .inl (Oper.wp_mono (fun a' w' ⟨hS', h'⟩ => ⟨hS'.imp hnil id, hS'.elim (fun e => ihn a' w' e h') (fun hS' => ihr a' w' hS' h')⟩) h)
theorem wp_region_ordL {id : Nat} {a : Act} {w : World} {l : List Oper} (r : List Nat) (z : Nat) (hm : P.follows .mixedOrders = true) (hs : Region.noSelect l.toArray = true) (hlen : r.length = l.length) (hall : r.all (fun k => decide (k < l.length)) = true)
    (hB : ordBL .any l.toArray z r (Array.replicate l.toArray.size false) = true) (hL : leadB .any l.toArray z (r.filter fun k => k != z) = true) (hS : S w.drew) (h : wpOrdL P l.toArray (NoPanic Q) S (pickL r l) a w.drew) : (Code.region id l.toArray true).wp P Q a w := by
  refine wp_region_noPanic (wp_region_any hm ?_)
  have key := wpAnyL_of_ord (md := .any) hs (fun _ _ _ _ _ h => h) _ hL r _ _ a w.drew (pickL_map hall) (fun k hk hz => by simp [hk, hz]) (Closed.start _) hB hS h
  have key := wpAny_of_L _ _ _ _ key
  rw [hlen] at key
  simpa using key

variable {o : Oper} {l : List Oper} {a : Act} {w : World}
theorem ordL_skip (hw : Region.wanted o (yielded ops a.tmps) = false) (h : wpOrdL P ops Q S l (a.put o.dst undef) w) : wpOrdL P ops Q S (o :: l) a w :=
  .inl ⟨undef, .inr ⟨hw, rfl⟩, h⟩
theorem ordL_take {v : Value} (hg : isLoneL o = false) (hw : Region.wanted o (yielded ops a.tmps) = true) (hy : ∀ w, S w → (execOp a.eval o).run P w = .ok (.value v) w) (h : wpOrdL P ops Q S l (a.put o.dst v) w) : wpOrdL P ops Q S (o :: l) a w :=
  .inl ⟨v, .inl ⟨hw, hy⟩, h⟩
theorem ordL_lone (hg : isLoneL o = true) (hw : Region.wanted o (yielded ops a.tmps) = true)
    (h : ∀ K : Act → World → Prop, Shut (∀ a' w', (l = [] ∨ S w') → wpOrdL P ops Q S l a' w' → K a' w') → o.wp P a w K Q) : wpOrdL P ops Q S (o :: l) a w :=
  .inr ⟨hw, h _ fun _ _ hS hh => ⟨hS, hh⟩, hg⟩
theorem ordL_done (h : Q .normal a w) : wpOrdL P ops (NoPanic Q) S [] a w := h
end
end Go.Proofs.YtbhgmccaecmpjaaGreat

namespace Go.Proofs.YtbhgmccaecmpjaaGreat
set_option linter.unusedVariables false
set_option linter.unusedSimpArgs false
open Go.RowKit

def frI (on : Bool) : Int := if on then 0 else -1
def cnI (on : Bool) : Int := if on then 1 else 0
/-- A row in block x, its arrays in blocks a, b, c: whether 0 waits in it. -/
structure Fif (w : World) (x a b c n : Nat) (on : Bool) : Prop where
  blk : Blk w x 157 #[.slice (some ⟨a, 0, none⟩) n n, .slice (some ⟨b, 0, none⟩) n n, .slice (some ⟨c, 0, none⟩) n n, .int .i64 (frI on), .int .i64 (frI on), .int .i64 (cnI on)]
  next : ∃ k, Arr w a 3 n (.int .i64 k) ∧ (on = true → k = -1)
  prev : ∃ k, Arr w b 3 n (.int .i64 k) ∧ (on = true → k = -1)
  in_ : Arr w c 4 n (.bool on)
structure FifD (x a b c : Nat) : Prop where
  d : x ≠ a ∧ x ≠ b ∧ x ≠ c ∧ a ≠ b ∧ a ≠ c ∧ b ≠ c
section
variable {w w' : World} {x a b c n : Nat} {on : Bool} {F : Nat → Prop}
theorem Fif.later (h : Fif w x a b c n on) (k : Below w.heap.size w w') : Fif w' x a b c n on :=
  ⟨h.blk.later k, by obtain ⟨i, ha, hi⟩ := h.next; exact ⟨i, ha.later k, hi⟩, by obtain ⟨i, ha, hi⟩ := h.prev; exact ⟨i, ha.later k, hi⟩, h.in_.later k⟩
theorem Fif.foot (h : Fif w x a b c n on) (k : Foot F w w') (hx : ¬ F x) (h1 : ¬ F a) (h2 : ¬ F b) (h3 : ¬ F c) : Fif w' x a b c n on :=
  ⟨h.blk.foot k hx, by obtain ⟨i, ha, hi⟩ := h.next; exact ⟨i, ha.foot k h1, hi⟩, by obtain ⟨i, ha, hi⟩ := h.prev; exact ⟨i, ha.foot k h2, hi⟩, h.in_.foot k h3⟩
end

theorem fiMay {w : World} {x a b c n : Nat} {on : Bool} (h : Fif w x a b c n on) : Calls Tryz.prog 137 #[.pointer (some ⟨x, 0, none⟩), .int .i64 0] w fun e w' => e = .returned (.bool true) ∧ w = w' := by
  have d := h.blk.at6
  have hn := h.in_.2
  have h1 : (0 : Int) < (n : Int) := by omega
  have h2 : 0 < n := hn.1
  have hr := Below.refl w.heap.size w
  go_enter Tryz.func137, Tryz.ntmps137
  go_wp2_with fail
  go_ret
  exact ⟨rfl, rfl⟩

set_option maxRecDepth 100000 in
set_option maxHeartbeats 4000000 in
theorem fiPushNo {w : World} {x a b c n : Nat} (h : Fif w x a b c n true) : Calls Tryz.prog 108 #[.pointer (some ⟨x, 0, none⟩), .int .i64 0] w fun e w' => e = .returned (.bool false) ∧ w = w' := by
  have d := h.blk.at6
  have dc := h.in_.at_
  have hn := h.in_.2
  have h1 : (0 : Int) < (n : Int) := by omega
  have h2 : 0 < n := hn.1
  have hr := Below.refl w.heap.size w
  have FM := Lib.hid (fiMay h)
  go_enter Tryz.func108, Tryz.ntmps108
  go_wp2_with fail
  refine FM.out.mono ?_; rintro e w1 ⟨rfl, rfl⟩
  go_wp2_with fail
  go_ret
  exact ⟨rfl, rfl⟩

set_option maxRecDepth 100000 in
set_option maxHeartbeats 4000000 in
theorem fiPush {w : World} {x a b c n : Nat} (h : Fif w x a b c n false) (hd : FifD x a b c) : Calls Tryz.prog 108 #[.pointer (some ⟨x, 0, none⟩), .int .i64 0] w fun e w' => e = .returned (.bool true) ∧ Fif w' x a b c n true ∧ Foot (fun i => i = x ∨ i = a ∨ i = b ∨ i = c) w w' := by
  have dc := h.in_.at_
  have hn := h.in_.2
  have h1 : (0 : Int) < (n : Int) := by omega
  have h2 : 0 < n := hn.1
  have hr := Below.refl w.heap.size w
  have FM := Lib.hid (fiMay h)
  have HH := Lib.hid h
  have KX := h.blk
  simp only [frI, cnI, Bool.false_eq_true, if_false] at KX
  have d := KX.at6
  obtain ⟨ka, KA, -⟩ := h.next
  obtain ⟨kb, KB, -⟩ := h.prev
  have KC := h.in_
  have da := KA.at_
  have db := KB.at_
  have HD := Lib.hid hd
  clear h hd
  go_enter Tryz.func108, Tryz.ntmps108
  go_wp2_with fail
  refine FM.out.mono ?_; rintro e w1 ⟨rfl, rfl⟩
  go_upto_region 3 with fail
  have MKB : Hid (∀ w', Blk w' x 157 #[.slice (some ⟨a, 0, none⟩) n n, .slice (some ⟨b, 0, none⟩) n n, .slice (some ⟨c, 0, none⟩) n n, .int .i64 (-1), .int .i64 (-1), .int .i64 0] → w'.cell? ⟨x, 0, none⟩ = some (.slice (some ⟨a, 0, none⟩) n n) ∧ w'.cell? ⟨x, 1, none⟩ = some (.slice (some ⟨b, 0, none⟩) n n) ∧ w'.cell? ⟨x, 2, none⟩ = some (.slice (some ⟨c, 0, none⟩) n n) ∧ w'.cell? ⟨x, 4, none⟩ = some (.int .i64 (-1))) := Lib.hid fun w' hw => ⟨hw.cell 0, hw.cell 1, hw.cell 2, hw.cell 4⟩
  have D : Below w.heap.size w w.drew := (Below.refl _ _).drew
  obtain ⟨d1, d2, d3, d4, d5, d6⟩ := HD.out.d
  have K1 := Blk.far (p := ⟨c, 0, none⟩) KX.drew d3 (.bool true)
  have K2 := Blk.far (p := ⟨a, 0, none⟩) K1 d1 (.int .i64 (-1))
  have HB1 := Lib.hid (MKB.out _ K1)
  have HB2 := Lib.hid (MKB.out _ K2)
  refine wp_region_ordL (S := fun w' => w'.cell? ⟨x, 0, none⟩ = some (.slice (some ⟨a, 0, none⟩) n n) ∧ w'.cell? ⟨x, 1, none⟩ = some (.slice (some ⟨b, 0, none⟩) n n) ∧ w'.cell? ⟨x, 2, none⟩ = some (.slice (some ⟨c, 0, none⟩) n n) ∧ w'.cell? ⟨x, 4, none⟩ = some (.int .i64 (-1))) [0, 1, 2, 3, 4, 5, 6, 7, 8, 9, 10, 11, 12, 13, 14, 15, 16, 17, 18, 19, 20, 21, 22, 23, 24] 24 (by kernel_rfl) (by kernel_rfl) (by kernel_rfl) (by kernel_rfl) (by kernel_rfl) (by kernel_rfl) (MKB.out _ KX.drew) ?_
  simp only [pickL, List.filterMap_cons, List.filterMap_nil, List.getElem?_cons_zero, List.getElem?_cons_succ]
  repeat (refine ordL_take (v := ?_) (by rfl) (by rfl) ?_ ?_; rotate_left; (focus (intro w hSw; (try dsimp only at hSw); go_simp; (try with_reducible rfl))); simp only [Act.put, List.setIfInBounds_toArray, List.set_cons_zero, List.set_cons_succ])
  refine ordL_lone (by rfl) (by rfl) (fun KK hK => ?_)
  try go_simp
  refine hK.out _ _ (.inr HB1.out) ?_
  clear hK KK
  try simp only [Act.put, List.setIfInBounds_toArray, List.set_cons_zero, List.set_cons_succ]
  repeat (refine ordL_take (v := ?_) (by rfl) (by rfl) ?_ ?_; rotate_left; (focus (intro w hSw; (try dsimp only at hSw); go_simp; (try with_reducible rfl))); simp only [Act.put, List.setIfInBounds_toArray, List.set_cons_zero, List.set_cons_succ])
  refine ordL_lone (by rfl) (by rfl) (fun KK hK => ?_)
  try go_simp
  refine hK.out _ _ (.inr HB2.out) ?_
  clear hK KK
  try simp only [Act.put, List.setIfInBounds_toArray, List.set_cons_zero, List.set_cons_succ]
  repeat (refine ordL_take (v := ?_) (by rfl) (by rfl) ?_ ?_; rotate_left; (focus (intro w hSw; (try dsimp only at hSw); go_simp; (try with_reducible rfl))); simp only [Act.put, List.setIfInBounds_toArray, List.set_cons_zero, List.set_cons_succ])
  refine ordL_lone (by rfl) (by rfl) (fun KK hK => ?_)
  try go_simp
  refine hK.out _ _ (.inl rfl) ?_
  clear hK KK
  try simp only [Act.put, List.setIfInBounds_toArray, List.set_cons_zero, List.set_cons_succ]
  refine ordL_done ?_
  obtain ⟨w2, hw2⟩ : ∃ w2, (((w.setCell ⟨c, 0, none⟩ (.bool true)).setCell ⟨a, 0, none⟩ (.int .i64 (-1))).setCell ⟨b, 0, none⟩ (.int .i64 (-1))).drew = w2 := ⟨_, rfl⟩
  have X2 : Blk w2 x 157 #[.slice (some ⟨a, 0, none⟩) n n, .slice (some ⟨b, 0, none⟩) n n, .slice (some ⟨c, 0, none⟩) n n, .int .i64 (-1), .int .i64 (-1), .int .i64 0] := by rw [← hw2]; exact Blk.far (p := ⟨b, 0, none⟩) K2 d2 _
  have A2 : Arr w2 a 3 n (.int .i64 (-1)) := by rw [← hw2]; exact Arr.far (p := ⟨b, 0, none⟩) (Arr.set (Arr.far (p := ⟨c, 0, none⟩) KA.drew d5 _) _) d4 _
  have B2 : Arr w2 b 3 n (.int .i64 (-1)) := by rw [← hw2]; exact Arr.set (Arr.far (p := ⟨a, 0, none⟩) (Arr.far (p := ⟨c, 0, none⟩) KB.drew d6 _) (Ne.symm d4) _) _
  have C2 : Arr w2 c 4 n (.bool true) := by rw [← hw2]; exact Arr.far (p := ⟨b, 0, none⟩) (Arr.far (p := ⟨a, 0, none⟩) (Arr.set KC.drew _) (Ne.symm d5) _) (Ne.symm d6) _
  have F2 : Foot (fun i => i = x ∨ i = a ∨ i = b ∨ i = c) w w2 := by
    rw [← hw2]
    exact Foot.set (p := ⟨b, 0, none⟩) (Foot.set (p := ⟨a, 0, none⟩) (Foot.set (p := ⟨c, 0, none⟩) (Foot.later D) (.inl (.inr (.inr (.inr rfl)))) _) (.inl (.inr (.inl rfl))) _) (.inl (.inr (.inr (.inl rfl)))) _
  try rw [hw2]
  clear hw2 K1 K2 HB1 HB2 MKB KX KA KB KC d da db dc hr D
  have d := X2.at6
  have hr := Below.refl w2.heap.size w2
  go_wp2_with fail
  go_ret
  refine ⟨rfl, ⟨?_, ⟨_, ((A2.far (p := ⟨x, 3, none⟩) (Ne.symm d1) _).far (p := ⟨x, 4, none⟩) (Ne.symm d1) _).far (p := ⟨x, 5, none⟩) (Ne.symm d1) _, fun _ => rfl⟩, ⟨_, ((B2.far (p := ⟨x, 3, none⟩) (Ne.symm d2) _).far (p := ⟨x, 4, none⟩) (Ne.symm d2) _).far (p := ⟨x, 5, none⟩) (Ne.symm d2) _, fun _ => rfl⟩, ((C2.far (p := ⟨x, 3, none⟩) (Ne.symm d3) _).far (p := ⟨x, 4, none⟩) (Ne.symm d3) _).far (p := ⟨x, 5, none⟩) (Ne.symm d3) _⟩, ?_⟩
  · have := ((X2.set_ 3 (.int .i64 0)).set_ 4 (.int .i64 0)).set_ 5 (.int .i64 1)
    simpa [frI, cnI] using this
  · exact Foot.set (p := ⟨x, 5, none⟩) (Foot.set (p := ⟨x, 4, none⟩) (Foot.set (p := ⟨x, 3, none⟩) F2 (.inl (.inl rfl)) _) (.inl (.inl rfl)) _) (.inl (.inl rfl)) _

set_option maxRecDepth 100000 in
set_option maxHeartbeats 4000000 in
theorem fiCutI {w : World} {x a b c n : Nat} (h : Fif w x a b c n true) (hd : FifD x a b c) : Calls Tryz.prog 129 #[.pointer (some ⟨x, 0, none⟩), .int .i64 0] w fun e w' => e = .returned (.tuple #[]) ∧ Fif w' x a b c n false ∧ Foot (fun i => i = x ∨ i = a ∨ i = b ∨ i = c) w w' := by
  have dc := h.in_.at_
  have hn := h.in_.2
  have h1 : (0 : Int) < (n : Int) := by omega
  have h2 : 0 < n := hn.1
  have hr := Below.refl w.heap.size w
  have KX := h.blk
  simp only [frI, cnI, if_true] at KX
  have d := KX.at6
  obtain ⟨ka, KA, ea⟩ := h.next
  obtain ⟨kb, KB, eb⟩ := h.prev
  obtain rfl := ea rfl
  obtain rfl := eb rfl
  have KC := h.in_
  have da := KA.at_
  have db := KB.at_
  obtain ⟨d1, d2, d3, d4, d5, d6⟩ := hd.d
  clear h hd ea eb
  go_enter Tryz.func129, Tryz.ntmps129
  go_upto_region 0 with fail
  refine wp_region_later w.heap.size (by kernel_rfl) (by kernel_rfl) ?_
  have hu : ∀ u : Later w.heap.size w, Below w.heap.size w u.world := Later.below
  repeat (go_big_quiet_step ((fail)))
  refine wpQuiet_nil ?_
  intro w2 b2
  have KX := KX.later b2
  have KA := KA.later b2
  have KB := KB.later b2
  have KC := KC.later b2
  clear d da db dc hu hr
  have d := KX.at6
  have dc := KC.at_
  have hr := Below.refl w2.heap.size w2
  go_wp2_with fail
  go_end0
  refine ⟨rfl, ⟨?_, ⟨_, (((KA.far (p := ⟨x, 3, none⟩) (Ne.symm d1) _).far (p := ⟨x, 4, none⟩) (Ne.symm d1) _).far (p := ⟨c, 0, none⟩) d5 _).far (p := ⟨x, 5, none⟩) (Ne.symm d1) _, fun _ => rfl⟩, ⟨_, (((KB.far (p := ⟨x, 3, none⟩) (Ne.symm d2) _).far (p := ⟨x, 4, none⟩) (Ne.symm d2) _).far (p := ⟨c, 0, none⟩) d6 _).far (p := ⟨x, 5, none⟩) (Ne.symm d2) _, fun _ => rfl⟩, ?_⟩, ?_⟩
  · have := (((KX.set_ 3 (.int .i64 (-1))).set_ 4 (.int .i64 (-1))).far (p := ⟨c, 0, none⟩) d3 (.bool false)).set_ 5 (.int .i64 0)
    simpa [frI, cnI] using this
  · exact ((KC.far (p := ⟨x, 3, none⟩) (Ne.symm d3) _).far (p := ⟨x, 4, none⟩) (Ne.symm d3) _).set _ |>.far (p := ⟨x, 5, none⟩) (Ne.symm d3) _
  · exact Foot.set (p := ⟨x, 5, none⟩) (Foot.set (p := ⟨c, 0, none⟩) (Foot.set (p := ⟨x, 4, none⟩) (Foot.set (p := ⟨x, 3, none⟩) (Foot.later b2) (.inl (.inl rfl)) _) (.inl (.inl rfl)) _) (.inl (.inr (.inr (.inr rfl)))) _) (.inl (.inl rfl)) _

theorem fiPopNo {w : World} {x a b c n : Nat} (h : Fif w x a b c n false) : Calls Tryz.prog 92 #[.pointer (some ⟨x, 0, none⟩)] w fun e w' => e = .returned (.tuple #[.int .i64 0, .bool false]) ∧ w = w' := by
  have KX := h.blk
  simp only [frI, cnI, Bool.false_eq_true, if_false] at KX
  have d := KX.at6
  have hr := Below.refl w.heap.size w
  go_enter Tryz.func92, Tryz.ntmps92
  go_wp2_with fail
  go_ret2
  exact ⟨rfl, rfl⟩
theorem fiPop {w : World} {x a b c n : Nat} (h : Fif w x a b c n true) (hd : FifD x a b c) : Calls Tryz.prog 92 #[.pointer (some ⟨x, 0, none⟩)] w fun e w' => e = .returned (.tuple #[.int .i64 0, .bool true]) ∧ Fif w' x a b c n false ∧ Foot (fun i => i = x ∨ i = a ∨ i = b ∨ i = c) w w' := by
  have KX := h.blk
  simp only [frI, cnI, if_true] at KX
  have d := KX.at6
  have hr := Below.refl w.heap.size w
  have FC := Lib.hid (fiCutI h hd)
  clear h
  go_enter Tryz.func92, Tryz.ntmps92
  go_wp2_with fail
  refine FC.out.mono ?_; rintro e w1 ⟨rfl, h1, f1⟩
  go_wp2_with fail
  go_ret2
  exact ⟨rfl, h1, f1⟩
end Go.Proofs.YtbhgmccaecmpjaaGreat
