/-
  Contracts of package dial: a jump to the end, a look.
  Conditions: the blocks are known.
-/
import Derived.Test.YtbhgmccaecmpjaaGreatW22
import Derived.Test.YtbhgmccaecmpjaaGreatW05
namespace Go.Proofs.YtbhgmccaecmpjaaGreat
set_option linter.unusedVariables false
set_option linter.unusedSimpArgs false
open Go.RowKit

/-- A step, as six numbers. -/
structure StT where
  tick : Int
  at_ : Int
  what : Int
  arm : Int
  n : Int
  st : Int
def StT.cells (s : StT) : Array Value := #[.int .i64 s.tick, .int .i64 s.at_, .int .i64 s.what, .int .i64 s.arm, .int .i64 s.n, .int .i64 s.st]
theorem foot_set6 {F : Nat → Prop} {a w : World} {g : Nat} (h : Foot F a w) (hg : F g) (u0 u1 u2 u3 u4 u5 : Value) : Foot F a ((((((w.setCell ⟨g, 0, none⟩ u0).setCell ⟨g, 1, none⟩ u1).setCell ⟨g, 2, none⟩ u2).setCell ⟨g, 3, none⟩ u3).setCell ⟨g, 4, none⟩ u4).setCell ⟨g, 5, none⟩ u5) :=
  foot_set F (foot_set5 h hg u0 u1 u2 u3 u4) g 5 hg u5
theorem blk_set6 {g : Nat} {t : TypeId} {w : World} {y0 y1 y2 y3 y4 y5 : Value} (h : Blk w g t #[y0, y1, y2, y3, y4, y5]) (x0 x1 x2 x3 x4 x5 : Value) : Blk ((((((w.setCell ⟨g, 0, none⟩ x0).setCell ⟨g, 1, none⟩ x1).setCell ⟨g, 2, none⟩ x2).setCell ⟨g, 3, none⟩ x3).setCell ⟨g, 4, none⟩ x4).setCell ⟨g, 5, none⟩ x5) g t #[x0, x1, x2, x3, x4, x5] := by
  have := (((((h.set_ 0 x0).set_ 1 x1).set_ 2 x2).set_ 3 x3).set_ 4 x4).set_ 5 x5
  simpa using this
/-- What is new bears the name 0. -/
theorem isD_zero : ¬ isD 0 := fun h => absurd h.1 (by omega)
set_option maxRecDepth 100000 in
set_option maxHeartbeats 8000000 in
theorem diJump2 {w : World} {lab : Nat → Nat} {b : DB} {c : ScT} {t : DT} (h : DiaR w lab b c t) (hj : t.ju < c.jm) (s : StT) : Calls Tryz.prog 155 #[.pointer (some ⟨b.x, 0, none⟩), .agg s.cells, .int .i64 2] w fun e w' => ∃ lab' b', e = .returned (.agg s.cells) ∧ LabEq lab lab' w ∧ DiaR w' lab' b' c (comeT c { t with ju := t.ju + 1 } 2) ∧ b'.x = b.x ∧ Foot (fun i => isD (lab i)) w w' := by
  unfold StT.cells
  obtain ⟨q, hq⟩ : ∃ q, w.heap.size = q := ⟨_, rfl⟩
  obtain ⟨w1, hw1⟩ : ∃ w1, w1 = (w.alloc (.cells #[.int .i64 s.tick, .int .i64 s.at_, .int .i64 s.what, .int .i64 s.arm, .int .i64 s.n, .int .i64 s.st] 67)).alloc (.cells #[.int .i64 0, .int .i64 0, .int .i64 0, .int .i64 0, .int .i64 0, .int .i64 0] 67) := ⟨_, rfl⟩
  have b1 : Below w.heap.size w w1 := by rw [hw1]; exact ((Below.refl _ _).alloc (Nat.le_refl _) _).alloc (by simp) _
  have K1 : Blk w1 q 67 #[.int .i64 s.tick, .int .i64 s.at_, .int .i64 s.what, .int .i64 s.arm, .int .i64 s.n, .int .i64 s.st] := by rw [hw1, ← hq]; exact (Blk.new _ _ _).alloc _
  have K2 : Blk w1 (q + 1) 67 #[.int .i64 0, .int .i64 0, .int .i64 0, .int .i64 0, .int .i64 0, .int .i64 0] := by
    rw [hw1, ← hq]
    have := Blk.new (w.alloc (.cells #[.int .i64 s.tick, .int .i64 s.at_, .int .i64 s.what, .int .i64 s.arm, .int .i64 s.n, .int .i64 s.st] 67)) 67 #[.int .i64 0, .int .i64 0, .int .i64 0, .int .i64 0, .int .i64 0, .int .i64 0]
    simpa using this
  have e1 := labNew_eq lab w 0
  have H1 := (h.relab e1).later b1
  have hju : IntKind.i64.wrap ((t.ju : Int) + 1) = (t.ju : Int) + 1 := IntWalk.i64_in _ (by have := h.ok.jm; omega)
  have hj2 : ¬ ((c.jm : Int) ≤ (t.ju : Int)) := by omega
  have hx := h.lt.1
  have HQ := Lib.hid hq
  have HW1 := Lib.hid hw1
  have E1 := Lib.hid e1
  have B1 := Lib.hid b1
  have HH := Lib.hid H1
  have HN := Lib.hid h.lab
  clear h hj hw1 hq e1 b1
  go_enter Tryz.func155, Tryz.ntmps155
  go_upto_region 5 with fail
  rw [← HW1.out, HQ.out]
  have d : ∀ w', Below w1.heap.size w1 w' → w'.cell? ⟨b.x, 12, none⟩ = some (.int .i64 t.ju) ∧ w'.cell? ⟨b.x, 8, none⟩ = some (.int .i64 c.jm) := fun w' hw => by
    have k := Blk.later H1.blk hw
    exact ⟨k.cell 12, k.cell 8⟩
  have hr := Below.refl w1.heap.size w1
  refine wp_region_later w1.heap.size (by kernel_rfl) (by kernel_rfl) ?_
  have hu : ∀ u : Later w1.heap.size w1, Below w1.heap.size w1 u.world := Later.below
  repeat (go_big_quiet_step ((fail)))
  refine wpQuiet_nil ?_
  intro w2 b2
  have H2 := H1.later b2
  have KA := K1.later b2
  have KB := K2.later b2
  clear d hr hu H1 K1 K2
  have d : ∀ w', Below w2.heap.size w2 w' → w'.cell? ⟨b.x, 12, none⟩ = some (.int .i64 t.ju) ∧ ∀ i, w'.frozen? ⟨b.x, i, none⟩ = false := fun w' hw => by
    have k := Blk.later H2.blk hw
    exact ⟨k.cell 12, fun i => k.frozen i⟩
  have hr := Below.refl w2.heap.size w2
  have h3 : DiB _ b.x (({ t with ju := t.ju + 1 } : DT).dc c b 0) := DiB.setJu H2.blk ((t.ju + 1 : Nat) : Int)
  have f3 : Foot (fun i => i = b.x) w2 (w2.setCell ⟨b.x, 12, none⟩ (.int .i64 ((t.ju + 1 : Nat) : Int))) := foot_set (fun i => i = b.x) (Foot.refl _ w2) b.x 12 rfl _
  have H3 := H2.own (t' := { t with ju := t.ju + 1 }) f3 h3 rfl rfl rfl ⟨rfl, rfl, rfl, rfl⟩ (fun e => e)
  have KA3 := Blk.far (p := ⟨b.x, 12, none⟩) KA (by have := HQ.out; show q ≠ b.x; omega) (.int .i64 ((t.ju + 1 : Nat) : Int))
  have KB3 := Blk.far (p := ⟨b.x, 12, none⟩) KB (by have := HQ.out; show q + 1 ≠ b.x; omega) (.int .i64 ((t.ju + 1 : Nat) : Int))
  obtain ⟨w3, hw3⟩ : ∃ w3, w3 = w2.setCell ⟨b.x, 12, none⟩ (.int .i64 ((t.ju : Int) + 1)) := ⟨_, rfl⟩
  have eqn : w2.setCell ⟨b.x, 12, none⟩ (.int .i64 ((t.ju + 1 : Nat) : Int)) = w3 := hw3.symm
  rw [eqn] at H3 KA3 KB3 f3 h3
  have HW3 := Lib.hid hw3
  have FC := Lib.hid (coEnd2 H3)
  have F3 : Hid (Foot (fun i => i = b.x) w w3) := Lib.hid ((Foot.later (B1.out.up b2)).trans f3)
  have KA := Lib.hid KA3
  have KB := Lib.hid KB3
  clear hw3 eqn H2 H3 f3 h3 KA3 KB3 b2
  go_upto_region 2 with fail
  rw [← HW3.out]
  clear d hr
  go_wp2_with fail
  refine FC.out.mono ?_; rintro e w4 ⟨lab', b', rfl, le, h4, ex, f4⟩
  have hz : ∀ i, w.heap.size ≤ i → ¬ isD (labNew lab w 0 i) := fun i hi => by rw [labNew_new hi]; exact isD_zero
  have KA4 := KA.out.foot f4 (hz q (by have := HQ.out; omega))
  have KB4 := KB.out.foot f4 (hz (q + 1) (by have := HQ.out; omega))
  have dA := KA4.at6
  have dB := KB4.at6
  have hr := Below.refl w4.heap.size w4
  have HZ := Lib.hid hz
  have hlo : w.heap.size ≤ q + 1 := by have := HQ.out; omega
  have hlo0 : w.heap.size ≤ q := by have := HQ.out; omega
  clear hz
  go_wp2_with fail
  have l3 := F3.out.size
  have ff := foot_set6 (F := fun i => i = q + 1) (Foot.refl _ w4) rfl (.int .i64 s.tick) (.int .i64 s.at_) (.int .i64 s.what) (.int .i64 s.arm) (.int .i64 s.n) (.int .i64 s.st)
  (try simp only [Exit.inBlock, Exit.then])
  refine bodyPost_ret (v := .agg #[.int .i64 s.tick, .int .i64 s.at_, .int .i64 s.what, .int .i64 s.arm, .int .i64 s.n, .int .i64 s.st]) ?_ rfl ⟨lab', b', rfl, fun i hi => (le i (Nat.lt_of_lt_of_le hi l3)).trans (E1.out i hi), ?_, ex, ?_⟩
  · rw [results_cell_one rfl]
    go_simp
  · refine h4.foot ff (fun i hi e => ?_)
    subst e
    rw [le (q + 1) KB.out.lt, labNew_new hlo] at hi
    exact isD_zero hi
  · refine ((F3.out.mono (G := fun i => isD (lab i)) fun i hi => by rw [hi, HN.out.x]; exact ⟨by omega, by omega⟩).then f4 (fun i hi hp => ?_)).then ff (fun i hi e => by omega)
    rw [labNew_old hi] at hp
    exact hp
end Go.Proofs.YtbhgmccaecmpjaaGreat

namespace Go.Proofs.YtbhgmccaecmpjaaGreat
set_option linter.unusedVariables false
set_option linter.unusedSimpArgs false
open Go.RowKit

/-- What is met alone: a call, a slice that is made, a store, a new variable. -/
def isLoneA (o : Oper) : Bool := isLoneL o || (match o.op with | .alloc _ => true | .box _ _ => true | .mapUpdate _ _ _ _ => true | _ => false)
section
variable {P : Program} {ops : Array Oper} {Q : Exit → Act → World → Prop} {md : Region.Mode} {S : World → Prop} {z : Nat}
def wpOrdA (P : Program) (ops : Array Oper) (Q : Exit → Act → World → Prop) (S : World → Prop) : List Oper → Act → World → Prop
  | [], a, w => Q .normal a w
  | o :: l, a, w =>
    (∃ v, YieldsIf P ops S o v a ∧ wpOrdA P ops Q S l (a.put o.dst v) w) ∨
    (Region.wanted o (yielded ops a.tmps) = true ∧ o.wp P a w (fun a' w' => (l = [] ∨ S w') ∧ wpOrdA P ops Q S l a' w') Q ∧ isLoneA o = true)
def ordBA (md : Region.Mode) (ops : Array Oper) (z : Nat) : List Nat → Array Bool → Bool
  | [], listed => (Region.ready md ops listed).isEmpty
  | k :: r, listed => match ops[k]? with
    | none => false
    | some o => (Region.ready md ops listed).contains k && Region.free md ops listed k && (!(isLoneA o || k == z) || Region.ready md ops listed == [k]) && (!r.isEmpty || k == z) && ordBA md ops z r (listed.setIfInBounds k true)
theorem wpAnyA_of_ord (hs : Region.noSelect ops = true) (hQ : ∀ c a t v w, Q (.panic c) (Act.put a t v) w → Q (.panic c) a w) (R : List Nat) (hR : leadB md ops z R = true) :
    ∀ (r : List Nat) (l : List Oper) (listed : Array Bool) (a : Act) (w : World), l.map some = r.map (fun k => ops[k]?) → (∀ k ∈ r, k ≠ z → k ∈ R) → Closed md ops listed → ordBA md ops z r listed = true → S w → wpOrdA P ops Q S l a w →
      wpAnyL P md ops Q S z r.length listed a w
  | [], l, listed, a, w, hl, _, _, hB, _, h => by
    obtain rfl : l = [] := by simpa using hl
    exact ⟨by simpa [ordBA] using hB, h⟩
  | k :: r, [], _, _, _, hl, _, _, _, _, _ => by simp at hl
  | k :: r, o :: l, listed, a, w, hl, hin, hcl, hB, hS, h => by
    simp only [List.map_cons, List.cons.injEq] at hl
    obtain ⟨h0, hl'⟩ := hl
    have h0 := h0.symm
    unfold ordBA at hB
    rw [h0] at hB
    simp only [Bool.and_eq_true] at hB
    obtain ⟨⟨⟨⟨hr, hf⟩, hc⟩, hlast⟩, hB'⟩ := hB
    have hkr : k ∈ Region.ready md ops listed := by simpa using hr
    have hnil : l = [] → k = z := fun e => by
      subst e
      obtain rfl : r = [] := by simpa using hl'.symm
      simpa using hlast
    have ihr := fun a' w' (hS' : S w') (h' : wpOrdA P ops Q S l a' w') => wpAnyA_of_ord hs hQ R hR r l (listed.setIfInBounds k true) a' w' hl' (fun j hj => hin j (List.mem_cons_of_mem _ hj)) (hcl.put hkr) hB' hS' h'
    have ihn := fun a' w' (e : l = []) (h' : wpOrdA P ops Q S l a' w') => (show wpAnyL P md ops Q S z r.length (listed.setIfInBounds k true) a' w' from by
      subst e
      obtain rfl : r = [] := by simpa using hl'.symm
      exact ⟨by simpa [ordBA] using hB', h'⟩)
    have alone : ∀ (hr' : Region.ready md ops listed = [k]), wpOp P ops Q k (fun a' w' => (k = z ∨ S w') ∧ wpAnyL P md ops Q S z r.length (listed.setIfInBounds k true) a' w') a w → wpAnyL P md ops Q S z (k :: r).length listed a w := fun hr' hop => by
      refine ⟨fun e => (by rw [hr'] at e; cases e), fun i hi => ?_⟩
      obtain rfl : i = k := by rw [hr'] at hi; simpa using hi
      exact hop
    rcases h with ⟨v, hy, h⟩ | ⟨hw, h, hg⟩
    · by_cases hkz : k = z
      · have hr' : Region.ready md ops listed = [k] := by simpa [hkz] using hc
        exact alone hr' (hy.wpOp h0 hS ⟨.inr hS, ihr _ _ hS h⟩)
      · exact wpAnyL_first h0 (Region.noSelect_spec hs) (fun c a w => hQ c a o.dst v w) (fun listed hc hz _ => lead_all hc hz R hR k (hin k (by simp) hkz)) hkz _ listed a w hcl (Region.free_spec h0 hf) hkr hy hS (ihr _ _ hS h)
    · have hr' : Region.ready md ops listed = [k] := by simpa [hg] using hc
      refine alone hr' ?_
      unfold wpOp
      rw [h0]
      simp only [hw, if_true]
      exact .inl (Oper.wp_mono (fun a' w' ⟨hS', h'⟩ => ⟨hS'.imp hnil id, hS'.elim (fun e => ihn a' w' e h') (fun hS' => ihr a' w' hS' h')⟩) h)
theorem wp_region_ordA {id : Nat} {a : Act} {w : World} {l : List Oper} (r : List Nat) (z : Nat) (hm : P.follows .mixedOrders = true) (hs : Region.noSelect l.toArray = true) (hlen : r.length = l.length) (hall : r.all (fun k => decide (k < l.length)) = true)
    (hB : ordBA .any l.toArray z r (Array.replicate l.toArray.size false) = true) (hL : leadB .any l.toArray z (r.filter fun k => k != z) = true) (hS : S w.drew) (h : wpOrdA P l.toArray (NoPanic Q) S (pickL r l) a w.drew) : (Code.region id l.toArray true).wp P Q a w := by
  refine wp_region_noPanic (wp_region_any hm ?_)
  have key := wpAnyA_of_ord (md := .any) hs (fun _ _ _ _ _ h => h) _ hL r _ _ a w.drew (pickL_map hall) (fun k hk hz => by simp [hk, hz]) (Closed.start _) hB hS h
  have key := wpAny_of_L _ _ _ _ key
  rw [hlen] at key
  simpa using key

variable {o : Oper} {l : List Oper} {a : Act} {w : World}
theorem ordA_take {v : Value} (hg : isLoneA o = false) (hw : Region.wanted o (yielded ops a.tmps) = true) (hy : ∀ w, S w → (execOp a.eval o).run P w = .ok (.value v) w) (h : wpOrdA P ops Q S l (a.put o.dst v) w) : wpOrdA P ops Q S (o :: l) a w :=
  .inl ⟨v, .inl ⟨hw, hy⟩, h⟩
theorem ordA_lone (hg : isLoneA o = true) (hw : Region.wanted o (yielded ops a.tmps) = true)
    (h : ∀ K : Act → World → Prop, Shut (∀ a' w', (l = [] ∨ S w') → wpOrdA P ops Q S l a' w' → K a' w') → o.wp P a w K Q) : wpOrdA P ops Q S (o :: l) a w :=
  .inr ⟨hw, h _ fun _ _ hS hh => ⟨hS, hh⟩, hg⟩
theorem ordA_done (h : Q .normal a w) : wpOrdA P ops (NoPanic Q) S [] a w := h
end
end Go.Proofs.YtbhgmccaecmpjaaGreat

namespace Go.Proofs.YtbhgmccaecmpjaaGreat
set_option linter.unusedVariables false
set_option linter.unusedSimpArgs false
open Go.RowKit

section
variable {P : Program} {ops : Array Oper} {Q : Exit → Act → World → Prop} {md : Region.Mode} {S : World → Prop} {K : Act → World → Prop}
def wpMix (P : Program) (ops : Array Oper) (Q : Exit → Act → World → Prop) (S : World → Prop) (K : Act → World → Prop) : List Oper → Act → World → Prop
  | [], a, w => K a w
  | o :: l, a, w =>
    (∃ v, YieldsIf P ops S o v a ∧ wpMix P ops Q S K l (a.put o.dst v) w) ∨
    (Region.wanted o (yielded ops a.tmps) = true ∧ o.wp P a w (fun a' w' => S w' ∧ wpMix P ops Q S K l a' w') Q ∧ isLoneA o = true)
def mixB (md : Region.Mode) (ops : Array Oper) : List Nat → Array Bool → Bool
  | [], _ => true
  | k :: r, listed => match ops[k]? with
    | none => false
    | some o => (Region.ready md ops listed).contains k && Region.free md ops listed k && (!isLoneA o || Region.ready md ops listed == [k]) && mixB md ops r (listed.setIfInBounds k true)
def markAll : Array Bool → List Nat → Array Bool
  | listed, [] => listed
  | listed, k :: r => markAll (listed.setIfInBounds k true) r
theorem wpAnyH_mix {n : Nat} (hs : Region.noSelect ops = true) (hQ : ∀ c a t v w, Q (.panic c) (Act.put a t v) w → Q (.panic c) a w) :
    ∀ (r : List Nat) (l : List Oper) (listed : Array Bool) (a : Act) (w : World), l.map some = r.map (fun k => ops[k]?) → mixB md ops r listed = true → S w → wpMix P ops Q S (fun a' w' => S w' → wpAnyH P md ops Q S n (markAll listed r) a' w') l a w →
      wpAnyH P md ops Q S (r.length + n) listed a w
  | [], l, listed, a, w, hl, hB, hS, h => by
    obtain rfl : l = [] := by simpa using hl
    rw [List.length_nil, Nat.zero_add]
    exact h hS
  | k :: r, [], _, _, _, hl, _, _, _ => by simp at hl
  | k :: r, o :: l, listed, a, w, hl, hB, hS, h => by
    simp only [List.map_cons, List.cons.injEq] at hl
    obtain ⟨h0, hl'⟩ := hl
    have h0 := h0.symm
    unfold mixB at hB
    rw [h0] at hB
    simp only [Bool.and_eq_true] at hB
    obtain ⟨⟨⟨hr, hf⟩, hc⟩, hB'⟩ := hB
    rw [List.length_cons, Nat.succ_add]
    rcases h with ⟨v, hy, h⟩ | ⟨hw, h, hg⟩
    · exact wpAnyH_take h0 hs hf hr (fun c a w => hQ c a o.dst v w) hy hS (wpAnyH_mix hs hQ r l _ _ w hl' hB' hS h)
    · rw [hg] at hc
      have hr' : Region.ready md ops listed = [k] := by simpa using hc
      refine wpAnyH_all hr' (by simp) (fun i hi => ?_)
      obtain rfl : i = k := by simpa using hi
      unfold wpOp
      rw [h0]
      simp only [hw, if_true]
      exact .inl (Oper.wp_mono (fun a' w' ⟨hS', h'⟩ => ⟨hS', wpAnyH_mix hs hQ r l _ a' w' hl' hB' hS' h'⟩) h)
theorem wpAnyH_both {i j n : Nat} {oi oj : Oper} {listed : Array Bool} {a : Act} {w : World} (hr : Region.ready md ops listed = [i, j]) (hi : ops[i]? = some oi) (hj : ops[j]? = some oj)
    (wi : Region.wanted oi (yielded ops a.tmps) = true) (wj : Region.wanted oj (yielded ops a.tmps) = true)
    (h1 : ∀ K : Act → World → Prop, Shut (∀ a' w', S w' → (S w' → wpAnyH P md ops Q S n (listed.setIfInBounds i true) a' w') → K a' w') → oi.wp P a w K Q)
    (h2 : ∀ K : Act → World → Prop, Shut (∀ a' w', S w' → (S w' → wpAnyH P md ops Q S n (listed.setIfInBounds j true) a' w') → K a' w') → oj.wp P a w K Q) : wpAnyH P md ops Q S (n + 1) listed a w := by
  refine wpAnyH_all hr (by simp) (fun k hk => ?_)
  have hk : k = i ∨ k = j := by simpa using hk
  rcases hk with rfl | rfl
  · unfold wpOp
    rw [hi]
    simp only [wi, if_true]
    exact .inl (h1 _ fun a' w' hS hh => ⟨hS, hh hS⟩)
  · unfold wpOp
    rw [hj]
    simp only [wj, if_true]
    exact .inl (h2 _ fun a' w' hS hh => ⟨hS, hh hS⟩)
variable {o : Oper} {l : List Oper} {a : Act} {w : World}
theorem mix_take {v : Value} (hg : isLoneA o = false) (hw : Region.wanted o (yielded ops a.tmps) = true) (hy : ∀ w, S w → (execOp a.eval o).run P w = .ok (.value v) w) (h : wpMix P ops Q S K l (a.put o.dst v) w) : wpMix P ops Q S K (o :: l) a w :=
  .inl ⟨v, .inl ⟨hw, hy⟩, h⟩
theorem mix_lone (hg : isLoneA o = true) (hw : Region.wanted o (yielded ops a.tmps) = true)
    (h : ∀ K' : Act → World → Prop, Shut (∀ a' w', S w' → (S w' → wpMix P ops Q S K l a' w') → K' a' w') → o.wp P a w K' Q) : wpMix P ops Q S K (o :: l) a w :=
  .inr ⟨hw, h _ fun _ _ hS hh => ⟨hS, hh hS⟩, hg⟩
theorem mix_end (h : K a w) : wpMix P ops Q S K [] a w := h
theorem any_done {listed : Array Bool} (hr : (Region.ready md ops listed).isEmpty = true) (h : Q .normal a w) : wpAnyH P md ops (NoPanic Q) S 0 listed a w := ⟨by simpa using hr, h⟩
theorem wp_region_by {id : Nat} {l : List Oper} (hm : P.follows .mixedOrders = true) (h : wpAnyH P .any l.toArray (NoPanic Q) S l.length (Array.replicate l.toArray.size false) a w.drew) : (Code.region id l.toArray true).wp P Q a w := by
  refine wp_region_noPanic (wp_region_held (S := S) hm ?_)
  simpa using h
end
end Go.Proofs.YtbhgmccaecmpjaaGreat
