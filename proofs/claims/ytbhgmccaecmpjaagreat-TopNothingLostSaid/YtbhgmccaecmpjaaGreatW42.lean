/-
  engine.Engine: the parts of a round, each as one contract.
  Conditions: the blocks are known.
-/
import Derived.Test.YtbhgmccaecmpjaaGreatW40
namespace Go.Proofs.YtbhgmccaecmpjaaGreat
set_option linter.unusedVariables false
set_option linter.unusedSimpArgs false
open Go.RowKit

/-- Names may be taken off, and put on what is new. -/
def LabLe (lab lab' : Nat → Nat) (w : World) : Prop := ∀ i, i < w.heap.size → isE (lab' i) → isE (lab i)
theorem LabEq.le {lab lab' : Nat → Nat} {w : World} (h : LabEq lab lab' w) : LabLe lab lab' w := fun i hi he => by rw [h i hi] at he; exact he
theorem LabLe.trans {a b c : Nat → Nat} {w w' : World} (h : LabLe a b w) (k : LabLe b c w') (hs : w.heap.size ≤ w'.heap.size) : LabLe a c w := fun i hi he => h i hi (k i (Nat.lt_of_lt_of_le hi hs) he)
theorem LabLe.refl (a : Nat → Nat) (w : World) : LabLe a a w := fun _ _ h => h
theorem LabLe.down {a b : Nat → Nat} {w w' : World} (h : LabLe a b w') (hs : w.heap.size ≤ w'.heap.size) : LabLe a b w := fun i hi => h i (Nat.lt_of_lt_of_le hi hs)
/-- What a part leaves. -/
def StG (x : Nat) (c : ScT) (w : World) (lab : Nat → Nat) (T : ET → Prop) (w' : World) : Prop := ∃ lab' eb' E1, T E1 ∧ LabLe lab lab' w ∧ EngR w' lab' eb' c E1 ∧ eb'.x = x ∧ Foot (fun i => isE (lab i)) w w'
theorem StG.of {x : Nat} {c : ScT} {w w1 w' : World} {lab : Nat → Nat} {T : ET → Prop} (hb : Below w.heap.size w w1) (h : StG x c w1 lab T w') : StG x c w lab T w' := by
  obtain ⟨lab', eb', E1, h1, h2, h3, h4, h5⟩ := h
  exact ⟨lab', eb', E1, h1, h2.down hb.size, h3, h4, (Foot.later hb).trans h5⟩
theorem StG.still {c : ScT} {w w' : World} {lab : Nat → Nat} {eb : EB} {E : ET} {T : ET → Prop} (h : EngR w lab eb c E) (hT : T E) (b : Below w.heap.size w w') : StG eb.x c w lab T w' := ⟨lab, eb, E, hT, LabLe.refl _ _, h.later b, rfl, Foot.later b⟩
/-- A round's slices, of which each holds one or none. -/
structure RB where
  go : Nat
  co : Nat
  gf : Nat
  cf : Nat
  gr : Nat
  cr : Nat
def sl1 (on : Bool) (g c : Nat) : Value := if on then .slice (some ⟨g, 0, none⟩) 1 c else .slice none 0 c
theorem sl1_form (on : Bool) (g c : Nat) : ∃ ao n, sl1 on g c = .slice ao n c := by cases on; exact ⟨_, _, rfl⟩; exact ⟨_, _, rfl⟩
/-- What lies in them. -/
structure RAt (w : World) (R : RdT) (rb : RB) : Prop where
  o : R.op = true → rb.go < w.heap.size ∧ w.cell? ⟨rb.go, 0, none⟩ = some (.int .i64 0)
  f : ∀ u, R.of = some u → rb.gf < w.heap.size ∧ w.cell? ⟨rb.gf, 0, none⟩ = some (.int .i64 0) ∧ w.cell? ⟨rb.gf, 1, none⟩ = some (.string u) ∧ w.cell? ⟨rb.gf, 2, none⟩ = some (.bool false)
  r : ∀ b k, R.rp = some (b, k) → rb.gr < w.heap.size ∧ w.cell? ⟨rb.gr, 0, none⟩ = some (.int .i64 0) ∧ w.cell? ⟨rb.gr, 1, none⟩ = some (.bool true) ∧ w.cell? ⟨rb.gr, 2, none⟩ = some (.bool b) ∧ w.cell? ⟨rb.gr, 3, none⟩ = some (.int .i64 k)
/-- .. in blocks that are not the engine's. -/
structure ROff (lab : Nat → Nat) (R : RdT) (rb : RB) : Prop where
  o : R.op = true → ¬ isE (lab rb.go)
  f : R.of.isSome = true → ¬ isE (lab rb.gf)
  r : R.rp.isSome = true → ¬ isE (lab rb.gr)
section
variable {w w' : World} {R : RdT} {rb : RB} {lab lab' : Nat → Nat}
theorem RAt.foot (h : RAt w R rb) (ho : ROff lab R rb) (f : Foot (fun i => isE (lab i)) w w') : RAt w' R rb := by
  refine ⟨fun e => ?_, fun u e => ?_, fun b k e => ?_⟩
  · obtain ⟨l, h1⟩ := h.o e
    exact ⟨Nat.lt_of_lt_of_le l f.size, (cell_same (f.block _ l (ho.o e))).trans h1⟩
  · obtain ⟨l, h1, h2, h3⟩ := h.f u e
    have hb := f.block _ l (ho.f (by rw [e]; rfl))
    exact ⟨Nat.lt_of_lt_of_le l f.size, (cell_same hb).trans h1, (cell_same hb).trans h2, (cell_same hb).trans h3⟩
  · obtain ⟨l, h1, h2, h3, h4⟩ := h.r b k e
    have hb := f.block _ l (ho.r (by rw [e]; rfl))
    exact ⟨Nat.lt_of_lt_of_le l f.size, (cell_same hb).trans h1, (cell_same hb).trans h2, (cell_same hb).trans h3, (cell_same hb).trans h4⟩
theorem RAt.later (h : RAt w R rb) (k : Below w.heap.size w w') : RAt w' R rb := by
  refine ⟨fun e => ?_, fun u e => ?_, fun b j e => ?_⟩
  · obtain ⟨l, h1⟩ := h.o e
    exact ⟨Nat.lt_of_lt_of_le l k.size, (cell_same (k.block _ l)).trans h1⟩
  · obtain ⟨l, h1, h2, h3⟩ := h.f u e
    have hb := k.block _ l
    exact ⟨Nat.lt_of_lt_of_le l k.size, (cell_same hb).trans h1, (cell_same hb).trans h2, (cell_same hb).trans h3⟩
  · obtain ⟨l, h1, h2, h3, h4⟩ := h.r b j e
    have hb := k.block _ l
    exact ⟨Nat.lt_of_lt_of_le l k.size, (cell_same hb).trans h1, (cell_same hb).trans h2, (cell_same hb).trans h3, (cell_same hb).trans h4⟩
theorem ROff.le (h : ROff lab R rb) (hR : RAt w R rb) (k : LabLe lab lab' w) : ROff lab' R rb := by
  refine ⟨fun e he => h.o e (k _ (hR.o e).1 he), fun e he => ?_, fun e he => ?_⟩
  · obtain ⟨u, hu⟩ := Option.isSome_iff_exists.1 e
    exact h.f e (k _ (hR.f u hu).1 he)
  · obtain ⟨⟨b, j⟩, hu⟩ := Option.isSome_iff_exists.1 e
    exact h.r e (k _ (hR.r b j hu).1 he)
end
section
variable {w : World} {lab : Nat → Nat} {eb : EB} {c : ScT} {E : ET} {R : RdT} {rb : RB}
theorem stOpen (h : EngR w lab eb c E) (hR : RAt w R rb) (hc : R.op = true → E.d = none ∧ PrFit c.nm c.dl c.jm c.o0 c.o1 ∧ E.nx = 0 ∧ ((∃ n, c.o0 = .pause n) ∨ ∃ u, c.o0 = .send u) ∧ EasyD E (comeT c (newT c E.clock) 0)) (hck : 0 ≤ E.clock ∧ E.clock ≤ 1000000000000) (hl : E.out.length ≤ 900000) :
    Calls Tryz.prog 27 #[sl1 R.op rb.go rb.co, .func (.func 28) #[.pointer (some ⟨eb.x, 0, none⟩)] #[]] w fun e w' => e = .returned (.tuple #[]) ∧ StG eb.x c w lab (fun E1 => E1 = opnE c E R.op) w' := by
  unfold sl1
  cases ho : R.op with
  | false =>
    rw [if_neg (by decide)]
    exact (eachI0 _ _ w).mono fun e w' ⟨h1, h2⟩ => ⟨h1, h2 ▸ StG.still h rfl (Below.refl _ _)⟩
  | true =>
    rw [if_pos rfl]
    obtain ⟨hd, hp, hx, h0, h3⟩ := hc ho
    obtain ⟨l, hg⟩ := hR.o ho
    refine eachI1 rb.go rb.co eb.x w (fun w' hb => (cell_same (hb.block _ l)).trans hg) (fun w' hb => ?_)
    refine (enOpen (h.later hb) hd hp hx hck h0 hl h3).mono fun e w'' ⟨lab', eb', h1, h2, h4, h5, h6⟩ => ⟨h1, StG.of hb ⟨lab', eb', _, rfl, fun i hi he => ?_, h4, h5, h6⟩⟩
    rw [h2 i hi] at he
    unfold offD at he
    split at he
    · unfold isE at he; omega
    · exact he
theorem stOffer (h : EngR w lab eb c E) (hR : RAt w R rb) (hc : ∀ u, R.of = some u → E.d.isSome = true ∧ u.size ≤ 4096 ∧ E.wb.length ≤ 500000 ∧ 0 ≤ E.snt ∧ E.snt ≤ 500000) :
    Calls Tryz.prog 29 #[sl1 R.of.isSome rb.gf rb.cf, .func (.func 30) #[.pointer (some ⟨eb.x, 0, none⟩)] #[]] w fun e w' => e = .returned (.tuple #[]) ∧ StG eb.x c w lab (fun E1 => E1 = offE E R.of) w' := by
  unfold sl1
  cases ho : R.of with
  | none =>
    rw [if_neg (by decide)]
    exact (eachO0 _ _ w).mono fun e w' ⟨h1, h2⟩ => ⟨h1, h2 ▸ StG.still h rfl (Below.refl _ _)⟩
  | some u =>
    rw [if_pos (show (some u).isSome = true from rfl)]
    obtain ⟨hd, hu, hS, hs⟩ := hc u ho
    obtain ⟨l, h1, h2, h3⟩ := hR.f u ho
    refine eachO1 rb.gf rb.cf eb.x u w (fun w' hb => ⟨(cell_same (hb.block _ l)).trans h1, (cell_same (hb.block _ l)).trans h2, (cell_same (hb.block _ l)).trans h3⟩) (fun w' hb => ?_)
    exact (enOffer (h.later hb) hd u hu hS hs).mono fun e w'' ⟨lab', wl, h1, h2, h4, h6⟩ => ⟨h1, StG.of hb ⟨lab', _, _, rfl, h2.le, h4, rfl, h6⟩⟩
theorem stReport (h : EngR w lab eb c E) (hR : RAt w R rb) (hc : ∀ b k, R.rp = some (b, k) → RepOk c E b) :
    Calls Tryz.prog 32 #[sl1 R.rp.isSome rb.gr rb.cr, .func (.func 33) #[.pointer (some ⟨eb.x, 0, none⟩)] #[]] w fun e w' => e = .returned (.tuple #[]) ∧ StG eb.x c w lab (RepTo c R.rp E) w' := by
  unfold sl1
  cases ho : R.rp with
  | none =>
    rw [if_neg (by decide)]
    exact (eachR0 _ _ w).mono fun e w' ⟨h1, h2⟩ => ⟨h1, h2 ▸ StG.still h rfl (Below.refl _ _)⟩
  | some bk =>
    obtain ⟨b, k⟩ := bk
    rw [if_pos (show (some (b, k)).isSome = true from rfl)]
    obtain ⟨l, h1, h2, h3, h4⟩ := hR.r b k ho
    refine eachR1 rb.gr rb.cr eb.x true b k w (fun w' hb => ⟨(cell_same (hb.block _ l)).trans h1, (cell_same (hb.block _ l)).trans h2, (cell_same (hb.block _ l)).trans h3, (cell_same (hb.block _ l)).trans h4⟩) (fun w' hb => ?_)
    rcases hc b k ho with ⟨hd, rfl⟩ | ⟨t, hd, ⟨e1, e2, e3, e4⟩, h5, h6, h7, h8⟩
    · exact (enReportN (h.later hb) (by rw [hd]; rfl) true false k).mono fun e w'' ⟨g1, g2⟩ => ⟨g1, StG.of hb (StG.still (h.later hb) (.inl ⟨hd, rfl⟩) g2)⟩
    · cases b with
      | false => exact (enReportR (h.later hb) hd e1 e2 e3 e4 h5 h6 (by omega) k).mono fun e w'' ⟨lab', eb', g1, g2, g3, g4, g5⟩ => ⟨g1, StG.of hb ⟨lab', eb', _, .inr ⟨t, hd, rfl⟩, g2.le, g3, g4, g5⟩⟩
      | true => exact (enReportW (h.later hb) hd e1 e2 e3 e4 h5 h6 h7 k (h8 rfl)).mono fun e w'' ⟨lab', eb', tr, g1, g2, g3, g4, g5⟩ => ⟨g1, StG.of hb ⟨lab', eb', _, ⟨t, tr, hd, rfl⟩, g2.le, g3, g4, g5⟩⟩
/-- The deadlines that have come: none, or his. -/
theorem stDue (h : EngR w lab eb c E) : Calls Tryz.prog 35 #[.pointer (some ⟨eb.hx, 0, none⟩), .int .i64 E.clock] w fun e w' => ∃ lv' on g cap u E1, e = .returned (sl1 on g cap) ∧ EngR w' lab { eb with hl := lv' } c E1 ∧ (∀ w'', Below w'.heap.size w' w'' → on = true → w''.cell? ⟨g, 0, none⟩ = some (.int .i64 u) ∧ w''.cell? ⟨g, 1, none⟩ = some (.int .i64 0)) ∧ Foot (fun i => isE (lab i)) w w' ∧ ((on = false ∧ E1 = E ∧ ∀ t, E.tm = some t → dueB t E.clock = false) ∨ (on = true ∧ E.tm = some u ∧ dueB u E.clock = true ∧ E1 = { E with tm := none })) := by
  have no : (∀ t, E.tm = some t → dueB t E.clock = false) → Calls Tryz.prog 35 #[.pointer (some ⟨eb.hx, 0, none⟩), .int .i64 E.clock] w fun e w' => ∃ lv' on g cap u E1, e = .returned (sl1 on g cap) ∧ EngR w' lab { eb with hl := lv' } c E1 ∧ (∀ w'', Below w'.heap.size w' w'' → on = true → w''.cell? ⟨g, 0, none⟩ = some (.int .i64 u) ∧ w''.cell? ⟨g, 1, none⟩ = some (.int .i64 0)) ∧ Foot (fun i => isE (lab i)) w w' ∧ ((on = false ∧ E1 = E ∧ ∀ t, E.tm = some t → dueB t E.clock = false) ∨ (on = true ∧ E.tm = some u ∧ dueB u E.clock = true ∧ E1 = { E with tm := none })) := fun hno =>
    (heDueNo (h.hea (by simp)) hno).mono fun e w' ⟨h1, h2⟩ => ⟨eb.hl, false, 0, 0, 0, E, h1, h.later h2, fun _ _ e => (by cases e), Foot.later h2, .inl ⟨rfl, rfl, hno⟩⟩
  have key : E.tm = none ∨ ∃ u, E.tm = some u := by cases E.tm with | none => exact .inl rfl | some u => exact .inr ⟨u, rfl⟩
  rcases key with ht | ⟨u, ht⟩
  · exact no (fun t e => by rw [ht] at e; cases e)
  · by_cases hd : dueB u E.clock = true
    · have hh := h.hea (by simp)
      rw [ht] at hh
      refine (heDue hh hd).mono fun e w' ⟨g, cap, lv', h1, h2, h3, h4, h5, h6⟩ => ?_
      have L := h.lb
      have f : Foot (fun i => isE (lab i)) w w' := h6.mono (fun i hi => by rw [(L.he i hi).1]; unfold isE; omega)
      have h' := h.foot h6 [5] (fun i hi => by rw [(h.lb.he i hi).1, cls_low (by omega)]; simp) (by simp)
      have L' := h'.lb
      refine ⟨lv', true, g, cap, u, { E with tm := none }, h1, ?_, fun w'' hb _ => h3 w'' hb, f, .inr ⟨rfl, ht, hd, rfl⟩⟩
      refine ⟨fun k => h'.blk (off1 _ k (by decide)), fun k => h'.slo (off1 _ k (by decide)), h'.sok, fun k => h'.sea (off1 _ k (by decide)), fun k => h'.tur (off1 _ k (by decide)), h'.tok, fun _ => h4, fun k => h'.map (off1 _ k (by decide)), h'.row, h'.scr, fun k => h'.out (off1 _ k (by decide)), fun k => h'.sat (off1 _ k (by decide)), fun k => h'.wir (off1 _ k (by decide)), fun k => h'.dia (off1 _ k (by decide)), ⟨L'.x, L'.sl, L'.sa, L'.tb, fun i hi => ?_, L'.mm, L'.sg, L'.sb, L'.ov, L'.se, L'.wx, L'.wl, L'.dx⟩, h'.ok⟩
      refine L'.he i ?_
      unfold heF at hi ⊢
      rw [← h5]
      exact hi
    · exact no (fun t e => by rw [ht] at e; cases e; simpa using hd)
theorem stWake (h : EngR w lab eb c E) {on : Bool} {g cap : Nat} {u : Int} (hg : ∀ w', Below w.heap.size w w' → on = true → w'.cell? ⟨g, 0, none⟩ = some (.int .i64 u) ∧ w'.cell? ⟨g, 1, none⟩ = some (.int .i64 0)) (hc : on = true → ∃ t, E.d = some t ∧ EasyD E t) :
    Calls Tryz.prog 34 #[sl1 on g cap, .func (.func 36) #[.pointer (some ⟨eb.x, 0, none⟩)] #[]] w fun e w' => e = .returned (.tuple #[]) ∧ StG eb.x c w lab (fun E1 => (on = false ∧ E1 = E) ∨ (on = true ∧ ∃ t, E.d = some t ∧ E1 = settleT c E t)) w' := by
  unfold sl1
  cases on with
  | false =>
    rw [if_neg (by decide)]
    exact (eachE0 _ _ w).mono fun e w' ⟨h1, h2⟩ => ⟨h1, h2 ▸ StG.still h (.inl ⟨rfl, rfl⟩) (Below.refl _ _)⟩
  | true =>
    rw [if_pos rfl]
    obtain ⟨t, hd, e1, e2, e3, e4⟩ := hc rfl
    refine eachE1 g cap eb.x u w (fun w' hb => hg w' hb rfl) (fun w' hb => ?_)
    exact (enWake (h.later hb) hd e1 e2 e3 e4 u).mono fun e w'' ⟨lab', lv, g1, g2, g3, g4⟩ => ⟨g1, StG.of hb ⟨lab', _, _, .inr ⟨rfl, t, hd, rfl⟩, g2.le, g3, rfl, g4⟩⟩
/-- A turn, if there may be one. -/
theorem stTurn (h : EngR w lab eb c E) (hcf : c.fit) {J : Nat → ET → Prop} {m : Nat} (hJ : JOk c J) (hj : J (m + 1) E) :
    Calls Tryz.prog 37 #[.pointer (some ⟨eb.x, 0, none⟩)] w fun e w' => e = .returned (.bool E.waits) ∧ StG eb.x c w lab (fun E1 => (E.waits = true ∧ TurnTo c (tuB c E) E1 ∧ J m E1) ∨ (E.waits = false ∧ E1 = E)) w' := by
  obtain ⟨ht, hw⟩ := hJ m E hj
  cases hq : E.waits with
  | false => exact (enTurnNo h ⟨hq, ht⟩).mono fun e w' ⟨h1, h2⟩ => ⟨h1, StG.still h (.inr ⟨rfl, rfl⟩) h2⟩
  | true =>
    obtain ⟨⟨t, hd⟩, hk, ⟨I, hI, hi⟩, hn⟩ := hw hq
    exact (enTurn h hd hcf ⟨hq, ht⟩ hk hI hi).mono fun e w' ⟨lab', eb', E', h1, h2, h3, h4, h5, h6⟩ => ⟨h1, lab', eb', E', .inl ⟨rfl, h4, hn _ h4⟩, h2.le, h3, h5, h6⟩
/-- A round has begun. -/
theorem EngX.begun {w' : World} (h : EngR w lab eb c E) (f : Foot (fun i => i = eb.x) w w') {clock rounds : Int} (hb : Blk w' eb.x 87 (ET.cells { E with clock := clock, rounds := rounds, out := [] } { eb with ov := .slice none 0 0 } c)) : EngR w' lab { eb with ov := .slice none 0 0 } c { E with clock := clock, rounds := rounds, out := [] } := by
  have h' := h.foot f [1] (fun i hi => by rw [hi, h.lb.x.1, cls_low (by omega)]; simp) (by simp)
  have L := h'.lb
  exact ⟨fun _ => hb, fun k => h'.slo (off1 _ k (by decide)), h'.sok, fun k => h'.sea (off1 _ k (by decide)), fun k => h'.tur (off1 _ k (by decide)), h'.tok, fun k => h'.hea (off1 _ k (by decide)), fun k => h'.map (off1 _ k (by decide)), h'.row, h'.scr, fun _ => orow_nil _ _ _ _, fun k => h'.sat (off1 _ k (by decide)), fun k => h'.wir (off1 _ k (by decide)), fun k => h'.dia (off1 _ k (by decide)), ⟨L.x, L.sl, L.sa, L.tb, L.he, L.mm, L.sg, L.sb, fun g hg => (by cases hg), L.se, L.wx, L.wl, L.dx⟩, h'.ok⟩
end
end Go.Proofs.YtbhgmccaecmpjaaGreat
