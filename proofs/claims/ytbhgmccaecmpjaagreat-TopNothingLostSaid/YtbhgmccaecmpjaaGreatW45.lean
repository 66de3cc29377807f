/-
  play.events, play.Events: rounds that are played.
  Conditions: the setup may be; the script's and the rounds' blocks are known; what the rounds want is handed in.
-/
import Derived.Test.YtbhgmccaecmpjaaGreatW44
import Derived.Maps.AppendAt
namespace Go.Proofs.YtbhgmccaecmpjaaGreat
set_option linter.unusedVariables false
set_option linter.unusedSimpArgs false
open Go.RowKit

/-- What rounds come to: all events. -/
def RoundsTo (c : ScT) : List RdT → ET → List EvT → Prop
  | [], _, l => l = []
  | R :: Rs, E, l => ∃ E' l', RoundTo c R E E' ∧ l = E'.out ++ l' ∧ RoundsTo c Rs E' l'
/-- .. and what they want. -/
def ChainOk (c : ScT) : List RdT → ET → Prop
  | [], _ => True
  | R :: Rs, E => (∃ J, JOk c J ∧ RndOk c R E J) ∧ ∀ E', RoundTo c R E E' → (1 ≤ E'.out.length ∧ E'.out.length ≤ 1000) ∧ ChainOk c Rs E'
theorem EngX.else_ {w w' : World} {lab : Nat → Nat} {eb : EB} {c : ScT} {E : ET} {o : List Nat} {F : Nat → Prop} (h : EngX o w lab eb c E) (f : Foot F w w') (hF : ∀ i, F i → ¬ isE (lab i)) : EngX o w' lab eb c E := by
  have n := h.lb
  have nf : ∀ k i, lab i = k → 1 ≤ k → k ≤ 27 → ¬ F i := fun k i hi h1 h2 hf => hF i hf (by rw [hi]; exact ⟨h1, h2⟩)
  refine ⟨fun e => (h.blk e).foot f (nf _ _ n.x.1 (by omega) (by omega)), fun e => (h.slo e).foot f (fun i hi => nf _ _ (n.sl i hi).1 (by omega) (by omega)), h.sok, fun e => (h.sea e).foot f (nf _ _ n.sa.1 (by omega) (by omega)), fun e => (h.tur e).foot f (fun i hi => nf _ _ (n.tb i hi).1 (by omega) (by omega)), h.tok, fun e => (h.hea e).foot f (fun i hi => nf _ _ (n.he i hi).1 (by omega) (by omega)), fun e => (h.map e).foot f (nf _ _ n.mm.1 (by omega) (by omega)),
    fun i v e => (cell_same (f.block _ n.sg.2 (nf _ _ n.sg.1 (by omega) (by omega)))).trans (h.row i v e), h.scr.foot f (fun i hi => nf _ _ (n.sb i hi).1 (by omega) (by omega)), fun e => (h.out e).same f (fun g hg => nf _ _ (n.ov g hg).1 (by omega) (by omega)), fun e d => (h.sat e d).foot f (nf _ _ (n.se d).1 (by omega) (by omega)), fun e d => ?_, fun e t ht => (h.dia e t ht).foot f (fun i hi => nf _ i rfl (by have := hi.1; omega) hi.2), n.size f.size, h.ok⟩
  obtain ⟨a, ps, hw⟩ := h.wir e d
  exact ⟨a, ps, ⟨hw.blk.foot f (nf _ _ (n.wx d).1 (by omega) (by omega)), hw.pcs.foot f (fun g hg => ⟨nf _ _ (n.wl d g hg).1 (by omega) (by omega), (n.wl d g hg).2⟩), hw.own, hw.first, hw.none_, hw.bytes, hw.each⟩⟩
/-- Where the rounds lie: one behind the other in block g. -/
structure RndsAt (w : World) (g : Nat) (Rs : List (RdT × RB)) : Prop where
  lt : g < w.heap.size
  cell : ∀ (i : Nat) R rb, Rs[i]? = some (R, rb) → w.cell? ⟨g, i * 6, none⟩ = some (.int .i64 R.tk) ∧ w.cell? ⟨g, i * 6 + 1, none⟩ = some (sl1 R.op rb.go rb.co) ∧ w.cell? ⟨g, i * 6 + 2, none⟩ = some (sl1 R.of.isSome rb.gf rb.cf) ∧ w.cell? ⟨g, i * 6 + 3, none⟩ = some (sl1 R.rp.isSome rb.gr rb.cr) ∧ w.cell? ⟨g, i * 6 + 4, none⟩ = some (.int .i64 0) ∧ w.cell? ⟨g, i * 6 + 5, none⟩ = some (.bool false)
  at_ : ∀ (i : Nat) R rb, Rs[i]? = some (R, rb) → RAt w R rb
theorem RndsAt.later {w w' : World} {g : Nat} {Rs : List (RdT × RB)} (h : RndsAt w g Rs) (b : Below w.heap.size w w') : RndsAt w' g Rs := by
  have e : ∀ j, w'.cell? ⟨g, j, none⟩ = w.cell? ⟨g, j, none⟩ := fun j => cell_same (b.block _ h.lt)
  refine ⟨Nat.lt_of_lt_of_le h.lt b.size, fun i R rb hi => ?_, fun i R rb hi => (h.at_ i R rb hi).later b⟩
  obtain ⟨h1, h2, h3, h4, h5, h6⟩ := h.cell i R rb hi
  exact ⟨(e _).trans h1, (e _).trans h2, (e _).trans h3, (e _).trans h4, (e _).trans h5, (e _).trans h6⟩
/-- Where play.events stands behind k rounds. -/
structure EvI (w wk : World) (labk : Nat → Nat) (ebk : EB) (x : Nat) (c : ScT) (E0 Ek : ET) (Rs : List RdT) (k : Nat) (ao : Option Addr) (cap : Nat) (evs : List EvT) : Prop where
  h : EngR wk labk ebk c Ek
  x : ebk.x = x
  lo : ∀ i, i < w.heap.size → ¬ isE (labk i)
  b : Below w.heap.size w wk
  o : ORow 69 12 w.heap.size wk (.slice ao evs.length cap) evs.length (evAll evs)
  on : ∀ g, Value.ownBlock (.slice ao evs.length cap) = some g → ¬ isE (labk g)
  chain : ChainOk c (Rs.drop k) Ek
  tr : ∀ l, RoundsTo c (Rs.drop k) Ek l → RoundsTo c Rs E0 (evs ++ l)
  len : evs.length ≤ 1000 * k
theorem evAll_length (l : List EvT) : (evAll l).length = l.length * 12 := by
  induction l with
  | nil => rfl
  | cons x l ih => show (x.cells ++ evAll l).length = _; rw [List.length_append, ih]; simp [EvT.cells]; omega
theorem evAll_app (l m : List EvT) : evAll (l ++ m) = evAll l ++ evAll m := by unfold evAll; simp
theorem evAll_one (l : List EvT) : ∀ u ∈ evAll l, u.oneCell' = true := by
  intro u hu
  unfold evAll at hu
  obtain ⟨x, _, hx⟩ := List.mem_flatMap.1 hu
  exact x.one u hx
theorem EvI.step {w wk w' w'' : World} {labk : Nat → Nat} {ebk : EB} {x : Nat} {c : ScT} {E0 Ek : ET} {Rs : List RdT} {k : Nat} {ao : Option Addr} {cap : Nat} {evs : List EvT} {R : RdT} {lab' : Nat → Nat} {eb' : EB} {E' : ET} {ao' : Option Addr} {cap' : Nat}
    (h : EvI w wk labk ebk x c E0 Ek Rs k ao cap evs) (hR : Rs[k]? = some R) (hT : RoundTo c R Ek E') (hle : LabLe labk lab' wk) (hE : EngR w' lab' eb' c E') (hx : eb'.x = ebk.x) (hf : Foot (fun i => isE (labk i)) wk w')
    (hg : w'.grownBy w'' (Value.ownBlock (.slice ao evs.length cap))) (ho : ORow 69 12 w.heap.size w'' (.slice ao' (evs.length + E'.out.length) cap') (evs.length + E'.out.length) (evAll evs ++ evAll E'.out)) (hgr : ∀ g, Value.ownBlock (.slice ao' (evs.length + E'.out.length) cap') = some g → Value.ownBlock (.slice ao evs.length cap) = some g ∨ w'.heap.size ≤ g) :
    EvI w w'' (labNew lab' w' 0) eb' x c E0 E' Rs (k + 1) ao' cap' (evs ++ E'.out) := by
  have hlt := fun g hg => World.ownsRow.lt h.o g hg
  have hk : k < Rs.length := (List.getElem?_eq_some_iff.1 hR).1
  have hd : Rs.drop k = R :: Rs.drop (k + 1) := by
    rw [List.drop_eq_getElem_cons hk]
    congr 1
    have := (List.getElem?_eq_some_iff.1 hR).2
    exact this
  have hch := h.chain
  rw [hd] at hch
  obtain ⟨_, hch⟩ := hch
  obtain ⟨⟨l1, l2⟩, hch⟩ := hch E' hT
  have f : Foot (fun i => Value.ownBlock (.slice ao evs.length cap) = some i) w' w'' := Foot.grown hg (fun g e => e)
  have n0 : ∀ g, Value.ownBlock (.slice ao evs.length cap) = some g → ¬ isE (labNew lab' w' 0 g) := fun g e he => by
    have h1 := (hlt g e).2
    rw [labNew_old (Nat.lt_of_lt_of_le h1 hf.size)] at he
    exact h.on g e (hle g h1 he)
  have hws := h.b.size
  refine ⟨(hE.relab (labNew_eq lab' w' 0)).else_ f n0, hx.trans h.x, fun i hi he => ?_, ?_, ?_, fun g e he => ?_, hch, fun l hl => ?_, ?_⟩
  · have h1 : i < wk.heap.size := by omega
    rw [labNew_old (Nat.lt_of_lt_of_le h1 hf.size)] at he
    exact h.lo i hi (hle i h1 he)
  · refine ⟨f.os.trans (hf.os.trans h.b.os), f.tape.trans (hf.tape.trans h.b.tape), f.output.trans (hf.output.trans h.b.output), Nat.le_trans hws (Nat.le_trans hf.size f.size), fun i hi => ?_⟩
    have h1 : i < wk.heap.size := by omega
    rw [f.block i (Nat.lt_of_lt_of_le h1 hf.size) (fun e => by have := (hlt i e).1; omega), hf.block i h1 (h.lo i hi)]
    exact h.b.block i hi
  · rw [List.length_append, evAll_app]; exact ho
  · rw [List.length_append] at e
    rcases hgr g e with h1 | h1
    · exact n0 g h1 he
    · rw [labNew_new h1] at he; unfold isE at he; omega
  · rw [List.append_assoc]
    refine h.tr _ ?_
    rw [hd]
    exact ⟨E', l, hT, rfl, hl⟩
  · rw [List.length_append]
    have := h.len
    omega
theorem EvI.later {w wk w' : World} {labk : Nat → Nat} {ebk : EB} {x : Nat} {c : ScT} {E0 Ek : ET} {Rs : List RdT} {k : Nat} {ao : Option Addr} {cap : Nat} {evs : List EvT} (h : EvI w wk labk ebk x c E0 Ek Rs k ao cap evs) (b : Below wk.heap.size wk w') : EvI w w' labk ebk x c E0 Ek Rs k ao cap evs :=
  ⟨h.h.later b, h.x, h.lo, h.b.up b, orow_later h.o b, h.on, h.chain, h.tr, h.len⟩
theorem EvI.relab {w wk : World} {labk lab' : Nat → Nat} {ebk : EB} {x : Nat} {c : ScT} {E0 Ek : ET} {Rs : List RdT} {k : Nat} {ao : Option Addr} {cap : Nat} {evs : List EvT} (h : EvI w wk labk ebk x c E0 Ek Rs k ao cap evs) (e : LabEq labk lab' wk) : EvI w wk lab' ebk x c E0 Ek Rs k ao cap evs :=
  ⟨h.h.relab e, h.x, fun i hi he => by rw [e i (Nat.lt_of_lt_of_le hi h.b.size)] at he; exact h.lo i hi he, h.b, h.o, fun g hg he => by rw [e g (World.ownsRow.lt h.o g hg).2] at he; exact h.on g hg he, h.chain, h.tr, h.len⟩
theorem ORow.sameB {e : TypeId} {k n B : Nat} {w w' : World} {F : Nat → Prop} {v : Value} {xs : List Value} (h : ORow e k B w v n xs) (f : Foot F w w') (hF : ∀ g, v.ownBlock = some g → ¬ F g) : ORow e k B w' v n xs := by
  refine ⟨h.1, ?_⟩
  rcases h.2 with h | ⟨g, cap', cur, hv, hB, hb, h1, h2, h3, h4⟩
  · exact .inl h
  · exact .inr ⟨g, cap', cur, hv, hB, (f.block g (World.ownsRow.lt h g (by rw [hv]; rfl)).2 (hF g (by rw [hv]; rfl))).trans hb, h1, h2, h3, h4⟩
/-- What a round leaves to play.events. -/
structure RdP (w w' w'' : World) (x : Nat) (c : ScT) (E0 Ek : ET) (Rs : List RdT) (k : Nat) (ao : Option Addr) (cap : Nat) (evs : List EvT) (R : RdT) (labk : Nat → Nat) (g' m cap' : Nat) (ebk : EB) (lab' : Nat → Nat) (eb' : EB) (E' : ET) : Prop where
  ev : EvI w w' labk ebk x c E0 Ek Rs k ao cap evs
  at_ : Rs[k]? = some R
  rt : RoundTo c R Ek E'
  le : LabLe labk lab' w'
  en : EngR w'' lab' eb' c E'
  x : eb'.x = ebk.x
  ft : Foot (fun i => isE (labk i)) w' w''
  ov : eb'.ov = .slice (some ⟨g', 0, none⟩) m cap'
  m : m = E'.out.length
  l2 : E'.out.length ≤ 1000
def RdO (w w' w'' : World) (x : Nat) (c : ScT) (E0 Ek : ET) (Rs : List RdT) (k : Nat) (ao : Option Addr) (cap : Nat) (evs : List EvT) (R : RdT) (labk : Nat → Nat) (g' m cap' : Nat) : Prop := ∃ ebk lab' eb' E', RdP w w' w'' x c E0 Ek Rs k ao cap evs R labk g' m cap' ebk lab' eb' E'
set_option maxRecDepth 100000 in
set_option maxHeartbeats 8000000 in
theorem plEvents {w : World} {c : ScT} (hok : c.ok) (hcf : c.fit) (nm : ByteArray) (g0 c0 gr cr : Nat) (sb : SB2) (hnm : nm = c.nm) (h0 : g0 < w.heap.size) (hg : w.cell? ⟨g0, 0, none⟩ = some (.string nm) ∧ w.cell? ⟨g0, 1, none⟩ = some (.int .i64 c.dl) ∧ w.cell? ⟨g0, 2, none⟩ = some (.int .i64 c.jm) ∧ w.cell? ⟨g0, 3, none⟩ = some (.slice (some ⟨sb.g, 0, none⟩) 2 sb.c)) (hs : Scr w sb c.o0 c.o1)
    (Rs : List (RdT × RB)) (hR : RndsAt w gr Rs) (hlen : Rs.length ≤ 500) (hch : ChainOk c (Rs.map (·.1)) ⟨0, 0, 0, none, [], 0, 0, false, false, 0, 0, none, none, []⟩) :
    Calls Tryz.prog 13 #[.agg #[.int .i64 c.l, .int .i64 c.r, .int .i64 c.n, .int .i64 c.o, .int .i64 c.q, .int .i64 c.v], .slice (some ⟨g0, 0, none⟩) 1 c0, .slice (some ⟨gr, 0, none⟩) Rs.length cr] w fun e w' => ∃ ao cap evs, e = .returned (.tuple #[.slice ao evs.length cap, .int .i64 0]) ∧ ORow 69 12 w.heap.size w' (.slice ao evs.length cap) evs.length (evAll evs) ∧ RoundsTo c (Rs.map (·.1)) ⟨0, 0, 0, none, [], 0, 0, false, false, 0, 0, none, none, []⟩ evs ∧ evs.length ≤ 1000 * Rs.length ∧ Below w.heap.size w w' := by
  obtain ⟨N, hN⟩ : ∃ N, N = Rs.length := ⟨_, rfl⟩
  rw [← hN]
  have HN := Lib.hid hN
  obtain ⟨q, hq⟩ : ∃ q, w.heap.size = q := ⟨_, rfl⟩
  obtain ⟨w1, hw1⟩ : ∃ w1, w1 = w.alloc (.cells #[.int .i64 c.l, .int .i64 c.r, .int .i64 c.n, .int .i64 c.o, .int .i64 c.q, .int .i64 c.v] 23) := ⟨_, rfl⟩
  have b1 : Below w.heap.size w w1 := by rw [hw1]; exact Below.alloc (Below.refl _ _) (Nat.le_refl _) _
  have K1 : Blk w1 q 23 #[.int .i64 c.l, .int .i64 c.r, .int .i64 c.n, .int .i64 c.o, .int .i64 c.q, .int .i64 c.v] := by rw [hw1, ← hq]; exact Blk.new _ _ _
  obtain ⟨E0, hE0⟩ : ∃ E0 : ET, E0 = ⟨0, 0, 0, none, [], 0, 0, false, false, 0, 0, none, none, []⟩ := ⟨_, rfl⟩
  rw [← hE0] at hch ⊢
  have FN : Hid (∀ w', Below w1.heap.size w1 w' → Calls Tryz.prog 15 #[.agg #[.int .i64 c.l, .int .i64 c.r, .int .i64 c.n, .int .i64 c.o, .int .i64 c.q, .int .i64 c.v], .slice (some ⟨g0, 0, none⟩) 1 c0] w' fun e w'' => ∃ lab x, e = .returned (.tuple #[.pointer (some ⟨x, 0, none⟩), .int .i64 0]) ∧ Hid (∃ eb : EB, eb.x = x ∧ (∀ i, i < w'.heap.size → lab i = 0) ∧ EngR w'' lab eb c E0) ∧ Below w'.heap.size w' w'') := Lib.hid fun w' hb => by
    have h1 : ∀ w'', Below w'.heap.size w' w'' → w''.cell? ⟨g0, 0, none⟩ = some (.string nm) ∧ w''.cell? ⟨g0, 1, none⟩ = some (.int .i64 c.dl) ∧ w''.cell? ⟨g0, 2, none⟩ = some (.int .i64 c.jm) ∧ w''.cell? ⟨g0, 3, none⟩ = some (.slice (some ⟨sb.g, 0, none⟩) 2 sb.c) := fun w'' hb2 => by
      have hbb := (b1.up hb).up hb2
      have e := hbb.block g0 h0
      exact ⟨(cell_same e).trans hg.1, (cell_same e).trans hg.2.1, (cell_same e).trans hg.2.2.1, (cell_same e).trans hg.2.2.2⟩
    have := enNew hok nm g0 c0 sb hnm h1 (hs.later (b1.up hb))
    rw [← hE0] at this
    exact this.mono fun e w'' ⟨lab, eb, g1, g2, g3, g4⟩ => ⟨lab, eb.x, g1, Lib.hid ⟨eb, rfl, g2, g3⟩, g4⟩
  have HW1 := Lib.hid hw1
  have HQ := Lib.hid hq
  have B1 := Lib.hid b1
  have HR := Lib.hid hR
  have HCF := Lib.hid hcf
  have HCH := Lib.hid hch
  have hn5 : N ≤ 500 := by omega
  clear hw1 hq b1 hR hs hok hg hnm h0 hcf hch hlen hE0 hN
  go_enter Tryz.func13, Tryz.ntmps13
  go_upto_region 2 with fail
  rw [← HW1.out, HQ.out]
  have d1 := K1.at6
  have hr := Below.refl w1.heap.size w1
  go_wp2_with fail
  refine (FN.out _ (by (repeat' (first | exact Below.refl _ _ | assumption | exact And.left (by assumption) | apply bel_alloc | apply Below.drew)))).mono ?_; rintro r w2 ⟨lab2, x, rfl, HE2, b2⟩
  have b2' : Below w1.heap.size w1 w2 := by first | exact b2 | exact (Below.refl _ _).drew.up b2
  have I2 : Hid (∃ ebk, EvI w w2 lab2 ebk x c E0 E0 (Rs.map (·.1)) 0 none 0 []) := Lib.hid (by
    obtain ⟨eb, h1, h2, h3⟩ := HE2.out
    exact ⟨eb, h3, h1, fun i hi he => by
      have h4 : w1.heap.size ≤ w1.drew.heap.size := Nat.le_refl _
      rw [h2 i (by have := B1.out.size; omega)] at he
      unfold isE at he; omega, B1.out.up b2', orow_nil _ _ _ _, fun g hg => (by cases hg), HCH.out, fun l h => h, Nat.zero_le _⟩)
  clear d1 hr HE2 b2 b2' FN K1 HCH B1 HW1 HQ
  have hr := Below.refl w2.heap.size w2
  go_wp2_with fail
  go_loopw [8, 24] (fun ov iv wr => ∃ (k : Nat) (ao : Option Addr) (cap : Nat) (evs : List EvT) (lab : Nat → Nat) (Ek : ET), iv = .int .i64 k ∧ k ≤ N ∧ ov = .slice ao evs.length cap ∧ Hid (∃ ebk, EvI w wr lab ebk x c E0 Ek (Rs.map (·.1)) k ao cap evs)) (fun _ iv _ => N - (intOf iv).toNat)
  case atStart => exact ⟨0, none, 0, [], lab2, E0, rfl, by omega, rfl, I2⟩
  case round =>
    clear I2 hr
    obtain ⟨k, ao, cap, evs, labk, Ek, rfl, hk, rfl, HI⟩ := hrel
    have hr := Below.refl wr.heap.size wr
    by_cases hlt : k < N
    · have e1 : (k : Int) < (N : Int) := by omega
      obtain ⟨R, rb, hRk⟩ : ∃ R rb, Rs[k]? = some (R, rb) := ⟨(Rs[k]'(by have := HN.out; omega)).1, (Rs[k]'(by have := HN.out; omega)).2, List.getElem?_eq_getElem _⟩
      obtain ⟨o1, n1, hv1⟩ := sl1_form R.op rb.go rb.co
      obtain ⟨o2, n2, hv2⟩ := sl1_form R.of.isSome rb.gf rb.cf
      obtain ⟨o3, n3, hv3⟩ := sl1_form R.rp.isSome rb.gr rb.cr
      have BW : Hid (Below w.heap.size w wr) := Lib.hid (by obtain ⟨eb, h⟩ := HI.out; exact h.b)
      have d1 : ∀ w', Below wr.heap.size wr w' → w'.cell? ⟨gr, k * 6, none⟩ = some (.int .i64 R.tk) ∧ w'.cell? ⟨gr, k * 6 + 1, none⟩ = some (.slice o1 n1 rb.co) ∧ w'.cell? ⟨gr, k * 6 + 2, none⟩ = some (.slice o2 n2 rb.cf) ∧ w'.cell? ⟨gr, k * 6 + 3, none⟩ = some (.slice o3 n3 rb.cr) ∧ w'.cell? ⟨gr, k * 6 + 4, none⟩ = some (.int .i64 0) ∧ w'.cell? ⟨gr, k * 6 + 5, none⟩ = some (.bool false) := fun w' hb => by
        have := (HR.out.later (BW.out.up hb)).cell k R rb hRk
        rw [hv1, hv2, hv3] at this
        exact this
      have hRn : (Rs.map (·.1))[k]? = some R := by rw [List.getElem?_map, hRk]; rfl
      have FR : Hid (∀ w', Below wr.heap.size wr w' → Calls Tryz.prog 16 #[.pointer (some ⟨x, 0, none⟩), .agg #[.int .i64 R.tk, .slice o1 n1 rb.co, .slice o2 n2 rb.cf, .slice o3 n3 rb.cr, .int .i64 0, .bool false]] w' fun e w'' => ∃ g' m cap', e = .returned (.slice (some ⟨g', 0, none⟩) m cap') ∧ Hid (RdO w w' w'' x c E0 Ek (Rs.map (·.1)) k ao cap evs R labk g' m cap')) := Lib.hid fun w' hb => by
        obtain ⟨ebk, h⟩ := HI.out
        have h := h.later hb
        have hch := h.chain
        have hkl : k < (Rs.map (·.1)).length := by rw [List.length_map]; have := HN.out; omega
        have hd : (Rs.map (·.1)).drop k = R :: (Rs.map (·.1)).drop (k + 1) := by
          rw [List.drop_eq_getElem_cons hkl]
          congr 1
          exact (List.getElem?_eq_some_iff.1 hRn).2
        rw [hd] at hch
        obtain ⟨⟨J, hJ, hOk⟩, hch⟩ := hch
        have hA := HR.out.at_ k R rb hRk
        have hoff : ROff labk R rb := ⟨fun e => h.lo _ (hA.o e).1, fun e => by
          obtain ⟨u, hu⟩ := Option.isSome_iff_exists.1 e
          exact h.lo _ (hA.f u hu).1, fun e => by
          obtain ⟨⟨b, j⟩, hu⟩ := Option.isSome_iff_exists.1 e
          exact h.lo _ (hA.r b j hu).1⟩
        have := enRound h.h HCF.out (hA.later h.b) hoff hJ hOk
        rw [hv1, hv2, hv3, h.x] at this
        refine this.mono fun e w'' ⟨lab', eb', E', g1, g2, g3, g4, g5, g6⟩ => ?_
        obtain ⟨⟨l1, l2⟩, _⟩ := hch E' g2
        have o := g4.out (by simp)
        obtain ⟨ao', cap', hov, _⟩ := orow_form o
        rw [hov] at o
        obtain ⟨g', hg', _, _⟩ := orow_cell o 0 (by rw [evAll_length]; omega)
        subst hg'
        exact ⟨g', E'.out.length, cap', by rw [g1, hov], Lib.hid ⟨ebk, lab', eb', E', h, hRn, g2, g3, g4, g5.trans h.x.symm, g6, hov, rfl, l2⟩⟩
      have HX := Lib.hid (And.intro hv1 (And.intro hv2 hv3))
      clear hv1 hv2 hv3 hRk hRn
      go_wp2_with fail
      refine (FR.out _ (by (repeat' (first | exact Below.refl _ _ | assumption | exact And.left (by assumption) | apply bel_alloc | apply Below.drew)))).mono ?_; rintro r w3 ⟨g', m, cap', rfl, HO⟩
      clear d1 hr
      obtain ⟨i0, hi, hz0, hz1, hz2⟩ := info_parts info_Event
      obtain ⟨ebk, lab', eb', E', hO⟩ := HO.out
      have HO2 := Lib.hid hO
      have ho1 := hO.ev.o.sameB hO.ft (fun g hg => hO.ev.on g hg)
      have hn3 : evs.length ≤ 1000 * k := hO.ev.len
      have hm : m = E'.out.length := hO.m
      have hm2 : m ≤ 1000 := by rw [hm]; exact hO.l2
      have hb3 : w.heap.size ≤ w3.heap.size := Nat.le_trans hO.ev.b.size hO.ft.size
      have hq2 : ∀ (j : Nat) u, (evAll E'.out)[j]? = some u → w3.cell? ((⟨g', 0, none⟩ : Addr).add j) = some u := fun j u hj => by
        have o := hO.en.out (by simp)
        rw [hO.ov] at o
        obtain ⟨g2, hg2, _, hc⟩ := orow_cell o j (List.getElem?_eq_some_iff.1 hj).1
        cases hg2
        rw [Addr.add_lit, Nat.zero_add]
        exact (hc w3 (Below.refl _ _)).trans hj
      have HO1 := Lib.hid ho1
      have HQ2 := Lib.hid hq2
      have HM := Lib.hid hm
      clear hO HO hq2 ho1 hm
      go_wp2_with (at_builtin; refine wpList_append_own_at _ rfl _ _ 43 rfl w.heap.size 69 i0 (.agg #[.int .i64 0, .int .i64 0, .int .i64 0, .int .i64 0, .string ⟨#[]⟩, .int .i64 0, .int .i64 0, .int .i64 0, .int .i64 0, .int .i64 0, .int .i64 0, .int .i64 0]) 12 104 Tryz.underlying43 hi hz0 hz1 hz2 rfl (by decide) _ _ _ rfl HO1.out ⟨g', 0, none⟩ m cap' (evAll E'.out) rfl (by rw [evAll_length, HM.out]) HQ2.out (evAll_one _) ?qc4 ?qc5 hb3 ?qc7)
      case qc4 => unfold maxLen; omega
      case qc5 => omega
      case qc7 =>
      intro v' w4 hown hgrow hnil hat
      have hown' : ORow 69 12 w.heap.size w4 v' (evs.length + E'.out.length) (evAll evs ++ evAll E'.out) := by rw [← HM.out]; exact hown
      obtain ⟨ao', cap4, rfl, _⟩ := orow_form hown'
      have hS := HO2.out
      have I4 := Lib.hid (hS.ev.step hS.at_ hS.rt hS.le hS.en hS.x hS.ft hgrow hown' (fun g hg => by
        rcases hat with h | h
        · exact .inl (h ▸ hg)
        · rw [h] at hg; cases hg; exact .inr (Nat.le_refl _)))
      clear hown hgrow hnil hat hown' hS
      have hr := Below.refl w4.heap.size w4
      go_wp2_with fail
      go_roundw
      case rel => exact ⟨k + 1, ao', cap4, evs ++ E'.out, _, E', by go_num, by omega, by simp, Lib.hid ⟨_, I4.out⟩⟩
      case measure => simp [intOf]; omega
    · have e1 : ¬ (k : Int) < (N : Int) := by omega
      obtain rfl : k = N := by omega
      go_wp2_with fail
      go_ret2
      obtain ⟨eb, h⟩ := HI.out
      refine ⟨ao, cap, evs, rfl, h.o, ?_, h.len, h.b⟩
      have h2 := h.tr []
      rw [List.append_nil] at h2
      refine h2 ?_
      rw [List.drop_eq_nil_of_le (by rw [List.length_map, ← HN.out]; exact Nat.le_refl _)]
      rfl
end Go.Proofs.YtbhgmccaecmpjaaGreat
