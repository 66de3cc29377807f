/-
  An engine of one dialogue: what is known of its memory.
  Conditions: none.
-/
import Derived.Test.YtbhgmccaecmpjaaGreatW33
import Derived.Test.YtbhgmccaecmpjaaGreatW08
import Derived.Test.YtbhgmccaecmpjaaGreatW12
namespace Go.Proofs.YtbhgmccaecmpjaaGreat
set_option linter.unusedVariables false
set_option linter.unusedSimpArgs false
open Go.RowKit

/-- An event. -/
structure EvT where
  k : Int
  i : Int
  n : Int
  t : Int
  b : ByteArray
  e : Int
  s0 : Int
  s1 : Int
  s2 : Int
  s3 : Int
  s4 : Int
  s5 : Int
def EvT.cells (x : EvT) : List Value := [.int .i64 x.k, .int .i64 x.i, .int .i64 x.n, .int .i64 x.t, .string x.b, .int .i64 x.e, .int .i64 x.s0, .int .i64 x.s1, .int .i64 x.s2, .int .i64 x.s3, .int .i64 x.s4, .int .i64 x.s5]
def evAll (l : List EvT) : List Value := l.flatMap EvT.cells
/-- How an engine of one dialogue stands. -/
structure ET where
  clock : Int
  rounds : Int
  nx : Nat
  d : Option DT
  wb : List UInt8
  snt : Int
  rd : Int
  waits : Bool
  turn : Bool
  p : Int
  k : Nat
  tm : Option Int
  st : Option Int
  out : List EvT
/-- Where it lies. -/
structure EB where
  x : Nat
  sl : SB
  sa : Nat
  tb : TB
  hx : Nat
  hw : Nat
  hl : Value
  mm : Nat
  sg : Nat
  scap : Nat
  sb : SB2
  ov : Value
  se : Nat
  wx : Nat
  wl : Value
  db : DB
def ET.cells (E : ET) (eb : EB) (c : ScT) : Array Value := #[.int .i64 c.l, .int .i64 c.r, .int .i64 c.n, .int .i64 c.o, .int .i64 c.q, .int .i64 c.v, .slice (some ⟨eb.sg, 0, none⟩) 1 eb.scap, .pointer (some ⟨eb.sl.x, 0, none⟩), .slice (some ⟨eb.sa, 0, none⟩) c.l c.l, .pointer (some ⟨eb.tb.x, 0, none⟩), .pointer (some ⟨eb.hx, 0, none⟩), .map (some eb.mm), .int .i64 E.clock, .int .i64 E.rounds, .bool false, .bool false, eb.ov]
/-- Who is in slot 0. -/
def ET.sv (E : ET) (eb : EB) : Value := if E.d.isSome then .pointer (some ⟨eb.se, 0, none⟩) else .pointer none
/-- The names of its blocks. -/
structure ELab (w : World) (lab : Nat → Nat) (eb : EB) (c : ScT) (E : ET) : Prop where
  x : lab eb.x = 1 ∧ eb.x < w.heap.size
  sl : ∀ i, eb.sl.in_ i → lab i = 2 ∧ i < w.heap.size
  sa : lab eb.sa = 3 ∧ eb.sa < w.heap.size
  tb : ∀ i, eb.tb.in_ i → lab i = 4 ∧ i < w.heap.size
  he : ∀ i, heF eb.hx eb.hw eb.hl i → lab i = 5 ∧ i < w.heap.size
  mm : lab eb.mm = 6 ∧ eb.mm < w.heap.size
  sg : lab eb.sg = 7 ∧ eb.sg < w.heap.size
  sb : ∀ i, eb.sb.in_ c.o0 c.o1 i → lab i = 7 ∧ i < w.heap.size
  ov : ∀ g, eb.ov.ownBlock = some g → lab g = 8 ∧ g < w.heap.size
  se : E.d.isSome = true → lab eb.se = 9 ∧ eb.se < w.heap.size
  wx : E.d.isSome = true → lab eb.wx = 10 ∧ eb.wx < w.heap.size
  wl : E.d.isSome = true → ∀ g, eb.wl.ownBlock = some g → lab g = 10 ∧ g < w.heap.size
  dx : E.d.isSome = true → lab eb.db.x = 27 ∧ eb.db.x < w.heap.size
/-- All that is known of it, but for the part o. -/
structure EngX (o : List Nat) (w : World) (lab : Nat → Nat) (eb : EB) (c : ScT) (E : ET) : Prop where
  blk : 1 ∉ o → Blk w eb.x 87 (E.cells eb c)
  slo : 2 ∉ o → Slo w eb.sl c.l E.d.isSome E.nx
  sok : eb.sl.ok
  sea : 3 ∉ o → Arr w eb.sa 130 c.l (E.sv eb)
  tur : 4 ∉ o → Tur w eb.tb c.l c.q E.waits E.turn E.p E.k
  tok : eb.tb.ok
  hea : 5 ∉ o → Hea w eb.hx eb.hw eb.hl c.l E.tm
  map : 6 ∉ o → MapI w eb.mm (mapD E.st.isSome (E.st.getD 0))
  row : ∀ (i : Nat) v, ([.string c.nm, .int .i64 c.dl, .int .i64 c.jm, .slice (some ⟨eb.sb.g, 0, none⟩) 2 eb.sb.c] : List Value)[i]? = some v → w.cell? ⟨eb.sg, i, none⟩ = some v
  scr : Scr w eb.sb c.o0 c.o1
  out : 8 ∉ o → ORow 69 12 0 w eb.ov E.out.length (evAll E.out)
  sat : 9 ∉ o → E.d.isSome = true → Blk w eb.se 134 #[.int .i64 0, .pointer (some ⟨eb.db.x, 0, none⟩), .pointer (some ⟨eb.wx, 0, none⟩)]
  wir : 10 ∉ o → E.d.isSome = true → ∃ a ps, Wir w eb.wx eb.wl E.wb E.snt E.rd false a ps
  dia : 20 ∉ o → ∀ t, E.d = some t → DiaR w lab eb.db c t
  lb : ELab w lab eb c E
  ok : c.ok
abbrev EngR := EngX []
section
variable {w w' : World} {lab lab' : Nat → Nat} {eb : EB} {c : ScT} {E : ET} {o : List Nat} {F : Nat → Prop}
theorem ELab.size (h : ELab w lab eb c E) (k : w.heap.size ≤ w'.heap.size) : ELab w' lab eb c E :=
  ⟨⟨h.x.1, Nat.lt_of_lt_of_le h.x.2 k⟩, fun i hi => ⟨(h.sl i hi).1, Nat.lt_of_lt_of_le (h.sl i hi).2 k⟩, ⟨h.sa.1, Nat.lt_of_lt_of_le h.sa.2 k⟩, fun i hi => ⟨(h.tb i hi).1, Nat.lt_of_lt_of_le (h.tb i hi).2 k⟩, fun i hi => ⟨(h.he i hi).1, Nat.lt_of_lt_of_le (h.he i hi).2 k⟩,
    ⟨h.mm.1, Nat.lt_of_lt_of_le h.mm.2 k⟩, ⟨h.sg.1, Nat.lt_of_lt_of_le h.sg.2 k⟩, fun i hi => ⟨(h.sb i hi).1, Nat.lt_of_lt_of_le (h.sb i hi).2 k⟩, fun i hi => ⟨(h.ov i hi).1, Nat.lt_of_lt_of_le (h.ov i hi).2 k⟩, fun i => ⟨(h.se i).1, Nat.lt_of_lt_of_le (h.se i).2 k⟩, fun i => ⟨(h.wx i).1, Nat.lt_of_lt_of_le (h.wx i).2 k⟩, fun d i hi => ⟨(h.wl d i hi).1, Nat.lt_of_lt_of_le (h.wl d i hi).2 k⟩, fun i => ⟨(h.dx i).1, Nat.lt_of_lt_of_le (h.dx i).2 k⟩⟩
theorem ELab.relab (h : ELab w lab eb c E) (e : LabEq lab lab' w) : ELab w lab' eb c E :=
  ⟨⟨(e _ h.x.2).trans h.x.1, h.x.2⟩, fun i hi => ⟨(e _ (h.sl i hi).2).trans (h.sl i hi).1, (h.sl i hi).2⟩, ⟨(e _ h.sa.2).trans h.sa.1, h.sa.2⟩, fun i hi => ⟨(e _ (h.tb i hi).2).trans (h.tb i hi).1, (h.tb i hi).2⟩, fun i hi => ⟨(e _ (h.he i hi).2).trans (h.he i hi).1, (h.he i hi).2⟩,
    ⟨(e _ h.mm.2).trans h.mm.1, h.mm.2⟩, ⟨(e _ h.sg.2).trans h.sg.1, h.sg.2⟩, fun i hi => ⟨(e _ (h.sb i hi).2).trans (h.sb i hi).1, (h.sb i hi).2⟩, fun i hi => ⟨(e _ (h.ov i hi).2).trans (h.ov i hi).1, (h.ov i hi).2⟩, fun i => ⟨(e _ (h.se i).2).trans (h.se i).1, (h.se i).2⟩, fun i => ⟨(e _ (h.wx i).2).trans (h.wx i).1, (h.wx i).2⟩, fun d i hi => ⟨(e _ (h.wl d i hi).2).trans (h.wl d i hi).1, (h.wl d i hi).2⟩, fun i => ⟨(e _ (h.dx i).2).trans (h.dx i).1, (h.dx i).2⟩⟩
theorem EngX.later (h : EngX o w lab eb c E) (k : Below w.heap.size w w') : EngX o w' lab eb c E :=
  ⟨fun e => (h.blk e).later k, fun e => (h.slo e).later k, h.sok, fun e => (h.sea e).later k, fun e => (h.tur e).later k, h.tok, fun e => (h.hea e).later k, fun e => (h.map e).later k, fun i v e => (cell_same (k.block _ h.lb.sg.2)).trans (h.row i v e), h.scr.later k, fun e => orow_later (h.out e) k, fun e d => (h.sat e d).later k, fun e d => by obtain ⟨a, ps, hw⟩ := h.wir e d; exact ⟨a, ps, hw.later k⟩, fun e t ht => (h.dia e t ht).later k, h.lb.size k.size, h.ok⟩
theorem EngX.relab (h : EngX o w lab eb c E) (e : LabEq lab lab' w) : EngX o w lab' eb c E :=
  ⟨h.blk, h.slo, h.sok, h.sea, h.tur, h.tok, h.hea, h.map, h.row, h.scr, h.out, h.sat, h.wir, fun n t ht => (h.dia n t ht).relab e, h.lb.relab e, h.ok⟩
theorem ORow.same {e : TypeId} {k n : Nat} {v : Value} {xs : List Value} (h : ORow e k 0 w v n xs) (f : Foot F w w') (hF : ∀ g, v.ownBlock = some g → ¬ F g) : ORow e k 0 w' v n xs := by
  refine ⟨h.1, ?_⟩
  rcases h.2 with h | ⟨g, cap', cur, hv, hB, hb, h1, h2, h3, h4⟩
  · exact .inl h
  · exact .inr ⟨g, cap', cur, hv, hB, (f.block g (World.ownsRow.lt h g (by rw [hv]; rfl)).2 (hF g (by rw [hv]; rfl))).trans hb, h1, h2, h3, h4⟩
theorem Pieces.foot {lv : Value} {ps : List ByteArray} (h : Pieces w lv ps) (f : Foot F w w') (hF : ∀ g, lv.ownBlock = some g → ¬ F g ∧ g < w.heap.size) : Pieces w' lv ps := by
  rcases h with h | ⟨g, off, cap, cur, hv, hb, h1, h2, h3, h4⟩
  · exact .inl h
  · have := hF g (by rw [hv]; rfl)
    exact .inr ⟨g, off, cap, cur, hv, (f.block g this.2 this.1).trans hb, h1, h2, h3, h4⟩
/-- A name's part. -/
def cls (n : Nat) : Nat := if 20 ≤ n ∧ n ≤ 27 then 20 else n
theorem cls_low {n : Nat} (h : n ≤ 19) : cls n = n := by unfold cls; rw [if_neg (by omega)]
theorem cls_d {n : Nat} (h : isD n) : cls n = 20 := by exact if_pos h
/-- Some parts have turned. -/
theorem EngX.foot (h : EngX o w lab eb c E) (f : Foot F w w') (s : List Nat) (hF : ∀ i, F i → cls (lab i) ∈ s) (h7 : 7 ∉ s) : EngX (s ++ o) w' lab eb c E := by
  have n := h.lb
  have no : ∀ k, k ∉ s ++ o → k ∉ o := fun k h1 h2 => h1 (List.mem_append.2 (.inr h2))
  have nf : ∀ k i, lab i = k → k ≤ 19 → k ∉ s ++ o → ¬ F i := fun k i hi hk hn hf => hn (List.mem_append.2 (.inl (by have := hF i hf; rwa [hi, cls_low hk] at this)))
  have nf7 : ∀ i, lab i = 7 → ¬ F i := fun i hi hf => h7 (by have := hF i hf; rwa [hi, cls_low (by omega)] at this)
  refine ⟨fun e => (h.blk (no _ e)).foot f (nf _ _ n.x.1 (by omega) e), fun e => (h.slo (no _ e)).foot f (fun i hi => nf _ _ (n.sl i hi).1 (by omega) e), h.sok, fun e => (h.sea (no _ e)).foot f (nf _ _ n.sa.1 (by omega) e), fun e => (h.tur (no _ e)).foot f (fun i hi => nf _ _ (n.tb i hi).1 (by omega) e), h.tok, fun e => (h.hea (no _ e)).foot f (fun i hi => nf _ _ (n.he i hi).1 (by omega) e), fun e => (h.map (no _ e)).foot f (nf _ _ n.mm.1 (by omega) e),
    fun i v e => (cell_same (f.block _ n.sg.2 (nf7 _ n.sg.1))).trans (h.row i v e), h.scr.foot f (fun i hi => nf7 _ (n.sb i hi).1), fun e => (h.out (no _ e)).same f (fun g hg => nf _ _ (n.ov g hg).1 (by omega) e), fun e d => (h.sat (no _ e) d).foot f (nf _ _ (n.se d).1 (by omega) e), fun e d => ?_, fun e t ht => (h.dia (no _ e) t ht).foot f (fun i hi hf => e (List.mem_append.2 (.inl (by have := hF i hf; rwa [cls_d hi] at this)))), n.size f.size, h.ok⟩
  obtain ⟨a, ps, hw⟩ := h.wir (no _ e) d
  exact ⟨a, ps, ⟨hw.blk.foot f (nf _ _ (n.wx d).1 (by omega) e), hw.pcs.foot f (fun g hg => ⟨nf _ _ (n.wl d g hg).1 (by omega) e, (n.wl d g hg).2⟩), hw.own, hw.first, hw.none_, hw.bytes, hw.each⟩⟩
theorem EngX.at_ (h : EngX o w lab eb c E) (h1 : 1 ∉ o) : ∀ w', Below w.heap.size w w' → w'.cell? ⟨eb.x, 0, none⟩ = some (.int .i64 c.l) ∧ w'.cell? ⟨eb.x, 1, none⟩ = some (.int .i64 c.r) ∧ w'.cell? ⟨eb.x, 2, none⟩ = some (.int .i64 c.n) ∧ w'.cell? ⟨eb.x, 3, none⟩ = some (.int .i64 c.o) ∧ w'.cell? ⟨eb.x, 4, none⟩ = some (.int .i64 c.q) ∧ w'.cell? ⟨eb.x, 5, none⟩ = some (.int .i64 c.v) ∧ w'.cell? ⟨eb.x, 6, none⟩ = some (.slice (some ⟨eb.sg, 0, none⟩) 1 eb.scap) ∧ w'.cell? ⟨eb.x, 7, none⟩ = some (.pointer (some ⟨eb.sl.x, 0, none⟩)) ∧ w'.cell? ⟨eb.x, 8, none⟩ = some (.slice (some ⟨eb.sa, 0, none⟩) c.l c.l) ∧ w'.cell? ⟨eb.x, 9, none⟩ = some (.pointer (some ⟨eb.tb.x, 0, none⟩)) ∧ w'.cell? ⟨eb.x, 10, none⟩ = some (.pointer (some ⟨eb.hx, 0, none⟩)) ∧ w'.cell? ⟨eb.x, 11, none⟩ = some (.map (some eb.mm)) ∧ w'.cell? ⟨eb.x, 12, none⟩ = some (.int .i64 E.clock) ∧ w'.cell? ⟨eb.x, 13, none⟩ = some (.int .i64 E.rounds) ∧ w'.cell? ⟨eb.x, 14, none⟩ = some (.bool false) ∧ w'.cell? ⟨eb.x, 15, none⟩ = some (.bool false) ∧ w'.cell? ⟨eb.x, 16, none⟩ = some (eb.ov) ∧ ∀ i, w'.frozen? ⟨eb.x, i, none⟩ = false := fun w' hb => by
  have hk : Blk w' eb.x 87 (E.cells eb c) := Blk.later (h.blk h1) hb
  exact ⟨hk.cell 0, hk.cell 1, hk.cell 2, hk.cell 3, hk.cell 4, hk.cell 5, hk.cell 6, hk.cell 7, hk.cell 8, hk.cell 9, hk.cell 10, hk.cell 11, hk.cell 12, hk.cell 13, hk.cell 14, hk.cell 15, hk.cell 16, fun i => hk.frozen i⟩
theorem EngX.atS (h : EngX o w lab eb c E) (h3 : 3 ∉ o) (h9 : 9 ∉ o) (hd : E.d.isSome = true) : ∀ w', Below w.heap.size w w' → w'.cell? ⟨eb.sa, 0, none⟩ = some (.pointer (some ⟨eb.se, 0, none⟩)) ∧ w'.cell? ⟨eb.se, 0, none⟩ = some (.int .i64 0) ∧ w'.cell? ⟨eb.se, 1, none⟩ = some (.pointer (some ⟨eb.db.x, 0, none⟩)) ∧ w'.cell? ⟨eb.se, 2, none⟩ = some (.pointer (some ⟨eb.wx, 0, none⟩)) := fun w' hb => by
  have hk := (h.sat h9 hd).later hb
  have ha := ((h.sea h3).at_ w' hb).1
  unfold ET.sv at ha
  rw [if_pos hd] at ha
  exact ⟨ha, hk.cell 0, hk.cell 1, hk.cell 2⟩
end
end Go.Proofs.YtbhgmccaecmpjaaGreat

namespace Go.Proofs.YtbhgmccaecmpjaaGreat
set_option linter.unusedVariables false
set_option linter.unusedSimpArgs false
open Go.RowKit

theorem info_Event : (Tryz.prog.info? 69).map (fun i => (i.zero, i.size, i.bytes)) = some (some (.agg #[.int .i64 0, .int .i64 0, .int .i64 0, .int .i64 0, .string ⟨#[]⟩, .int .i64 0, .int .i64 0, .int .i64 0, .int .i64 0, .int .i64 0, .int .i64 0, .int .i64 0]), 12, 104) := by kernel_rfl
section
variable {w w' : World} {lab lab' : Nat → Nat} {eb : EB} {c : ScT} {E : ET} {o : List Nat}
theorem evAll_snoc (l : List EvT) (x : EvT) : evAll (l ++ [x]) = evAll l ++ x.cells := by unfold evAll; simp
/-- Its row of events has grown. -/
theorem EngX.told (h : EngX o w lab eb c E) (f : Foot (fun i => i = eb.x ∨ eb.ov.ownBlock = some i) w w') {ov : Value} {x : EvT} (e : LabEq lab lab' w) (hb : Blk w' eb.x 87 (E.cells { eb with ov := ov } c)) (hr : ORow 69 12 0 w' ov (E.out.length + 1) (evAll E.out ++ x.cells))
    (hn : ∀ g, ov.ownBlock = some g → lab' g = 8 ∧ g < w'.heap.size) : EngX o w' lab' { eb with ov := ov } c { E with out := E.out ++ [x] } := by
  have h0 := h.relab e
  have h' := h0.foot f [1, 8] (fun i hi => by
    rcases hi with rfl | hi
    · rw [h0.lb.x.1, cls_low (by omega)]; simp
    · rw [(h0.lb.ov i hi).1, cls_low (by omega)]; simp) (by simp)
  have g : ∀ k, k ∉ o → k ≠ 1 → k ≠ 8 → k ∉ [1, 8] ++ o := fun k h1 h2 h3 h4 => by
    rcases List.mem_append.1 h4 with h4 | h4
    · simp at h4; omega
    · exact h1 h4
  have L := h'.lb
  refine ⟨fun _ => hb, fun k => h'.slo (g _ k (by decide) (by decide)), h'.sok, fun k => h'.sea (g _ k (by decide) (by decide)), fun k => h'.tur (g _ k (by decide) (by decide)), h'.tok, fun k => h'.hea (g _ k (by decide) (by decide)), fun k => h'.map (g _ k (by decide) (by decide)), h'.row, h'.scr, fun _ => ?_, fun k => h'.sat (g _ k (by decide) (by decide)), fun k => h'.wir (g _ k (by decide) (by decide)), fun k => h'.dia (g _ k (by decide) (by decide)), ⟨L.x, L.sl, L.sa, L.tb, L.he, L.mm, L.sg, L.sb, hn, L.se, L.wx, L.wl, L.dx⟩, h'.ok⟩
  · show ORow _ _ _ _ _ (E.out ++ [x]).length _
    rw [evAll_snoc, List.length_append]
    exact hr
end
theorem EvT.one (x : EvT) : ∀ u ∈ x.cells, u.oneCell' = true := by
  intro u hu
  unfold EvT.cells at hu
  simp only [List.mem_cons, List.not_mem_nil, or_false] at hu
  rcases hu with rfl | rfl | rfl | rfl | rfl | rfl | rfl | rfl | rfl | rfl | rfl | rfl <;> rfl
set_option maxRecDepth 100000 in
set_option maxHeartbeats 8000000 in
theorem enTell {w : World} {lab : Nat → Nat} {eb : EB} {c : ScT} {E : ET} {o : List Nat} (h : EngX o w lab eb c E) (h1 : 1 ∉ o) (h8 : 8 ∉ o) (hl : E.out.length ≤ 1000000) (k i n t : Int) (b : ByteArray) (er s0 s1 s2 s3 s4 s5 : Int) :
    Calls Tryz.prog 26 #[.pointer (some ⟨eb.x, 0, none⟩), .agg #[.int .i64 k, .int .i64 i, .int .i64 n, .int .i64 t, .string b, .int .i64 er, .int .i64 s0, .int .i64 s1, .int .i64 s2, .int .i64 s3, .int .i64 s4, .int .i64 s5]] w fun e w' => ∃ lab' ov, e = .returned (.tuple #[]) ∧ LabEq lab lab' w ∧ EngX o w' lab' { eb with ov := ov } c { E with out := E.out ++ [⟨k, i, n, t, b, er, s0, s1, s2, s3, s4, s5⟩] } ∧ Foot (fun i => lab i = 1 ∨ lab i = 8) w w' := by
  have HH := Lib.hid h
  have HL8 := Lib.hid (And.intro hl (And.intro h1 h8))
  obtain ⟨q, hq⟩ : ∃ q, w.heap.size = q := ⟨_, rfl⟩
  obtain ⟨w1, hw1⟩ : ∃ w1, w1 = w.alloc (.cells #[.int .i64 k, .int .i64 i, .int .i64 n, .int .i64 t, .string b, .int .i64 er, .int .i64 s0, .int .i64 s1, .int .i64 s2, .int .i64 s3, .int .i64 s4, .int .i64 s5] 69) := ⟨_, rfl⟩
  have b1 : Below w.heap.size w w1 := by rw [hw1]; exact Below.alloc (Below.refl _ _) (Nat.le_refl _) _
  have K1 : Blk w1 q 69 #[.int .i64 k, .int .i64 i, .int .i64 n, .int .i64 t, .string b, .int .i64 er, .int .i64 s0, .int .i64 s1, .int .i64 s2, .int .i64 s3, .int .i64 s4, .int .i64 s5] := by rw [hw1, ← hq]; exact Blk.new _ _ _
  have HW1 := Lib.hid hw1
  have HQ := Lib.hid hq
  have X1 := (h.later b1).blk h1
  have O1 := (h.later b1).out h8
  obtain ⟨ao, cap, hov, hmx⟩ := orow_form O1
  have HOV := Lib.hid hov
  rw [hov] at O1
  have B1 := Lib.hid b1
  clear hw1 hq b1 h hl h1 h8 hov hmx
  go_enter Tryz.func26, Tryz.ntmps26
  go_upto_region 1 with fail
  rw [← HW1.out, HQ.out]
  obtain ⟨cs, hcs⟩ : ∃ cs, cs = E.cells eb c := ⟨_, rfl⟩
  have h16 : cs[16]? = some (.slice ao E.out.length cap) := by rw [hcs, ← HOV.out]; rfl
  have HCS := Lib.hid hcs
  rw [← hcs] at X1
  have MK : Hid (∀ w', Blk w' eb.x 87 cs → Blk w' q 69 #[.int .i64 k, .int .i64 i, .int .i64 n, .int .i64 t, .string b, .int .i64 er, .int .i64 s0, .int .i64 s1, .int .i64 s2, .int .i64 s3, .int .i64 s4, .int .i64 s5] → w'.cell? ⟨eb.x, 16, none⟩ = some (.slice ao E.out.length cap) ∧ w'.frozen? ⟨eb.x, 16, none⟩ = false ∧ w'.cell? ⟨q, 0, none⟩ = some (.int .i64 k) ∧ w'.cell? ⟨q, 1, none⟩ = some (.int .i64 i) ∧ w'.cell? ⟨q, 2, none⟩ = some (.int .i64 n) ∧ w'.cell? ⟨q, 3, none⟩ = some (.int .i64 t) ∧ w'.cell? ⟨q, 4, none⟩ = some (.string b) ∧ w'.cell? ⟨q, 5, none⟩ = some (.int .i64 er) ∧ w'.cell? ⟨q, 6, none⟩ = some (.int .i64 s0) ∧ w'.cell? ⟨q, 7, none⟩ = some (.int .i64 s1) ∧ w'.cell? ⟨q, 8, none⟩ = some (.int .i64 s2) ∧ w'.cell? ⟨q, 9, none⟩ = some (.int .i64 s3) ∧ w'.cell? ⟨q, 10, none⟩ = some (.int .i64 s4) ∧ w'.cell? ⟨q, 11, none⟩ = some (.int .i64 s5)) := Lib.hid fun w' h h' => ⟨(h.cell 16).trans h16, h.frozen 16, h'.cell 0, h'.cell 1, h'.cell 2, h'.cell 3, h'.cell 4, h'.cell 5, h'.cell 6, h'.cell 7, h'.cell 8, h'.cell 9, h'.cell 10, h'.cell 11⟩
  clear h16 hcs
  have QX : Hid (eb.x ≠ q) := Lib.hid fun e => by have h1 := HH.out.lb.x.2; have h2 := HQ.out; omega
  have HD : Below w1.heap.size w1 w1.drew := (Below.refl _ _).drew
  have X1d := X1.drew
  have K1d := K1.drew
  have O1d := orow_later O1 HD
  clear HD
  refine wp_region_ordL (S := fun w' => w'.cell? ⟨eb.x, 16, none⟩ = some (.slice ao E.out.length cap) ∧ w'.frozen? ⟨eb.x, 16, none⟩ = false ∧ w'.cell? ⟨q, 0, none⟩ = some (.int .i64 k) ∧ w'.cell? ⟨q, 1, none⟩ = some (.int .i64 i) ∧ w'.cell? ⟨q, 2, none⟩ = some (.int .i64 n) ∧ w'.cell? ⟨q, 3, none⟩ = some (.int .i64 t) ∧ w'.cell? ⟨q, 4, none⟩ = some (.string b) ∧ w'.cell? ⟨q, 5, none⟩ = some (.int .i64 er) ∧ w'.cell? ⟨q, 6, none⟩ = some (.int .i64 s0) ∧ w'.cell? ⟨q, 7, none⟩ = some (.int .i64 s1) ∧ w'.cell? ⟨q, 8, none⟩ = some (.int .i64 s2) ∧ w'.cell? ⟨q, 9, none⟩ = some (.int .i64 s3) ∧ w'.cell? ⟨q, 10, none⟩ = some (.int .i64 s4) ∧ w'.cell? ⟨q, 11, none⟩ = some (.int .i64 s5)) [0, 1, 2, 3, 4, 5, 6, 7, 8, 9, 10] 10 (by kernel_rfl) (by kernel_rfl) (by kernel_rfl) (by kernel_rfl) (by kernel_rfl) (by kernel_rfl) (MK.out _ X1d K1d) ?_
  simp only [pickL, List.filterMap_cons, List.filterMap_nil, List.getElem?_cons_zero, List.getElem?_cons_succ]
  repeat (refine ordL_take (v := ?_) (by rfl) (by rfl) ?_ ?_; rotate_left; (focus (intro w hSw; (try dsimp only at hSw); go_simp; (try with_reducible rfl))); simp only [Act.put, List.setIfInBounds_toArray, List.set_cons_zero, List.set_cons_succ])
  refine ordL_lone (by rfl) (by rfl) (fun KK hK => ?_)
  try go_simp
  refine hK.out (_) (w1.drew.alloc (.cells #[.int .i64 k, .int .i64 i, .int .i64 n, .int .i64 t, .string b, .int .i64 er, .int .i64 s0, .int .i64 s1, .int .i64 s2, .int .i64 s3, .int .i64 s4, .int .i64 s5] 69)) (.inr (MK.out _ (X1d.alloc _) (K1d.alloc _))) ?_
  clear hK KK
  try simp only [Act.put, List.setIfInBounds_toArray, List.set_cons_zero, List.set_cons_succ]
  refine ordL_lone (by rfl) (by rfl) (fun KK hK => ?_)
  refine wp_append1 info_Event rfl (by decide) (by decide) Tryz.underlying43 (.tmp 8) (.tmp 10) rfl (.slice ao E.out.length cap) _ _ rfl (World.ownsRow.alloc O1d _) w1.drew.heap.size rfl [.int .i64 k, .int .i64 i, .int .i64 n, .int .i64 t, .string b, .int .i64 er, .int .i64 s0, .int .i64 s1, .int .i64 s2, .int .i64 s3, .int .i64 s4, .int .i64 s5] rfl ?a1 (EvT.one ⟨k, i, n, t, b, er, s0, s1, s2, s3, s4, s5⟩) HL8.out.1 (Nat.zero_le _) ?a3
  case a1 => intro j u hj; exact ((Blk.new w1.drew 69 #[.int .i64 k, .int .i64 i, .int .i64 n, .int .i64 t, .string b, .int .i64 er, .int .i64 s0, .int .i64 s1, .int .i64 s2, .int .i64 s3, .int .i64 s4, .int .i64 s5]).cell j).trans (by simpa using hj)
  case a3 =>
  intro ao2 cap2 w2 o2 g2 gr2
  have OO : ∀ g, Value.ownBlock (.slice ao E.out.length cap) = some g → lab g = 8 ∧ g < w.heap.size := fun g hg => HH.out.lb.ov g (by rw [HOV.out]; exact hg)
  have hX := HH.out.lb.x
  have X2 := (X1d.alloc (.cells #[.int .i64 k, .int .i64 i, .int .i64 n, .int .i64 t, .string b, .int .i64 er, .int .i64 s0, .int .i64 s1, .int .i64 s2, .int .i64 s3, .int .i64 s4, .int .i64 s5] 69)).grown g2 (fun e => by have := (OO _ e.symm).1; omega)
  have K2 := (K1d.alloc (.cells #[.int .i64 k, .int .i64 i, .int .i64 n, .int .i64 t, .string b, .int .i64 er, .int .i64 s0, .int .i64 s1, .int .i64 s2, .int .i64 s3, .int .i64 s4, .int .i64 s5] 69)).grown g2 (fun e => by have h1 := (OO _ e.symm).2; have h2 := HQ.out; omega)
  have d2 : ∀ w', Below w2.heap.size w2 w' → w'.cell? ⟨eb.x, 16, none⟩ = some (.slice ao E.out.length cap) ∧ w'.frozen? ⟨eb.x, 16, none⟩ = false := fun w' hb => ⟨(MK.out w' (X2.later hb) (K2.later hb)).1, (MK.out w' (X2.later hb) (K2.later hb)).2.1⟩
  have hr2 := Below.refl w2.heap.size w2
  refine hK.out _ _ (.inr (MK.out _ X2 K2)) ?_
  clear hK KK
  try simp only [Act.put, List.setIfInBounds_toArray, List.set_cons_zero, List.set_cons_succ]
  repeat (refine ordL_take (v := ?_) (by rfl) (by rfl) ?_ ?_; rotate_left; (focus (intro w hSw; (try dsimp only at hSw); go_simp; (try with_reducible rfl))); simp only [Act.put, List.setIfInBounds_toArray, List.set_cons_zero, List.set_cons_succ])
  refine ordL_lone (by rfl) (by rfl) (fun KK hK => ?_)
  try go_simp
  refine hK.out _ _ (.inl (by trivial)) ?_
  clear hK KK
  try simp only [Act.put, List.setIfInBounds_toArray, List.set_cons_zero, List.set_cons_succ]
  refine ordL_done ?_
  have h5 : Below w.heap.size w (w1.drew.alloc (.cells #[.int .i64 k, .int .i64 i, .int .i64 n, .int .i64 t, .string b, .int .i64 er, .int .i64 s0, .int .i64 s1, .int .i64 s2, .int .i64 s3, .int .i64 s4, .int .i64 s5] 69)) := B1.out.drew.alloc (by have := B1.out.size; exact this) _
  have f2 : Foot (fun i => i = eb.x ∨ eb.ov.ownBlock = some i) w w2 := (Foot.later h5).trans (Foot.grown g2 (fun g hg => .inr (by rw [HOV.out]; exact hg)))
  have f3 : Foot (fun i => i = eb.x ∨ eb.ov.ownBlock = some i) w (w2.setCell ⟨eb.x, 16, none⟩ (.slice ao2 (E.out.length + 1) cap2)) := f2.set (.inl (.inl rfl)) _
  have X3 := X2.set_ 16 (.slice ao2 (E.out.length + 1) cap2)
  have N2 : ∀ g, Value.ownBlock (.slice ao2 (E.out.length + 1) cap2) = some g → (labNew lab w 8) g = 8 ∧ g < w2.heap.size ∧ g ≠ eb.x := fun g hg => by
    have hlt := (World.ownsRow.lt o2 g hg).2
    rcases gr2 g hg with h | h
    · have := OO g h
      exact ⟨(labNew_old this.2).trans this.1, hlt, fun e => by have := this.1; rw [e] at this; omega⟩
    · have h6 := h5.size
      exact ⟨labNew_new (by omega), hlt, fun e => by omega⟩
  have f4 : Foot (fun i => i = eb.x) w2 (w2.setCell ⟨eb.x, 16, none⟩ (.slice ao2 (E.out.length + 1) cap2)) := foot_set (fun i => i = eb.x) (Foot.refl _ w2) eb.x 16 rfl _
  have O3 := ORow.same o2 f4 (fun g hg => (N2 g hg).2.2)
  rw [HCS.out] at X3
  have T := HH.out.told (lab' := labNew lab w 8) f3 (ov := .slice ao2 (E.out.length + 1) cap2) (x := ⟨k, i, n, t, b, er, s0, s1, s2, s3, s4, s5⟩) (labNew_eq lab w 8) X3 O3 (fun g hg => ⟨(N2 g hg).1, by have := (N2 g hg).2.1; have := f4.size; omega⟩)
  have f5 := f3.mono (G := fun i => lab i = 1 ∨ lab i = 8) (fun i hi => by
    rcases hi with rfl | hi
    · exact .inl hX.1
    · exact .inr (HH.out.lb.ov i hi).1)
  have TT := Lib.hid T
  have F5 := Lib.hid f5
  clear d2 hr2 T f5 f4 f3 f2 X3 O3 X2 K2 o2 g2 gr2 N2 OO h5 hX
  go_wp2_with fail
  go_end0
  exact ⟨_, _, rfl, labNew_eq lab w 8, TT.out, F5.out⟩
end Go.Proofs.YtbhgmccaecmpjaaGreat

namespace Go.Proofs.YtbhgmccaecmpjaaGreat
set_option linter.unusedVariables false
set_option linter.unusedSimpArgs false
open Go.RowKit

def tmT (n : Int) : Option Int := if n = nev then none else some n
theorem heSet {w : World} {x wh n : Nat} {lv : Value} {at_ : Option Int} {u : Int} (h : Hea w x wh lv n at_) (hu : u = nev ∨ 0 ≤ u) : Calls Tryz.prog 65 #[.pointer (some ⟨x, 0, none⟩), .int .i64 0, .int .i64 u] w fun e w' => e = .returned (.bool true) ∧ ∃ lv', Hea w' x wh lv' n (tmT u) ∧ Grew lv lv' w ∧ Foot (heF x wh lv) w w' := by
  unfold tmT
  by_cases hn : u = nev
  · rw [if_pos hn, hn]
    cases at_ with
    | none => exact (heSetNN h).mono fun e w' ⟨h1, h2⟩ => ⟨h1, lv, h.later h2, fun g hg => .inl hg, Foot.later h2⟩
    | some t => exact (heSetSN h).mono fun e w' ⟨h1, lv', h2, h3, h4⟩ => ⟨h1, lv', h2, fun g hg => .inl (h3 ▸ hg), h4⟩
  · rw [if_neg hn]
    have h0 : 0 ≤ u := hu.resolve_left hn
    cases at_ with
    | none => exact (heSetN h h0 hn).mono fun e w' ⟨h1, lv', h2, h3, h4⟩ => ⟨h1, lv', h2, h3, h4⟩
    | some t => exact (heSetS h h0 hn).mono fun e w' ⟨h1, h2, h3⟩ => ⟨h1, lv, h2, fun g hg => .inl hg, h3⟩
theorem tuWakeB {w : World} {t : TB} {n : Nat} {q p : Int} {waits turn : Bool} {k : Nat} (h : Tur w t n q waits turn p k) (ht : t.ok) : Calls Tryz.prog 80 #[.pointer (some ⟨t.x, 0, none⟩), .int .i64 0] w fun e w' => (∃ b, e = .returned (.bool b)) ∧ Tur w' t n q (waits || !turn) turn p k ∧ Foot t.in_ w w' := by
  cases waits with
  | true => exact (tuWakeNo h (.inl rfl)).mono fun e w' ⟨h1, h2⟩ => ⟨⟨_, h1⟩, h2 ▸ h, h2 ▸ Foot.refl _ _⟩
  | false =>
    cases turn with
    | true => exact (tuWakeNo h (.inr rfl)).mono fun e w' ⟨h1, h2⟩ => ⟨⟨_, h1⟩, h2 ▸ h, h2 ▸ Foot.refl _ _⟩
    | false => exact (tuWake h ht).mono fun e w' ⟨h1, h2, h3⟩ => ⟨⟨_, h1⟩, h2, h3⟩
/-- A block of the engine's. -/
def isE (n : Nat) : Prop := 1 ≤ n ∧ n ≤ 27
section
variable {w w' : World} {lab lab' : Nat → Nat} {eb : EB} {c : ScT} {E : ET} {o : List Nat} {F : Nat → Prop}
theorem off1 {o : List Nat} {m : Nat} : ∀ k, k ∉ o → k ≠ m → k ∉ [m] ++ o := fun k h1 h2 h4 => by
  rcases List.mem_append.1 h4 with h4 | h4
  · simp at h4; exact h2 h4
  · exact h1 h4
theorem EngX.turned (h : EngX o w lab eb c E) (f : Foot eb.tb.in_ w w') {W T : Bool} {P : Int} {K : Nat} (ht : Tur w' eb.tb c.l c.q W T P K) : EngX o w' lab eb c { E with waits := W, turn := T, p := P, k := K } := by
  have h' := h.foot f [4] (fun i hi => by rw [(h.lb.tb i hi).1, cls_low (by omega)]; simp) (by simp)
  have L := h'.lb
  exact ⟨fun k => h'.blk (off1 _ k (by decide)), fun k => h'.slo (off1 _ k (by decide)), h'.sok, fun k => h'.sea (off1 _ k (by decide)), fun _ => ht, h'.tok, fun k => h'.hea (off1 _ k (by decide)), fun k => h'.map (off1 _ k (by decide)), h'.row, h'.scr, fun k => h'.out (off1 _ k (by decide)), fun k => h'.sat (off1 _ k (by decide)), fun k => h'.wir (off1 _ k (by decide)), fun k => h'.dia (off1 _ k (by decide)), ⟨L.x, L.sl, L.sa, L.tb, L.he, L.mm, L.sg, L.sb, L.ov, L.se, L.wx, L.wl, L.dx⟩, h'.ok⟩
theorem EngX.timed (h : EngX o w lab eb c E) (f : Foot (heF eb.hx eb.hw eb.hl) w w') {lv : Value} {T : Option Int} (ht : Hea w' eb.hx eb.hw lv c.l T) (g : Grew eb.hl lv w) : EngX o w' (labNew lab w 5) { eb with hl := lv } c { E with tm := T } := by
  have h0 := h.relab (labNew_eq lab w 5)
  have h' := h0.foot f [5] (fun i hi => by rw [(h0.lb.he i hi).1, cls_low (by omega)]; simp) (by simp)
  have L := h'.lb
  refine ⟨fun k => h'.blk (off1 _ k (by decide)), fun k => h'.slo (off1 _ k (by decide)), h'.sok, fun k => h'.sea (off1 _ k (by decide)), fun k => h'.tur (off1 _ k (by decide)), h'.tok, fun _ => ht, fun k => h'.map (off1 _ k (by decide)), h'.row, h'.scr, fun k => h'.out (off1 _ k (by decide)), fun k => h'.sat (off1 _ k (by decide)), fun k => h'.wir (off1 _ k (by decide)), fun k => h'.dia (off1 _ k (by decide)), ⟨L.x, L.sl, L.sa, L.tb, fun i hi => ?_, L.mm, L.sg, L.sb, L.ov, L.se, L.wx, L.wl, L.dx⟩, h'.ok⟩
  have hlt := ht.lt i hi
  refine ⟨?_, hlt⟩
  rcases hi with hi | hi | hi
  · exact (L.he i (.inl hi)).1
  · exact (L.he i (.inr (.inl hi))).1
  · rcases g i hi with hg | hg
    · exact (L.he i (.inr (.inr hg))).1
    · exact labNew_new hg
end
end Go.Proofs.YtbhgmccaecmpjaaGreat

namespace Go.Proofs.YtbhgmccaecmpjaaGreat
set_option linter.unusedVariables false
set_option linter.unusedSimpArgs false
open Go.RowKit

def settleT (c : ScT) (E : ET) (t : DT) : ET := { E with tm := tmT (nextT t), waits := if readyT c t E.clock = true then E.waits || !E.turn else E.waits }
set_option maxRecDepth 100000 in
set_option maxHeartbeats 8000000 in
theorem enSettle {w : World} {lab : Nat → Nat} {eb : EB} {c : ScT} {E : ET} (h : EngR w lab eb c E) {t : DT} (hd : E.d = some t) (h2 : t.at_ ≤ 2) (hn : t.now ≤ E.clock) (ho : overN t.li t.cu E.clock = 0) (hu : nextT t = nev ∨ 0 ≤ nextT t) :
    Calls Tryz.prog 50 #[.pointer (some ⟨eb.x, 0, none⟩), .int .i64 0] w fun e w' => ∃ lab' lv, e = .returned (.tuple #[]) ∧ LabEq lab lab' w ∧ EngR w' lab' { eb with hl := lv } c (settleT c E t) ∧ Foot (fun i => isE (lab i)) w w' := by
  have hs : E.d.isSome = true := by rw [hd]; rfl
  have HH := Lib.hid h
  have HD := Lib.hid hd
  have d1 := h.at_ (by simp)
  have d9 := h.atS (by simp) (by simp) hs
  have hr := Below.refl w.heap.size w
  have hl0 : 0 < c.l := h.ok.l.1
  have hl1 : (0 : Int) < (c.l : Int) := by omega
  have FN : Hid (∀ w', Below w.heap.size w w' → Calls Tryz.prog 66 #[.pointer (some ⟨eb.db.x, 0, none⟩)] w' fun e w'' => e = .returned (.int .i64 (nextT t)) ∧ Below w'.heap.size w' w'') := Lib.hid fun w' hb => diNext (((h.later hb).dia (by simp)) t hd)
  have FS : Hid (∀ w', Below w.heap.size w w' → Calls Tryz.prog 65 #[.pointer (some ⟨eb.hx, 0, none⟩), .int .i64 0, .int .i64 (nextT t)] w' fun e w'' => e = .returned (.bool true) ∧ ∃ lv', Hea w'' eb.hx eb.hw lv' c.l (tmT (nextT t)) ∧ Grew eb.hl lv' w' ∧ Foot (heF eb.hx eb.hw eb.hl) w' w'') := Lib.hid fun w' hb => heSet ((h.later hb).hea (by simp)) hu
  have HC := Lib.hid (And.intro h2 (And.intro hn ho))
  clear h hd h2 hn ho hu
  go_enter Tryz.func50, Tryz.ntmps50
  go_upto_region 1 with fail
  refine wp_region_ordL (S := fun w' => Below w.heap.size w w') [0, 1, 2, 3, 4, 5, 6, 7, 8, 9, 10] 10 (by kernel_rfl) (by kernel_rfl) (by kernel_rfl) (by kernel_rfl) (by kernel_rfl) (by kernel_rfl) (by (repeat' (first | exact Below.refl _ _ | assumption | exact And.left (by assumption) | apply bel_alloc | apply Below.drew))) ?_
  simp only [pickL, List.filterMap_cons, List.filterMap_nil, List.getElem?_cons_zero, List.getElem?_cons_succ]
  repeat (refine ordL_take (v := ?_) (by rfl) (by rfl) ?_ ?_; rotate_left; (focus (intro w hSw; (try dsimp only at hSw); go_simp; (try with_reducible rfl))); simp only [Act.put, List.setIfInBounds_toArray, List.set_cons_zero, List.set_cons_succ])
  refine ordL_lone (by rfl) (by rfl) (fun KK hK => ?_)
  try go_simp
  refine (FN.out _ (by (repeat' (first | exact Below.refl _ _ | assumption | exact And.left (by assumption) | apply bel_alloc | apply Below.drew)))).mono ?_; rintro r w1 ⟨rfl, b1⟩
  have b1' : Below w.heap.size w w1 := (Below.refl w.heap.size w).drew.up b1
  refine hK.out _ _ (.inr (b1')) ?_
  clear hK KK
  try simp only [Act.put, List.setIfInBounds_toArray, List.set_cons_zero, List.set_cons_succ]
  repeat (refine ordL_take (v := ?_) (by rfl) (by rfl) ?_ ?_; rotate_left; (focus (intro w hSw; (try dsimp only at hSw); go_simp; (try with_reducible rfl))); simp only [Act.put, List.setIfInBounds_toArray, List.set_cons_zero, List.set_cons_succ])
  refine ordL_lone (by rfl) (by rfl) (fun KK hK => ?_)
  try go_simp
  refine (FS.out _ b1').mono ?_; rintro r w2 ⟨rfl, lv, hh, hg, hf⟩
  refine hK.out _ _ (.inl (by trivial)) ?_
  clear hK KK
  try simp only [Act.put, List.setIfInBounds_toArray, List.set_cons_zero, List.set_cons_succ]
  refine ordL_done ?_
  have T1 := (HH.out.later b1').timed hf hh hg
  have e1 : LabEq lab (labNew lab w1 5) w := fun i hi => labNew_old (Nat.lt_of_lt_of_le hi b1'.size)
  have f1 : Foot (fun i => isE (lab i)) w w2 := (Foot.later b1').trans (hf.mono (fun i hi => by rw [(HH.out.lb.he i hi).1]; unfold isE; omega))
  clear d1 d9 hr
  have d1 := T1.at_ (by simp)
  have d9 := T1.atS (by simp) (by simp) hs
  have hr := Below.refl w2.heap.size w2
  dsimp only at d1 d9
  have FR : Hid (∀ w', Below w2.heap.size w2 w' → Calls Tryz.prog 60 #[.pointer (some ⟨eb.db.x, 0, none⟩), .int .i64 E.clock] w' fun e w'' => e = .returned (.bool (readyT c t E.clock)) ∧ Below w'.heap.size w' w'') := Lib.hid fun w' hb => diReady ((T1.later hb).dia (by simp) t HD.out) HC.out.1 E.clock HC.out.2.1 HC.out.2.2
  have TT := Lib.hid T1
  have F1 := Lib.hid f1
  have E1 := Lib.hid e1
  clear T1 f1 e1 hh hg hf b1 b1' FN FS
  go_upto_region 2 with fail
  refine wp_region_ordL (S := fun w' => Below w2.heap.size w2 w') [0, 1, 2, 3, 4, 5, 6, 7, 8] 8 (by kernel_rfl) (by kernel_rfl) (by kernel_rfl) (by kernel_rfl) (by kernel_rfl) (by kernel_rfl) (by (repeat' (first | exact Below.refl _ _ | assumption | exact And.left (by assumption) | apply bel_alloc | apply Below.drew))) ?_
  simp only [pickL, List.filterMap_cons, List.filterMap_nil, List.getElem?_cons_zero, List.getElem?_cons_succ]
  repeat (refine ordL_take (v := ?_) (by rfl) (by rfl) ?_ ?_; rotate_left; (focus (intro w hSw; (try dsimp only at hSw); go_simp; (try with_reducible rfl))); simp only [Act.put, List.setIfInBounds_toArray, List.set_cons_zero, List.set_cons_succ])
  refine ordL_lone (by rfl) (by rfl) (fun KK hK => ?_)
  try go_simp
  refine (FR.out _ (by (repeat' (first | exact Below.refl _ _ | assumption | exact And.left (by assumption) | apply bel_alloc | apply Below.drew)))).mono ?_; rintro r w3 ⟨rfl, b3⟩
  refine hK.out _ _ (.inl (by trivial)) ?_
  clear hK KK
  try simp only [Act.put, List.setIfInBounds_toArray, List.set_cons_zero, List.set_cons_succ]
  refine ordL_done ?_
  have b3' : Below w2.heap.size w2 w3 := (Below.refl w2.heap.size w2).drew.up b3
  have T3 := TT.out.later b3'
  have F3 := Lib.hid (F1.out.up b3')
  clear d1 d9 hr TT F1
  cases hq : readyT c t E.clock
  · go_wp2_with fail
    go_end0
    refine ⟨_, lv, rfl, E1.out, ?_, F3.out⟩
    unfold settleT
    rw [if_neg (by rw [hq]; decide)]
    exact T3
  · have d1 := T3.at_ (by simp)
    dsimp only at d1
    have hr := Below.refl w3.heap.size w3
    have FW : Hid (∀ w', Below w3.heap.size w3 w' → Calls Tryz.prog 80 #[.pointer (some ⟨eb.tb.x, 0, none⟩), .int .i64 0] w' fun e w'' => (∃ b, e = .returned (.bool b)) ∧ Tur w'' eb.tb c.l c.q (E.waits || !E.turn) E.turn E.p E.k ∧ Foot eb.tb.in_ w' w'') := Lib.hid fun w' hb => tuWakeB ((T3.later hb).tur (by simp)) T3.tok
    have TT := Lib.hid T3
    clear T3 FR
    go_wp2_with fail
    refine (FW.out _ (by (repeat' (first | exact Below.refl _ _ | assumption | exact And.left (by assumption) | apply bel_alloc | apply Below.drew)))).mono ?_; rintro r w4 ⟨⟨bb, rfl⟩, t4, f4⟩
    go_wp2_with fail
    go_end0
    refine ⟨_, lv, rfl, E1.out, ?_, ?_⟩
    · unfold settleT
      rw [if_pos hq]
      exact TT.out.turned f4 t4
    · exact F3.out.then f4 fun i hi hf => by
        have h1 := HH.out.lb.tb i hf
        show isE (lab i)
        rw [h1.1]; unfold isE; omega
end Go.Proofs.YtbhgmccaecmpjaaGreat
