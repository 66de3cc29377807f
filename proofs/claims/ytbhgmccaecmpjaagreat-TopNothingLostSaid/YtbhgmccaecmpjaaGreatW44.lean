/-
  engine.New, of one script of two ops.
  Conditions: the setup may be; the script's blocks are known.
-/
import Derived.Test.YtbhgmccaecmpjaaGreatW43
namespace Go.Proofs.YtbhgmccaecmpjaaGreat
set_option linter.unusedVariables false
set_option linter.unusedSimpArgs false
open Go.RowKit

theorem mk_call {P : Program} {o : Oper} {a : Act} {u : World} {R : Value → World → Prop} {f : FuncId} {args : Array Value} (hx : (execOp a.eval o).run P u = .ok (.enter f args) u) (h : Calls P f args u fun e w' => ∃ v, e = .returned v ∧ R v w') : yieldsV P R ((execOp a.eval o).run P u) := by
  rw [hx]; exact h
def maP : MkP := fun v lo hi w => v = .map (some lo) ∧ MapI w lo (mapD false 0) ∧ lo < hi
theorem mk_map {o : Oper} {a : Act} {u : World} (hx : (execOp a.eval o).run Tryz.prog u = .ok (.value (.map (some u.heap.size))) (u.alloc (.map #[] 0))) : yieldsV Tryz.prog (fun v u' => Below u.heap.size u u' ∧ maP v u.heap.size u'.heap.size u') ((execOp a.eval o).run Tryz.prog u) := by
  rw [hx]
  exact ⟨Below.alloc (Below.refl _ _) (Nat.le_refl _) _, rfl, ⟨0, by decide, World.ownsMap_made _ _ _ _⟩, by simp⟩
theorem info_seatP : (Tryz.prog.info? 130).map (fun i => (i.zero, i.size, i.bytes)) = some (some (.pointer none), 1, 8) := by kernel_rfl
theorem info_Prog : (Tryz.prog.info? 32).map (fun i => (i.zero, i.size, i.bytes)) = some (some (.agg #[.string ⟨#[]⟩, .int .i64 0, .int .i64 0, .slice none 0 0]), 4, 56) := by kernel_rfl
def slP (n : Nat) : MkP := fun v lo hi w => ∃ s : SB, v = .pointer (some ⟨s.x, 0, none⟩) ∧ Slo w s n false 0 ∧ s.ok ∧ ∀ i, s.in_ i → lo ≤ i ∧ i < hi
def tuP (n : Nat) (q : Nat) : MkP := fun v lo hi w => ∃ t : TB, v = .pointer (some ⟨t.x, 0, none⟩) ∧ Tur w t n q false false 0 0 ∧ t.ok ∧ ∀ i, t.in_ i → lo ≤ i ∧ i < hi
def heP (n : Nat) : MkP := fun v lo hi w => ∃ x wh, v = .pointer (some ⟨x, 0, none⟩) ∧ Hea w x wh (.slice none 0 0) n none ∧ ∀ i, heF x wh (.slice none 0 0) i → lo ≤ i ∧ i < hi
theorem slP_stays (n : Nat) : (slP n).stays := fun _ _ _ _ _ b _ ⟨s, h1, h2, h3, h4⟩ => ⟨s, h1, h2.later b, h3, h4⟩
theorem tuP_stays (n q : Nat) : (tuP n q).stays := fun _ _ _ _ _ b _ ⟨t, h1, h2, h3, h4⟩ => ⟨t, h1, h2.later b, h3, h4⟩
theorem heP_stays (n : Nat) : (heP n).stays := fun _ _ _ _ _ b _ ⟨x, wh, h1, h2, h3⟩ => ⟨x, wh, h1, h2.later b, h3⟩
theorem maP_stays : maP.stays := fun _ _ _ _ _ b _ h => ⟨h.1, h.2.1.later b, h.2.2⟩
/-- The parts of a new engine, and their names. -/
structure NewP (w : World) (lab : Nat → Nat) (c : ScT) (sl : SB) (sa : Nat) (tb : TB) (hx hw mm N : Nat) : Prop where
  slo : Slo w sl c.l false 0
  sok : sl.ok
  sea : Arr w sa 130 c.l (.pointer none)
  tur : Tur w tb c.l c.q false false 0 0
  tok : tb.ok
  hea : Hea w hx hw (.slice none 0 0) c.l none
  map : MapI w mm (mapD false 0)
  old : ∀ i, i < N → lab i = 0
  l2 : ∀ i, sl.in_ i → lab i = 2
  l3 : lab sa = 3
  l4 : ∀ i, tb.in_ i → lab i = 4
  l5 : ∀ i, heF hx hw (.slice none 0 0) i → lab i = 5
  l6 : lab mm = 6
theorem NewP.later {w w' : World} {lab : Nat → Nat} {c : ScT} {sl : SB} {sa : Nat} {tb : TB} {hx hw mm N : Nat} (h : NewP w lab c sl sa tb hx hw mm N) (b : Below w.heap.size w w') : NewP w' lab c sl sa tb hx hw mm N :=
  ⟨h.slo.later b, h.sok, h.sea.later b, h.tur.later b, h.tok, h.hea.later b, h.map.later b, h.old, h.l2, h.l3, h.l4, h.l5, h.l6⟩
theorem NewP.relab {w : World} {lab lab' : Nat → Nat} {c : ScT} {sl : SB} {sa : Nat} {tb : TB} {hx hw mm N : Nat} (h : NewP w lab c sl sa tb hx hw mm N) (e : LabEq lab lab' w) (hN : N ≤ w.heap.size) : NewP w lab' c sl sa tb hx hw mm N :=
  ⟨h.slo, h.sok, h.sea, h.tur, h.tok, h.hea, h.map, fun i hi => (e i (by omega)).trans (h.old i hi), fun i hi => (e i (h.slo.lt i hi)).trans (h.l2 i hi), (e _ h.sea.lt).trans h.l3, fun i hi => (e i (h.tur.lt i hi)).trans (h.l4 i hi), fun i hi => (e i (h.hea.lt i hi)).trans (h.l5 i hi), (e _ h.map.lt).trans h.l6⟩
theorem NewP.foot {w w' : World} {lab : Nat → Nat} {c : ScT} {sl : SB} {sa : Nat} {tb : TB} {hx hw mm N : Nat} {F : Nat → Prop} (h : NewP w lab c sl sa tb hx hw mm N) (f : Foot F w w') (hF : ∀ i, F i → lab i = 1 ∨ lab i = 0) : NewP w' lab c sl sa tb hx hw mm N :=
  ⟨h.slo.foot f (fun i hi hf => by have := h.l2 i hi; have := hF i hf; omega), h.sok, h.sea.foot f (fun hf => by have := h.l3; have := hF _ hf; omega), h.tur.foot f (fun i hi hf => by have := h.l4 i hi; have := hF i hf; omega), h.tok, h.hea.foot f (fun i hi hf => by have := h.l5 i hi; have := hF i hf; omega), h.map.foot f (fun hf => by have := h.l6; have := hF _ hf; omega), h.old, h.l2, h.l3, h.l4, h.l5, h.l6⟩
set_option maxRecDepth 100000 in
set_option maxHeartbeats 8000000 in
theorem enNew {w : World} {c : ScT} (hok : c.ok) (nm : ByteArray) (g0 c0 : Nat) (sb : SB2) (hnm : nm = c.nm) (hg : ∀ w', Below w.heap.size w w' → w'.cell? ⟨g0, 0, none⟩ = some (.string nm) ∧ w'.cell? ⟨g0, 1, none⟩ = some (.int .i64 c.dl) ∧ w'.cell? ⟨g0, 2, none⟩ = some (.int .i64 c.jm) ∧ w'.cell? ⟨g0, 3, none⟩ = some (.slice (some ⟨sb.g, 0, none⟩) 2 sb.c)) (hs : Scr w sb c.o0 c.o1) :
    Calls Tryz.prog 15 #[.agg #[.int .i64 c.l, .int .i64 c.r, .int .i64 c.n, .int .i64 c.o, .int .i64 c.q, .int .i64 c.v], .slice (some ⟨g0, 0, none⟩) 1 c0] w fun e w' => ∃ lab eb, e = .returned (.tuple #[.pointer (some ⟨eb.x, 0, none⟩), .int .i64 0]) ∧ (∀ i, i < w.heap.size → lab i = 0) ∧ EngR w' lab eb c ⟨0, 0, 0, none, [], 0, 0, false, false, 0, 0, none, none, []⟩ ∧ Below w.heap.size w w' := by
  have hgd : goodB c.l c.r c.n c.o c.q c.v = true := goodB_iff.2 (by obtain ⟨h1, h2, h3, h4, h5, h6, h7⟩ := hok; omega)
  have FG : Hid (∀ w, Calls Tryz.prog 20 #[.agg #[.int .i64 c.l, .int .i64 c.r, .int .i64 c.n, .int .i64 c.o, .int .i64 c.q, .int .i64 c.v]] w fun e w' => e = .returned (.bool true) ∧ Below w.heap.size w w') := Lib.hid fun w => hgd ▸ cGood c.l c.r c.n c.o c.q c.v w
  obtain ⟨q, hq⟩ : ∃ q, w.heap.size = q := ⟨_, rfl⟩
  obtain ⟨w1, hw1⟩ : ∃ w1, w1 = w.alloc (.cells #[.int .i64 c.l, .int .i64 c.r, .int .i64 c.n, .int .i64 c.o, .int .i64 c.q, .int .i64 c.v] 23) := ⟨_, rfl⟩
  have b1 : Below w.heap.size w w1 := by rw [hw1]; exact Below.alloc (Below.refl _ _) (Nat.le_refl _) _
  have K1 : Blk w1 q 23 #[.int .i64 c.l, .int .i64 c.r, .int .i64 c.n, .int .i64 c.o, .int .i64 c.q, .int .i64 c.v] := by rw [hw1, ← hq]; exact Blk.new _ _ _
  have HW1 := Lib.hid hw1
  have HQ := Lib.hid hq
  have B1 := Lib.hid b1
  have HG := Lib.hid hg
  have HS := Lib.hid hs
  have HOK := Lib.hid hok
  have HN := Lib.hid hnm
  have hl := hok.l
  have hqq := hok.q
  clear hw1 hq b1 hg hs hok hgd hnm
  go_enter Tryz.func15, Tryz.ntmps15
  go_upto_region 1 with fail
  rw [← HW1.out, HQ.out]
  have d1 := K1.at6
  have hr := Below.refl w1.heap.size w1
  go_wp2_with fail
  refine (FG.out _).mono ?_; rintro r w2 ⟨rfl, b2⟩
  have b2' : Below w1.heap.size w1 w2 := by first | exact b2 | exact (Below.refl _ _).drew.up b2
  have K2 := K1.later b2'
  have BW2 := Lib.hid (B1.out.up b2')
  clear d1 hr b2 b2' K1 B1 FG HW1
  have d1 := K2.at6
  have hr := Below.refl w2.heap.size w2
  go_upto_region 5 with fail
  have FS : Hid (∀ w, Calls Tryz.prog 21 #[.int .i64 c.l] w fun e w' => ∃ v, e = .returned v ∧ Below w.heap.size w w' ∧ slP c.l v w.heap.size w'.heap.size w') := Lib.hid fun w => (slNew w c.l hl).mono fun e w' ⟨s, h1, h2, h3, h4, h5⟩ => ⟨_, h1, h5, s, rfl, h2, h3, fun i hi => ⟨h4 i hi, h2.lt i hi⟩⟩
  have FT : Hid (∀ w, Calls Tryz.prog 22 #[.int .i64 c.l, .int .i64 c.q] w fun e w' => ∃ v, e = .returned v ∧ Below w.heap.size w w' ∧ tuP c.l c.q v w.heap.size w'.heap.size w') := Lib.hid fun w => (tuNew w c.l c.q hl hqq).mono fun e w' ⟨s, h1, h2, h3, h4, h5⟩ => ⟨_, h1, h5, s, rfl, h2, h3, fun i hi => ⟨h4 i hi, h2.lt i hi⟩⟩
  have FH : Hid (∀ w, Calls Tryz.prog 23 #[.int .i64 c.l] w fun e w' => ∃ v, e = .returned v ∧ Below w.heap.size w w' ∧ heP c.l v w.heap.size w'.heap.size w') := Lib.hid fun w => (heNew w c.l hl).mono fun e w' ⟨x, wh, h1, h2, h3, h4⟩ => ⟨_, h1, h4, x, wh, rfl, h2, fun i hi => ⟨h3 i hi, h2.lt i hi⟩⟩
  refine wp_region_mk w2.heap.size 16 [3, 6, 11, 14, 15] [(3, slP c.l), (6, arrP 130 (.pointer none) c.l), (11, tuP c.l c.q), (14, heP c.l), (15, maP)] (Nat.le_refl _) (by kernel_rfl) (by kernel_rfl) (by kernel_rfl) rfl (by
    intro p hp
    simp only [List.mem_cons, List.not_mem_nil, or_false] at hp
    rcases hp with rfl | rfl | rfl | rfl | rfl
    · exact slP_stays _
    · exact arrP_stays _ _ _
    · exact tuP_stays _ _
    · exact heP_stays _
    · exact maP_stays) ?_
  simp only [List.take_succ_cons, List.take_zero, List.drop_succ_cons, List.drop_zero]
  have hu : ∀ u : Later w2.heap.size w2, Below w2.heap.size w2 u.world := Later.below
  repeat (refine wpMk_calm (by rfl) (fun K hK => ?_); go_simp; first | (refine hK _ ?_; clear hK K) | (apply Exists.intro; refine ⟨fun _ => ?_, hK _ ?_⟩; (fail); clear hK K))
  refine wpMk_make (by rfl) (by rfl) (fun u => mk_call (by go_simp) (FS.out _)) ?_
  repeat (refine wpMk_calm (by rfl) (fun K hK => ?_); go_simp; first | (refine hK _ ?_; clear hK K) | (apply Exists.intro; refine ⟨fun _ => ?_, hK _ ?_⟩; (fail); clear hK K))
  refine wpMk_make (by rfl) (by rfl) (fun u => mk_arr (n := c.l) _ _ _ (by rfl) _ _ _ info_seatP rfl Tryz.underlying81 (by rfl) (by rfl) (by omega) (by omega) (by decide)) ?_
  repeat (refine wpMk_calm (by rfl) (fun K hK => ?_); go_simp; first | (refine hK _ ?_; clear hK K) | (apply Exists.intro; refine ⟨fun _ => ?_, hK _ ?_⟩; (fail); clear hK K))
  refine wpMk_make (by rfl) (by rfl) (fun u => mk_call (by go_simp) (FT.out _)) ?_
  repeat (refine wpMk_calm (by rfl) (fun K hK => ?_); go_simp; first | (refine hK _ ?_; clear hK K) | (apply Exists.intro; refine ⟨fun _ => ?_, hK _ ?_⟩; (fail); clear hK K))
  refine wpMk_make (by rfl) (by rfl) (fun u => mk_call (by go_simp) (FH.out _)) ?_
  repeat (refine wpMk_calm (by rfl) (fun K hK => ?_); go_simp; first | (refine hK _ ?_; clear hK K) | (apply Exists.intro; refine ⟨fun _ => ?_, hK _ ?_⟩; (fail); clear hK K))
  refine wpMk_make (by rfl) (by rfl) (fun u => mk_map (by rfl)) ?_
  refine wpMk_nil ?_
  intro w3 b3
  repeat (refine mkThen_skip (by rfl) ?_)
  refine mkThen_take (by rfl) ?_
  rintro _ l1 h1 B1 L1 C1 - ⟨sl, rfl, S3, so, sr⟩
  repeat (refine mkThen_skip (by rfl) ?_)
  refine mkThen_take (by rfl) ?_
  rintro _ sa h2 B2 L2 C2 D2 ⟨rfl, A3, La⟩
  repeat (refine mkThen_skip (by rfl) ?_)
  refine mkThen_take (by rfl) ?_
  rintro _ l3 h3 B3 L3 C3 D3 ⟨tb, rfl, T3, tok, tr⟩
  repeat (refine mkThen_skip (by rfl) ?_)
  refine mkThen_take (by rfl) ?_
  rintro _ l4 h4 B4 L4 C4 D4 ⟨hx, hw, rfl, H3, hr4⟩
  refine mkThen_take (by rfl) ?_
  rintro _ mm h5 B5 L5 C5 D5 ⟨rfl, M3, Lm⟩
  refine mkThen_end ?_
  have e1 := D2 (l1, h1) (by simp)
  have e2 := D3 (l1, h1) (by simp)
  have e3 := D3 (sa, h2) (by simp)
  have e4 := D4 (l1, h1) (by simp)
  have e5 := D4 (sa, h2) (by simp)
  have e6 := D4 (l3, h3) (by simp)
  have e7 := D5 (l1, h1) (by simp)
  have e8 := D5 (sa, h2) (by simp)
  have e9 := D5 (l3, h3) (by simp)
  have e10 := D5 (l4, h4) (by simp)
  simp only at e1 e2 e3 e4 e5 e6 e7 e8 e9 e10
  clear D2 D3 D4 D5 hu FS FT FH
  obtain ⟨labP, hlabP⟩ : ∃ labP : Nat → Nat, labP = fun i => if i < w2.heap.size then 0 else if l1 ≤ i ∧ i < h1 then 2 else if sa ≤ i ∧ i < h2 then 3 else if l3 ≤ i ∧ i < h3 then 4 else if l4 ≤ i ∧ i < h4 then 5 else if mm ≤ i ∧ i < h5 then 6 else 0 := ⟨_, rfl⟩
  have hP : NewP w3 labP c sl sa tb hx hw mm w2.heap.size := by
    refine ⟨S3, so, A3, T3, tok, H3, M3, fun i hi => ?_, fun i hi => ?_, ?_, fun i hi => ?_, fun i hi => ?_, ?_⟩
    · rw [hlabP]; exact if_pos hi
    · have := sr i hi
      rw [hlabP]; simp only; rw [if_neg (by omega), if_pos (by omega)]
    · rw [hlabP]; simp only; rw [if_neg (by omega), if_neg (by omega), if_pos (by omega)]
    · have := tr i hi
      rw [hlabP]; simp only; rw [if_neg (by omega), if_neg (by omega), if_neg (by omega), if_pos (by omega)]
    · have := hr4 i hi
      rw [hlabP]; simp only; rw [if_neg (by omega), if_neg (by omega), if_neg (by omega), if_neg (by omega), if_pos (by omega)]
    · rw [hlabP]; simp only; rw [if_neg (by omega), if_neg (by omega), if_neg (by omega), if_neg (by omega), if_neg (by omega), if_pos (by omega)]
  have HP := Lib.hid hP
  clear hP hlabP e1 e2 e3 e4 e5 e6 e7 e8 e9 e10 S3 so sr A3 La T3 tok tr H3 hr4 M3 Lm C1 C2 C3 C4 C5 L1 L2 L3 L4 L5 B1 B2 B3 B4 B5 d1 hr
  have hr := Below.refl w3.heap.size w3
  obtain ⟨x, hx3⟩ : ∃ x, w3.heap.size = x := ⟨_, rfl⟩
  obtain ⟨w4, hw4⟩ : ∃ w4, w4 = w3.alloc (.cells #[.int .i64 c.l, .int .i64 c.r, .int .i64 c.n, .int .i64 c.o, .int .i64 c.q, .int .i64 c.v, .slice none 0 0, .pointer (some ⟨sl.x, 0, none⟩), .slice (some ⟨sa, 0, none⟩) c.l c.l, .pointer (some ⟨tb.x, 0, none⟩), .pointer (some ⟨hx, 0, none⟩), .map (some mm), .int .i64 0, .int .i64 0, .bool false, .bool false, .slice none 0 0] 87) := ⟨_, rfl⟩
  have K4 : Blk w4 x 87 #[.int .i64 c.l, .int .i64 c.r, .int .i64 c.n, .int .i64 c.o, .int .i64 c.q, .int .i64 c.v, .slice none 0 0, .pointer (some ⟨sl.x, 0, none⟩), .slice (some ⟨sa, 0, none⟩) c.l c.l, .pointer (some ⟨tb.x, 0, none⟩), .pointer (some ⟨hx, 0, none⟩), .map (some mm), .int .i64 0, .int .i64 0, .bool false, .bool false, .slice none 0 0] := by rw [hw4, ← hx3]; exact Blk.new _ _ _
  have b34 : Below w3.heap.size w3 w4 := by rw [hw4]; exact Below.alloc (Below.refl _ _) (Nat.le_refl _) _
  have hN2 : w2.heap.size ≤ w3.heap.size := b3.size
  have HN2 := Lib.hid hN2
  have P4 := Lib.hid (((HP.out.relab (labNew_eq labP w3 1) hN2).later b34))
  have X4 : Hid ((labNew labP w3 1) x = 1 ∧ w2.heap.size ≤ x ∧ ∀ i, w3.heap.size ≤ i → (labNew labP w3 1) i = 1) := Lib.hid ⟨labNew_new (by omega), by omega, fun i hi => labNew_new hi⟩
  have B4 := Lib.hid ((BW2.out.up b3).up b34)
  have HW4 := Lib.hid hw4
  have HX3 := Lib.hid hx3
  clear hw4 hx3 b34 hN2 HP b3 K2
  go_wp2_with fail
  rw [← HW4.out, HX3.out]
  clear hr
  have dg : ∀ w', Below w4.heap.size w4 w' → w'.cell? ⟨g0, 0, none⟩ = some (.string nm) ∧ w'.cell? ⟨g0, 1, none⟩ = some (.int .i64 c.dl) ∧ w'.cell? ⟨g0, 2, none⟩ = some (.int .i64 c.jm) ∧ w'.cell? ⟨g0, 3, none⟩ = some (.slice (some ⟨sb.g, 0, none⟩) 2 sb.c) := fun w' hb => HG.out w' (B4.out.up hb)
  have hr := Below.refl w4.heap.size w4
  refine wp_loop_rounds 2 ?_
  rw [rounds_succ]
  go_upto_region 9 with fail
  obtain ⟨qp, hqp⟩ : ∃ qp, w4.heap.size = qp := ⟨_, rfl⟩
  obtain ⟨w5, hw5⟩ : ∃ w5, w5 = w4.alloc (.cells #[.string nm, .int .i64 c.dl, .int .i64 c.jm, .slice (some ⟨sb.g, 0, none⟩) 2 sb.c] 32) := ⟨_, rfl⟩
  have b45 : Below w4.heap.size w4 w5 := by rw [hw5]; exact Below.alloc (Below.refl _ _) (Nat.le_refl _) _
  have K5 := K4.later b45
  have R5 : Blk w5 qp 32 #[.string nm, .int .i64 c.dl, .int .i64 c.jm, .slice (some ⟨sb.g, 0, none⟩) 2 sb.c] := by rw [hw5, ← hqp]; exact Blk.new _ _ _
  rw [← hw5, hqp]
  have P5 := Lib.hid (P4.out.later b45)
  have S5 := Lib.hid (HS.out.later (B4.out.up b45))
  have B5 := Lib.hid (B4.out.up b45)
  have X5 : Hid (x < w5.heap.size) := Lib.hid K5.lt
  have HK5 := Lib.hid K5
  clear hw5 hqp b45 K4 P4 dg hr
  have d5 : ∀ w', Below w5.heap.size w5 w' → w'.cell? ⟨x, 6, none⟩ = some (.slice none 0 0) ∧ w'.frozen? ⟨x, 6, none⟩ = false := fun w' hb => ⟨(K5.later hb).cell 6, (K5.later hb).frozen 6⟩
  have e5 := R5.at4
  have hr := Below.refl w5.heap.size w5
  clear K5
  have FC : Hid (∀ w', Below w5.heap.size w5 w' → Calls Tryz.prog 24 #[.agg #[.string nm, .int .i64 c.dl, .int .i64 c.jm, .slice (some ⟨sb.g, 0, none⟩) 2 sb.c]] w' fun e w'' => ∃ b', e = .returned (.agg #[.string nm, .int .i64 c.dl, .int .i64 c.jm, .slice (some ⟨b'.g, 0, none⟩) 2 b'.c]) ∧ Scr w'' b' c.o0 c.o1 ∧ (∀ i, b'.in_ c.o0 c.o1 i → w'.heap.size ≤ i) ∧ Below w'.heap.size w' w'') := Lib.hid fun w' hb => pgCopy nm c.dl c.jm sb c.o0 c.o1 w' (S5.out.later hb)
  go_upto_region 9 with fail
  refine wp_region_ordL (S := fun w' => Below w5.heap.size w5 w') [0, 1, 2, 3, 4, 5, 6, 7, 8, 9, 10, 11] 11 (by kernel_rfl) (by kernel_rfl) (by kernel_rfl) (by kernel_rfl) (by kernel_rfl) (by kernel_rfl) (hr.drew) ?_
  simp only [pickL, List.filterMap_cons, List.filterMap_nil, List.getElem?_cons_zero, List.getElem?_cons_succ]
  repeat (refine ordL_take (v := ?_) (by rfl) (by rfl) ?_ ?_; rotate_left; (focus (intro w hSw; (try dsimp only at hSw); go_simp; (try with_reducible rfl))); simp only [Act.put, List.setIfInBounds_toArray, List.set_cons_zero, List.set_cons_succ])
  refine ordL_lone (by rfl) (by rfl) (fun KK hK => ?_)
  try go_simp
  refine (FC.out _ hr.drew).mono ?_; rintro r w6 ⟨b', rfl, hs6, hb6, b6⟩
  have b56 : Below w5.heap.size w5 w6 := hr.drew.up b6
  refine hK.out _ _ (.inr (b56)) ?_
  clear hK KK
  try simp only [Act.put, List.setIfInBounds_toArray, List.set_cons_zero, List.set_cons_succ]
  repeat (refine ordL_take (v := ?_) (by rfl) (by rfl) ?_ ?_; rotate_left; (focus (intro w hSw; (try dsimp only at hSw); go_simp; (try with_reducible rfl))); simp only [Act.put, List.setIfInBounds_toArray, List.set_cons_zero, List.set_cons_succ])
  refine ordL_lone (by rfl) (by rfl) (fun KK hK => ?_)
  try go_simp
  have b67 : Below w6.heap.size w6 (w6.alloc (.cells #[.string nm, .int .i64 c.dl, .int .i64 c.jm, .slice (some ⟨b'.g, 0, none⟩) 2 b'.c] 32)) := Below.alloc (Below.refl _ _) (Nat.le_refl _) _
  refine hK.out (_) (w6.alloc (.cells #[.string nm, .int .i64 c.dl, .int .i64 c.jm, .slice (some ⟨b'.g, 0, none⟩) 2 b'.c] 32)) (.inr (b56.up b67)) ?_
  clear hK KK
  try simp only [Act.put, List.setIfInBounds_toArray, List.set_cons_zero, List.set_cons_succ]
  refine ordL_lone (by rfl) (by rfl) (fun KK hK => ?_)
  refine wp_append1 (B := w5.heap.size) info_Prog rfl (by decide) (by decide) Tryz.underlying47 (.tmp 45) (.tmp 48) rfl (.slice none 0 0) 0 [] rfl (orow_nil _ _ _ _) w6.heap.size rfl [.string nm, .int .i64 c.dl, .int .i64 c.jm, .slice (some ⟨b'.g, 0, none⟩) 2 b'.c] rfl ?a1 ?a2 (Nat.zero_le _) ?a4 ?a3
  case a1 => intro j u hj; exact ((Blk.new w6 32 #[.string nm, .int .i64 c.dl, .int .i64 c.jm, .slice (some ⟨b'.g, 0, none⟩) 2 b'.c]).cell j).trans (by simpa using hj)
  case a2 =>
    intro u hu
    simp only [List.mem_cons, List.not_mem_nil, or_false] at hu
    rcases hu with rfl | rfl | rfl | rfl <;> rfl
  case a4 => exact (b56.up b67).size
  case a3 =>
  intro ao cap w8 o8 g8 gr8
  have b78 : Below (w6.alloc (.cells #[.string nm, .int .i64 c.dl, .int .i64 c.jm, .slice (some ⟨b'.g, 0, none⟩) 2 b'.c] 32)).heap.size (w6.alloc (.cells #[.string nm, .int .i64 c.dl, .int .i64 c.jm, .slice (some ⟨b'.g, 0, none⟩) 2 b'.c] 32)) w8 := ⟨g8.os, g8.tape, g8.output, g8.size, fun k hk => g8.block k hk (fun e => by cases e)⟩
  have b58 : Below w5.heap.size w5 w8 := (b56.up b67).up b78
  have b68 : Below w6.heap.size w6 w8 := b67.up b78
  refine hK.out _ _ (.inr b58) ?_
  clear hK KK
  try simp only [Act.put, List.setIfInBounds_toArray, List.set_cons_zero, List.set_cons_succ]
  repeat (refine ordL_take (v := ?_) (by rfl) (by rfl) ?_ ?_; rotate_left; (focus (intro w hSw; (try dsimp only at hSw); go_simp; (try with_reducible rfl))); simp only [Act.put, List.setIfInBounds_toArray, List.set_cons_zero, List.set_cons_succ])
  refine ordL_lone (by rfl) (by rfl) (fun KK hK => ?_)
  try go_simp
  refine hK.out _ _ (.inl (by trivial)) ?_
  clear hK KK
  try simp only [Act.put, List.setIfInBounds_toArray, List.set_cons_zero, List.set_cons_succ]
  refine ordL_done ?_
  obtain ⟨g, hao, hgl, hgc⟩ := orow_cell o8 0 (by simp)
  subst hao
  obtain ⟨w9, hw9⟩ : ∃ w9, w9 = w8.setCell ⟨x, 6, none⟩ (.slice (some ⟨g, 0, none⟩) 1 cap) := ⟨_, rfl⟩
  have hgB : w5.heap.size ≤ g := (World.ownsRow.lt o8 g rfl).1
  have f9 : Foot (fun i => i = x) w8 w9 := by rw [hw9]; exact foot_set (fun i => i = x) (Foot.refl _ w8) x 6 rfl _
  have K9 := (HK5.out.later b58).set_ 6 (.slice (some ⟨g, 0, none⟩) 1 cap)
  rw [← hw9] at K9
  have hlt := X5.out
  have P9 := ((P5.out.relab (labNew_eq (labNew labP w3 1) w5 7) (by have := HN2.out; have := P5.out.sea.lt; have := X4.out.2.1; omega)).later b58).foot f9 (fun i hi => by rw [hi, labNew_old hlt]; exact .inl X4.out.1)
  have S9 := (hs6.later b68).foot f9 (fun i hi e => by have h1 := hb6 i hi; have h2 : w5.drew.heap.size = w5.heap.size := rfl; omega)
  have row9 : ∀ (i : Nat) v, ([.string c.nm, .int .i64 c.dl, .int .i64 c.jm, .slice (some ⟨b'.g, 0, none⟩) 2 b'.c] : List Value)[i]? = some v → w9.cell? ⟨g, i, none⟩ = some v := fun i v hv => by
    have hi : i < 4 := by
      have := (List.getElem?_eq_some_iff.1 hv).1
      simpa using this
    obtain ⟨g2, hg2, _, hgc2⟩ := orow_cell o8 i (by simpa using hi)
    cases hg2
    have h1 := hgc2 w8 (Below.refl _ _)
    rw [cell_same (f9.block g hgl (fun e => by omega)), h1, HN.out]
    simpa using hv
  have B9 : Below w.heap.size w w9 := by
    rw [hw9]
    exact Below.setCell (B5.out.up b58) (p := ⟨x, 6, none⟩) (by show w.heap.size ≤ x; have := X4.out.2.1; have := BW2.out.size; omega) _
  have LL : ∀ i, w5.heap.size ≤ i → labNew (labNew labP w3 1) w5 7 i = 7 := fun i hi => labNew_new hi
  have s9 : w8.heap.size ≤ w9.heap.size := f9.size
  have R9 : ∃ lab eb, eb.x = x ∧ (∀ i, i < w.heap.size → lab i = 0) ∧ EngR w9 lab eb c ⟨0, 0, 0, none, [], 0, 0, false, false, 0, 0, none, none, []⟩ := by
    refine ⟨labNew (labNew labP w3 1) w5 7, ⟨x, sl, sa, tb, hx, hw, .slice none 0 0, mm, g, cap, b', .slice none 0 0, 0, 0, .slice none 0 0, ⟨0, 0, 0, 0, 0, .slice none 0 0, ⟨0, 0, 0, 0⟩, 0, b'⟩⟩, rfl, fun i hi => P9.old i (by have := BW2.out.size; omega), ?_⟩
    refine ⟨fun _ => K9, fun _ => P9.slo, P9.sok, fun _ => P9.sea, fun _ => P9.tur, P9.tok, fun _ => P9.hea, fun _ => P9.map, row9, S9, fun _ => orow_nil _ _ _ _, fun _ e => (by cases e), fun _ e => (by cases e), fun _ t e => (by cases e), ⟨⟨?_, K9.lt⟩, fun i hi => ⟨P9.l2 i hi, P9.slo.lt i hi⟩, ⟨P9.l3, P9.sea.lt⟩, fun i hi => ⟨P9.l4 i hi, P9.tur.lt i hi⟩, fun i hi => ⟨P9.l5 i hi, P9.hea.lt i hi⟩, ⟨P9.l6, P9.map.lt⟩, ⟨LL g hgB, Nat.lt_of_lt_of_le hgl s9⟩, fun i hi => ⟨LL i (by have h1 := hb6 i hi; exact h1), S9.in_lt i hi⟩, fun g hg => (by cases hg), fun e => (by cases e), fun e => (by cases e), fun e => (by cases e), fun e => (by cases e)⟩, HOK.out⟩
    rw [labNew_old hlt]; exact X4.out.1
  have HR9 := Lib.hid R9
  have HB9 := Lib.hid B9
  rw [← hw9]
  clear R9 B9 LL s9 row9 S9 P9 K9 f9 hgB hw9 hgc o8 g8 gr8 b78 b58 b68 hs6 hb6 b6 b56 b67 hr d5 e5 hlt
  try refine ordL_done ?_
  go_wp2_with fail
  have hr := Below.refl w9.heap.size w9
  rw [rounds_succ]
  go_wp2_with fail
  go_ret2
  obtain ⟨lab, eb, hx9, h1, h2⟩ := HR9.out
  subst hx9
  exact ⟨lab, eb, rfl, h1, h2, HB9.out⟩
end Go.Proofs.YtbhgmccaecmpjaaGreat
