/-
  A map's entry, put in a region that draws; what of the engine's record turns with it.
  Conditions: the blocks are known.
-/
import Derived.Test.YtbhgmccaecmpjaaGreatW36
namespace Go.Proofs.YtbhgmccaecmpjaaGreat
set_option linter.unusedVariables false
set_option linter.unusedSimpArgs false
open Go.RowKit

theorem wp_mapPut {o : Oper} {a : Act} {w : World} {K : Act → World → Prop} {Q : Exit → Act → World → Prop} {m : Nat} {on : Bool} {u v : Int} (hw : (Lit.int IntKind.i64 v).wf = true) (M X V : Operand) (hop : o.op = Op.mapUpdate 57 M X V) (h : MapI w m (mapD on u)) (hm : a.eval M = .map (some m)) (hx : a.eval X = .int .i64 0) (hv : a.eval V = .int .i64 v)
    (hK : ∀ w', MapI w' m (mapD true v) → Foot (fun i => i = m) w w' → K (a.put o.dst undef) w') : Oper.wp Tryz.prog o a w K Q := by
  obtain ⟨n, hn, hown⟩ := h
  obtain ⟨w', hrun, r1, r2⟩ := hown.store int_key Tryz.underlying57 (by unfold maxLen; omega) (key := .int .i64 0) (kl := .int .i64 0) key0 (val := .int .i64 v) (d := .lit (.int .i64 v)) (ps := []) (plainElem_int Tryz.underlying3 hw)
  unfold Oper.wp
  simp [execOp, hop, hm, hx, hv, hrun, Result.andThen]
  rw [mapD_put] at r1
  exact hK _ (MapI.of r1 (mapD_le _ _)) (foot_map r2)
section
variable {w w' : World} {lab lab' : Nat → Nat} {eb : EB} {c : ScT} {E : ET} {o : List Nat} {F : Nat → Prop}
theorem EngX.stated (h : EngX o w lab eb c E) (f : Foot (fun i => i = eb.mm) w w') {v : Int} (hm : MapI w' eb.mm (mapD true v)) : EngX o w' lab eb c { E with st := some v } := by
  have h' := h.foot f [6] (fun i hi => by rw [hi, h.lb.mm.1, cls_low (by omega)]; simp) (by simp)
  have L := h'.lb
  exact ⟨fun k => h'.blk (off1 _ k (by decide)), fun k => h'.slo (off1 _ k (by decide)), h'.sok, fun k => h'.sea (off1 _ k (by decide)), fun k => h'.tur (off1 _ k (by decide)), h'.tok, fun k => h'.hea (off1 _ k (by decide)), fun _ => hm, h'.row, h'.scr, fun k => h'.out (off1 _ k (by decide)), fun k => h'.sat (off1 _ k (by decide)), fun k => h'.wir (off1 _ k (by decide)), fun k => h'.dia (off1 _ k (by decide)), ⟨L.x, L.sl, L.sa, L.tb, L.he, L.mm, L.sg, L.sb, L.ov, L.se, L.wx, L.wl, L.dx⟩, h'.ok⟩
end
/-- Who is live has gone. -/
theorem EngX.gone {w : World} {lab : Nat → Nat} {eb : EB} {c : ScT} {E : ET} (h : EngX [3, 2, 10, 20] w lab eb c E) (hs : Slo w eb.sl c.l false E.nx) (ha : Arr w eb.sa 130 c.l (.pointer none)) : EngX [] w lab eb c { E with d := none } := by
  have L := h.lb
  exact ⟨fun _ => h.blk (by simp), fun _ => hs, h.sok, fun _ => ha, fun _ => h.tur (by simp), h.tok, fun _ => h.hea (by simp), fun _ => h.map (by simp), h.row, h.scr, fun _ => h.out (by simp), fun _ e => (by cases e), fun _ e => (by cases e), fun _ t e => (by cases e), ⟨L.x, L.sl, L.sa, L.tb, L.he, L.mm, L.sg, L.sb, L.ov, fun e => (by cases e), fun e => (by cases e), fun e => (by cases e), fun e => (by cases e)⟩, h.ok⟩
theorem heCutB {w : World} {x wh n : Nat} {lv : Value} {at_ : Option Int} (h : Hea w x wh lv n at_) : Calls Tryz.prog 107 #[.pointer (some ⟨x, 0, none⟩), .int .i64 0] w fun e w' => (∃ b, e = .returned (.bool b)) ∧ ∃ lv', Hea w' x wh lv' n none ∧ Grew lv lv' w ∧ Foot (heF x wh lv) w w' := by
  cases at_ with
  | none => exact (heCutNo h).mono fun e w' ⟨h1, h2⟩ => ⟨⟨_, h1⟩, lv, h2 ▸ h, fun g hg => .inl hg, h2 ▸ Foot.refl _ _⟩
  | some t => exact (heCut h).mono fun e w' ⟨h1, lv', h2, h3, h4⟩ => ⟨⟨_, h1⟩, lv', h2, fun g hg => .inl (h3 ▸ hg), h4⟩
def SOut.isRun : SOut → Bool
  | .run _ => true
  | .fin _ => false
def SOut.dia : SOut → Option DT
  | .run t => some t
  | .fin _ => none
/-- What is told of a step. -/
def stepEv (E : ET) (t : DT) (r : SRes) : EvT := ⟨8, 0, 0, 0, ⟨#[]⟩, 0, E.clock, (t.at_ : Nat), r.what, r.arm, r.n, r.out.st⟩
def stepE (E : ET) (t : DT) (r : SRes) : ET := match r.out with
  | .run t1 => { E with d := some t1, out := E.out ++ [stepEv E t r], st := some 0 }
  | .fin st => { E with d := none, out := E.out ++ [stepEv E t r], st := some st, waits := false, turn := false, p := 0, tm := none }
/-- Where a step has led, ahead of what is told of it. -/
structure StE (w wx : World) (lab : Nat → Nat) (b : DB) (c : ScT) (r : SRes) (now at_ : Int) (q : Nat) : Prop where
  e : DEnd w lab wx b c r.out
  f : Foot (fun i => isD (lab i)) w wx
  k : Blk wx q 67 #[.int .i64 now, .int .i64 at_, .int .i64 r.what, .int .i64 r.arm, .int .i64 r.n, .int .i64 r.out.st]
  q : w.heap.size ≤ q
theorem StE.of {w wS w5 w4 : World} {lab : Nat → Nat} {b : DB} {c : ScT} {r : SRes} {now at_ : Int} {q6 : Nat} (hz : ∀ i, w.heap.size ≤ i → lab i = 0) (hb : Below w.heap.size w wS) (hE : DEnd wS lab w5 b c r.out) (ff : Foot (fun i => isD (lab i)) wS w5) (fF : Foot (fun i => i = q6) w5 w4)
    (KF : Blk w4 q6 67 #[.int .i64 now, .int .i64 at_, .int .i64 r.what, .int .i64 r.arm, .int .i64 r.n, .int .i64 r.out.st]) (hq : w.heap.size ≤ q6) (hx : b.x < w.heap.size) (h6 : q6 < wS.heap.size ∨ w5.heap.size ≤ q6) : StE w w4 lab b c r now at_ q6 := by
  have hd : ¬ isD (lab q6) := by rw [hz q6 hq]; exact isD_zero
  refine ⟨(hE.foot ff.size fF (fun i hi => ?_) (by show ¬ b.x = q6; omega)).base (LabEq.refl _ _) hb.size, ((Foot.later hb).trans ff).then fF (fun i hi e => by omega), KF, hq⟩
  rcases h6 with h | h
  · exact .inl (by rw [hi]; exact ⟨h, hd⟩)
  · exact .inr (by rw [hi]; exact h)
set_option maxRecDepth 100000 in
set_option maxHeartbeats 8000000 in
theorem enStepA {w : World} {lab : Nat → Nat} {eb : EB} {c : ScT} {E : ET} (h : EngR w lab eb c E) (hlab : ∀ i, w.heap.size ≤ i → lab i = 0) {t : DT} (hd : E.d = some t) (hc : c.fit) (hn : t.now ≤ E.clock) (hf : DT.fit c { t with now := E.clock }) (hm : Calm { t with now := E.clock }) (hr : readyT c t E.clock = true) (hl : E.out.length ≤ 1000000) {r : SRes} (hrr : dstepT c { t with now := E.clock } = r) (hfin : ∀ st, r.out = .fin st → st ≠ 0 ∧ (Lit.int IntKind.i64 st).wf = true) (htu : E.waits = false ∧ E.turn = true) :
    Calls Tryz.prog 63 #[.pointer (some ⟨eb.x, 0, none⟩), .int .i64 0] w fun e w' => ∃ lab' eb', e = .returned (.bool (r.out.isRun)) ∧ LabEq lab lab' w ∧ EngR w' lab' eb' c (stepE E t r) ∧ (eb'.x = eb.x ∧ eb'.se = eb.se ∧ eb'.tb = eb.tb) ∧ Foot (fun i => isE (lab i)) w w' := by
  have hs : E.d.isSome = true := by rw [hd]; rfl
  have HH := Lib.hid h
  have d1 := h.at_ (by simp)
  have d9 := h.atS (by simp) (by simp) hs
  have hl0 : 0 < c.l := h.ok.l.1
  have hl1 : (0 : Int) < (c.l : Int) := by omega
  have FD : Hid (∀ wS, Below w.heap.size w wS → Calls Tryz.prog 102 #[.pointer (some ⟨eb.db.x, 0, none⟩), .int .i64 E.clock] wS fun e w' => e = .returned (.tuple #[.agg #[.int .i64 E.clock, .int .i64 (t.at_ : Nat), .int .i64 r.what, .int .i64 r.arm, .int .i64 r.n, .int .i64 r.out.st], .bool true]) ∧ Foot (fun i => isD (lab i)) wS w' ∧ DEnd wS lab w' eb.db c r.out) := Lib.hid fun wS hb => by
    have := diStep ((h.later hb).dia (by simp) t hd) hc E.clock hn hf hm hr
    rw [hrr] at this
    exact this
  have HC := Lib.hid (And.intro hd (And.intro hs (And.intro hlab hl)))
  have HFI := Lib.hid (And.intro hfin htu)
  have hrw := Below.refl w.heap.size w
  clear h hd hc hn hf hm hr hl hrr hs hlab hfin htu
  go_enter Tryz.func63, Tryz.ntmps63
  go_upto_region 2 with fail
  go_cut [6, 7] (fun v v7 wx => ∃ q6 : Nat, v = .pointer (some ⟨q6, 0, none⟩) ∧ v7 = .bool true ∧ Hid (StE w wx lab eb.db c r E.clock (t.at_ : Nat) q6))
  case first =>
    have D3 : Below w.heap.size w w.drew := (Below.refl _ _).drew
    refine wp_region_Z (n := 7) (S := fun w' => Below w.heap.size w w') [(8, [0, 1, 2, 3, 4, 5, 6, 7]), (13, [0, 1, 2, 3, 4, 5, 6, 7, 8, 9, 10, 12])] [0, 1, 2, 3, 4, 5, 6, 7] (by kernel_rfl) (by kernel_rfl) (by kernel_rfl) (by kernel_rfl) (by kernel_rfl) (by kernel_rfl) D3 ?_
    simp only [pickL, List.filterMap_cons, List.filterMap_nil, List.getElem?_cons_zero, List.getElem?_cons_succ]
    repeat (refine take_one (v := ?_) (by rfl) ?_ ?_; rotate_left; (focus (intro w hSw; (try dsimp only at hSw); go_simp; (try with_reducible rfl))); simp only [Act.put, List.setIfInBounds_toArray, List.set_cons_zero, List.set_cons_succ])
    refine take_end ?_
    refine wpAnyZ_two (i := 8) (j := 12) (by kernel_rfl) (by rfl) (by rfl) (by rfl) (by rfl) (fun KK hK => ?_) (fun KK hK => ?_)
    · simp only [List.getElem_toArray, List.getElem_cons_succ, List.getElem_cons_zero]
      try go_simp
      refine (FD.out _ D3).mono ?_; rintro e w5 ⟨rfl, f5, e5⟩
      try go_wp2_with fail
      refine hK.out _ w5 (.inl (by kernel_rfl)) ?_
      clear hK KK
      try simp only [Act.put, List.setIfInBounds_toArray, List.set_cons_zero, List.set_cons_succ]
      refine wpAnyZ_pures (n := 3) [9, 10, 11] (by kernel_rfl) (by rfl) (by kernel_rfl) (by kernel_rfl) ?_
      simp only [pickL, List.filterMap_cons, List.filterMap_nil, List.getElem?_cons_zero, List.getElem?_cons_succ]
      repeat (refine take_one (v := ?_) (by rfl) ?_ ?_; rotate_left; (focus (intro w hSw; (try dsimp only at hSw); go_simp; (try with_reducible rfl))); simp only [Act.put, List.setIfInBounds_toArray, List.set_cons_zero, List.set_cons_succ])
      refine take_end ?_
      refine wpAnyZ_one (i := 12) (by kernel_rfl) (by rfl) (by rfl) (fun KK hK => ?_)
      simp only [List.getElem_toArray, List.getElem_cons_succ, List.getElem_cons_zero]
      try go_simp
      have b6 : Below w5.heap.size w5 (w5.alloc (.cells #[.int .i64 0, .int .i64 0, .int .i64 0, .int .i64 0, .int .i64 0, .int .i64 0] 67)) := Below.alloc (Below.refl _ _) (Nat.le_refl _) _
      have K6 : Blk (w5.alloc (.cells #[.int .i64 0, .int .i64 0, .int .i64 0, .int .i64 0, .int .i64 0, .int .i64 0] 67)) w5.heap.size 67 #[.int .i64 0, .int .i64 0, .int .i64 0, .int .i64 0, .int .i64 0, .int .i64 0] := Blk.new _ _ _
      refine hK.out _ (w5.alloc (.cells #[.int .i64 0, .int .i64 0, .int .i64 0, .int .i64 0, .int .i64 0, .int .i64 0] 67)) (.inr (fun h => h.alloc h.size _)) ?_
      clear hK KK
      try simp only [Act.put, List.setIfInBounds_toArray, List.set_cons_zero, List.set_cons_succ]
      obtain ⟨q6, hq6⟩ : ∃ q6, w5.heap.size = q6 := ⟨_, rfl⟩
      obtain ⟨w6, hw6⟩ : ∃ w6, w6 = w5.alloc (.cells #[.int .i64 0, .int .i64 0, .int .i64 0, .int .i64 0, .int .i64 0, .int .i64 0] 67) := ⟨_, rfl⟩
      rw [← hw6, hq6] at K6
      rw [← hw6] at b6
      rw [← hw6]
      rw [hq6]
      have HQ6 := Lib.hid hq6
      clear hw6 hq6
      refine wpAnyZ_one (i := 13) (by kernel_rfl) (by rfl) (by rfl) (fun KK hK => ?_)
      simp only [List.getElem_toArray, List.getElem_cons_succ, List.getElem_cons_zero]
      have d6 := K6.at6
      have hr6 := Below.refl w6.heap.size w6
      try go_simp
      have f6 := foot_set6 (F := fun i => i = q6) (Foot.later b6) rfl (.int .i64 E.clock) (.int .i64 (t.at_ : Nat)) (.int .i64 r.what) (.int .i64 r.arm) (.int .i64 r.n) (.int .i64 r.out.st)
      have K7 := blk_set6 K6 (.int .i64 E.clock) (.int .i64 (t.at_ : Nat)) (.int .i64 r.what) (.int .i64 r.arm) (.int .i64 r.n) (.int .i64 r.out.st)
      refine hK.out _ _ (.inl (by kernel_rfl)) ?_
      clear hK KK
      try simp only [Act.put, List.setIfInBounds_toArray, List.set_cons_zero, List.set_cons_succ]
      refine wpAnyZ_one (i := 14) (by kernel_rfl) (by rfl) (by rfl) (fun KK hK => ?_)
      simp only [List.getElem_toArray, List.getElem_cons_succ, List.getElem_cons_zero]
      try go_simp
      refine hK.out _ _ (.inr (fun h => h)) ?_
      clear hK KK
      refine anyZ_done (by kernel_rfl) ?_
      try simp only [Act.put, List.setIfInBounds_toArray, List.set_cons_zero, List.set_cons_succ]
      go_wp2_with fail
      go_meet
      have s5 := f5.size
      have hq6' : w5.heap.size ≤ q6 := by have := HQ6.out; omega
      have s1 : w.drew.heap.size = w.heap.size := rfl
      exact ⟨q6, rfl, rfl, Lib.hid (StE.of HC.out.2.2.1 D3 e5 f5 f6 K7 (by omega) (HH.out.lb.dx HC.out.2.1).2 (.inr hq6'))⟩
    · simp only [List.getElem_toArray, List.getElem_cons_succ, List.getElem_cons_zero]
      try go_simp
      have bS : Below w.heap.size w (w.alloc (.cells #[.int .i64 0, .int .i64 0, .int .i64 0, .int .i64 0, .int .i64 0, .int .i64 0] 67)).drew := (Below.alloc (Below.refl _ _) (Nat.le_refl _) _).drew
      have K6 : Blk (w.alloc (.cells #[.int .i64 0, .int .i64 0, .int .i64 0, .int .i64 0, .int .i64 0, .int .i64 0] 67)).drew w.heap.size 67 #[.int .i64 0, .int .i64 0, .int .i64 0, .int .i64 0, .int .i64 0, .int .i64 0] := (Blk.new _ _ _).drew
      refine hK.out _ (w.alloc (.cells #[.int .i64 0, .int .i64 0, .int .i64 0, .int .i64 0, .int .i64 0, .int .i64 0] 67)).drew (.inr (fun h => bS)) ?_
      clear hK KK
      try simp only [Act.put, List.setIfInBounds_toArray, List.set_cons_zero, List.set_cons_succ]
      obtain ⟨q6, hq6⟩ : ∃ q6, w.heap.size = q6 := ⟨_, rfl⟩
      obtain ⟨wS, hwS⟩ : ∃ wS, wS = (w.alloc (.cells #[.int .i64 0, .int .i64 0, .int .i64 0, .int .i64 0, .int .i64 0, .int .i64 0] 67)).drew := ⟨_, rfl⟩
      rw [← hwS, hq6] at K6
      rw [← hwS] at bS
      rw [← hwS]
      try rw [hq6]
      have HQ6 := Lib.hid hq6
      clear hwS hq6
      refine wpAnyZ_one (i := 8) (by kernel_rfl) (by rfl) (by rfl) (fun KK hK => ?_)
      simp only [List.getElem_toArray, List.getElem_cons_succ, List.getElem_cons_zero]
      try go_simp
      refine (FD.out _ bS).mono ?_; rintro e w5 ⟨rfl, f5, e5⟩
      try go_wp2_with fail
      refine hK.out _ w5 (.inl (by kernel_rfl)) ?_
      clear hK KK
      try simp only [Act.put, List.setIfInBounds_toArray, List.set_cons_zero, List.set_cons_succ]
      have K65 := K6.foot f5 (by rw [HC.out.2.2.1 q6 (by have := HQ6.out; omega)]; exact isD_zero)
      refine wpAnyZ_pures (n := 2) [9, 10, 11] (by kernel_rfl) (by rfl) (by kernel_rfl) (by kernel_rfl) ?_
      simp only [pickL, List.filterMap_cons, List.filterMap_nil, List.getElem?_cons_zero, List.getElem?_cons_succ]
      repeat (refine take_one (v := ?_) (by rfl) ?_ ?_; rotate_left; (focus (intro w hSw; (try dsimp only at hSw); go_simp; (try with_reducible rfl))); simp only [Act.put, List.setIfInBounds_toArray, List.set_cons_zero, List.set_cons_succ])
      refine take_end ?_
      refine wpAnyZ_one (i := 13) (by kernel_rfl) (by rfl) (by rfl) (fun KK hK => ?_)
      simp only [List.getElem_toArray, List.getElem_cons_succ, List.getElem_cons_zero]
      have d6 := K65.at6
      have hr6 := Below.refl w5.heap.size w5
      try go_simp
      have f6 := foot_set6 (F := fun i => i = q6) (Foot.refl _ w5) rfl (.int .i64 E.clock) (.int .i64 (t.at_ : Nat)) (.int .i64 r.what) (.int .i64 r.arm) (.int .i64 r.n) (.int .i64 r.out.st)
      have K7 := blk_set6 K65 (.int .i64 E.clock) (.int .i64 (t.at_ : Nat)) (.int .i64 r.what) (.int .i64 r.arm) (.int .i64 r.n) (.int .i64 r.out.st)
      refine hK.out _ _ (.inl (by kernel_rfl)) ?_
      clear hK KK
      try simp only [Act.put, List.setIfInBounds_toArray, List.set_cons_zero, List.set_cons_succ]
      refine wpAnyZ_one (i := 14) (by kernel_rfl) (by rfl) (by rfl) (fun KK hK => ?_)
      simp only [List.getElem_toArray, List.getElem_cons_succ, List.getElem_cons_zero]
      try go_simp
      refine hK.out _ _ (.inr (fun h => h)) ?_
      clear hK KK
      refine anyZ_done (by kernel_rfl) ?_
      try simp only [Act.put, List.setIfInBounds_toArray, List.set_cons_zero, List.set_cons_succ]
      go_wp2_with fail
      go_meet
      have hq6' : w.heap.size ≤ q6 := by have := HQ6.out; omega
      exact ⟨q6, rfl, rfl, Lib.hid (StE.of HC.out.2.2.1 bS e5 f5 f6 K7 hq6' (HH.out.lb.dx HC.out.2.1).2 (.inl K6.lt))⟩
  case rest =>
  obtain ⟨q6, rfl, rfl, HJ⟩ := hcut
  clear FD d1 d9 hrw
  cases hro : r.out with
  | run t1 =>
    obtain ⟨lab1, b1, e1, hd1, hx1⟩ : ∃ lab' b', LabEq lab lab' w ∧ DiaR wc lab' b' c t1 ∧ b'.x = eb.db.x := by have := HJ.out.e; rw [hro] at this; exact this
    have T1 := HH.out.dialed HC.out.2.1 HJ.out.f e1 hd1 hx1
    obtain ⟨eb1, hxa, hse, htb, hdb, hmm, T1⟩ : ∃ eb1 : EB, eb1.x = eb.x ∧ eb1.se = eb.se ∧ eb1.tb = eb.tb ∧ eb1.db.x = eb.db.x ∧ eb1.mm = eb.mm ∧ EngR wc lab1 eb1 c { E with d := some t1 } := ⟨{ eb with db := b1 }, rfl, rfl, rfl, hx1, rfl, T1⟩
    have HTB := Lib.hid htb
    have K6 := HJ.out.k
    rw [hro] at K6
    have F1 : Hid (Foot (fun i => isE (lab i)) w wc) := Lib.hid (HJ.out.f.mono (fun i hi => by unfold isD at hi; unfold isE; omega))
    have E1 := Lib.hid e1
    have d6 := K6.at6
    have d1 := T1.at_ (by simp)
    have d9 := T1.atS (by simp) (by simp) rfl
    rw [hxa] at d1
    rw [hse, hdb] at d9
    have hrw := Below.refl wc.heap.size wc
    have FL : Hid (∀ w', Below wc.heap.size wc w' → Calls Tryz.prog 26 #[.pointer (some ⟨eb.x, 0, none⟩), .agg #[.int .i64 8, .int .i64 0, .int .i64 0, .int .i64 0, .string ⟨#[]⟩, .int .i64 0, .int .i64 E.clock, .int .i64 (t.at_ : Nat), .int .i64 r.what, .int .i64 r.arm, .int .i64 r.n, .int .i64 0]] w' fun e w'' => e = .returned (.tuple #[]) ∧ ∃ lab3 eb2, LabEq lab1 lab3 w' ∧ EngR w'' lab3 eb2 c { E with d := some t1, out := E.out ++ [⟨8, 0, 0, 0, ⟨#[]⟩, 0, E.clock, (t.at_ : Nat), r.what, r.arm, r.n, 0⟩] } ∧ (eb2.x = eb.x ∧ eb2.se = eb1.se ∧ eb2.db.x = eb1.db.x ∧ eb2.mm = eb1.mm ∧ eb2.tb = eb1.tb) ∧ Foot (fun i => lab1 i = 1 ∨ lab1 i = 8) w' w'') := Lib.hid fun w' hb => by
      have := enTell (T1.later hb) (by simp) (by simp) HC.out.2.2.2 8 0 0 0 ⟨#[]⟩ 0 E.clock (t.at_ : Nat) r.what r.arm r.n 0
      rw [hxa] at this
      exact this.mono fun e w'' ⟨lab3, ov, h1, h2, h3, h4⟩ => ⟨h1, lab3, _, h2, h3, ⟨rfl, rfl, rfl, rfl, rfl⟩, h4⟩
    have HX := Lib.hid (And.intro hxa (And.intro hse (And.intro hdb hmm)))
    clear T1 K6 hd1 hx1 e1 hxa hse hdb hmm htb HJ
    go_upto_region 4 with fail
    refine wp_region_ordL (S := fun w' => Below wc.heap.size wc w') [0, 1, 2, 3, 4, 5, 6, 7] 7 (by kernel_rfl) (by kernel_rfl) (by kernel_rfl) (by kernel_rfl) (by kernel_rfl) (by kernel_rfl) (by (repeat' (first | exact Below.refl _ _ | assumption | exact And.left (by assumption) | apply bel_alloc | apply Below.drew))) ?_
    simp only [pickL, List.filterMap_cons, List.filterMap_nil, List.getElem?_cons_zero, List.getElem?_cons_succ]
    repeat (refine ordL_take (v := ?_) (by rfl) (by rfl) ?_ ?_; rotate_left; (focus (intro w hSw; (try dsimp only at hSw); go_simp; (try with_reducible rfl))); simp only [Act.put, List.setIfInBounds_toArray, List.set_cons_zero, List.set_cons_succ])
    refine ordL_lone (by rfl) (by rfl) (fun KK hK => ?_)
    try go_simp
    refine (FL.out _ (by (repeat' (first | exact Below.refl _ _ | assumption | exact And.left (by assumption) | apply bel_alloc | apply Below.drew)))).mono ?_; rintro rr w2 ⟨rfl, lab2, eb2, e2, h2, ⟨hx2, hse2, hdb2, hmm2, htb2⟩, f2⟩
    refine hK.out _ _ (.inl (by trivial)) ?_
    clear hK KK
    try simp only [Act.put, List.setIfInBounds_toArray, List.set_cons_zero, List.set_cons_succ]
    refine ordL_done ?_
    have HTB2 := Lib.hid (htb2.trans HTB.out)
    clear htb2
    have hse2 := hse2.trans HX.out.2.1
    have hdb2 := hdb2.trans HX.out.2.2.1
    have hmm2 := hmm2.trans HX.out.2.2.2
    have F2 : Hid (Foot (fun i => isE (lab i)) w w2) := Lib.hid ((F1.out.up (Below.refl _ _).drew).then f2 (fun i hi hdd => by
      show isE (lab i)
      rw [E1.out i hi] at hdd
      unfold isE; omega))
    have E2 : Hid (LabEq lab lab2 w) := Lib.hid fun i hi => (e2 i (Nat.lt_of_lt_of_le hi F1.out.size)).trans (E1.out i hi)
    have H2 := Lib.hid h2
    clear d1 d9 d6 hrw FL e2 f2
    have d1 := h2.at_ (by simp)
    have d9 := h2.atS (by simp) (by simp) rfl
    rw [hx2, hmm2] at d1
    rw [hse2, hdb2] at d9
    have hrw := Below.refl w2.heap.size w2
    have FT : Hid (∀ w', Below w2.heap.size w2 w' → Calls Tryz.prog 103 #[.pointer (some ⟨eb.db.x, 0, none⟩)] w' fun e w'' => e = .returned (.int .i64 0) ∧ w' = w'') := Lib.hid fun w' hb => by
      have := diStatus ((h2.later hb).dia (by simp) t1 rfl).blk
      rw [hdb2] at this
      exact this
    have HX2 := Lib.hid (And.intro hx2 hmm2)
    have HSE := Lib.hid (And.intro hse2 hdb2)
    clear h2 hx2 hmm2 hse2 hdb2
    go_upto_region 5 with fail
    refine wp_region_ordA (S := fun w' => Below w2.heap.size w2 w') [0, 1, 2, 3, 4, 5, 6, 7, 8, 9, 10, 11, 12, 13] 13 (by kernel_rfl) (by kernel_rfl) (by kernel_rfl) (by kernel_rfl) (by kernel_rfl) (by kernel_rfl) (by (repeat' (first | exact Below.refl _ _ | assumption | exact And.left (by assumption) | apply bel_alloc | apply Below.drew))) ?_
    simp only [pickL, List.filterMap_cons, List.filterMap_nil, List.getElem?_cons_zero, List.getElem?_cons_succ]
    repeat (refine ordA_take (v := ?_) (by rfl) (by rfl) ?_ ?_; rotate_left; (focus (intro w hSw; (try dsimp only at hSw); go_simp; (try with_reducible rfl))); simp only [Act.put, List.setIfInBounds_toArray, List.set_cons_zero, List.set_cons_succ])
    refine ordA_lone (by rfl) (by rfl) (fun KK hK => ?_)
    try go_simp
    refine (FT.out _ (by (repeat' (first | exact Below.refl _ _ | assumption | exact And.left (by assumption) | apply bel_alloc | apply Below.drew)))).mono ?_; rintro rr w3 ⟨rfl, rfl⟩
    refine hK.out _ _ (.inr (by (repeat' (first | exact Below.refl _ _ | assumption | exact And.left (by assumption) | apply bel_alloc | apply Below.drew)))) ?_
    clear hK KK
    try simp only [Act.put, List.setIfInBounds_toArray, List.set_cons_zero, List.set_cons_succ]
    refine ordA_lone (by rfl) (by rfl) (fun KK hK => ?_)
    have M2 := (H2.out.later (Below.refl w2.heap.size w2).drew).map (by simp)
    rw [HX2.out.2] at M2
    refine wp_mapPut (by decide) _ _ _ rfl M2 rfl rfl rfl ?_
    intro w3 hm3 f3
    refine hK.out _ _ (.inl (by trivial)) ?_
    clear hK KK
    try simp only [Act.put, List.setIfInBounds_toArray, List.set_cons_zero, List.set_cons_succ]
    refine ordA_done ?_
    have T3 := (H2.out.later (Below.refl w2.heap.size w2).drew).stated (f3.mono (fun i hi => hi.trans HX2.out.2.symm)) (HX2.out.2.symm ▸ hm3)
    have F3 : Hid (Foot (fun i => isE (lab i)) w w3) := Lib.hid ((F2.out.up (Below.refl _ _).drew).then f3 (fun i hi hdd => by
      show isE (lab i)
      rw [hdd, HH.out.lb.mm.1]; unfold isE; omega))
    have H3 := Lib.hid T3
    clear d1 d9 hrw f3 hm3 M2
    have d1 := T3.at_ (by simp)
    have d9 := T3.atS (by simp) (by simp) rfl
    have hx3 := HX2.out.1
    have hse3 : eb2.se = eb.se := HSE.out.1
    have hdb3 : eb2.db.x = eb.db.x := HSE.out.2
    rw [hx3] at d1
    rw [hse3, hdb3] at d9
    have hrw := Below.refl w3.heap.size w3
    have FT3 : Hid (∀ w', Below w3.heap.size w3 w' → Calls Tryz.prog 103 #[.pointer (some ⟨eb.db.x, 0, none⟩)] w' fun e w'' => e = .returned (.int .i64 0) ∧ w' = w'') := Lib.hid fun w' hb => by
      have := diStatus ((T3.later hb).dia (by simp) t1 rfl).blk
      rw [hdb3] at this
      exact this
    clear T3 hx3 hse3 hdb3 FT
    go_wp2_with fail
    refine (FT3.out _ (by (repeat' (first | exact Below.refl _ _ | assumption | exact And.left (by assumption) | apply bel_alloc | apply Below.drew)))).mono ?_; rintro rr w4 ⟨rfl, rfl⟩
    go_wp2_with fail
    go_ret
    refine ⟨lab2, eb2, by rw [hro]; rfl, E2.out, ?_, ⟨HX2.out.1, HSE.out.1, HTB2.out⟩, F3.out⟩
    unfold stepE stepEv
    rw [hro]
    exact H3.out
  | fin st =>
    obtain ⟨dB, hdB, hst⟩ : DiE wc eb.db.x st := by have := HJ.out.e; rw [hro] at this; exact this
    obtain ⟨hst0, hwf⟩ := HFI.out.1 st hro
    have T1 : EngX [20] wc lab eb c E := HH.out.foot HJ.out.f [20] (fun i hi => by rw [cls_d hi]; simp) (by simp)
    have hs := HC.out.2.1
    have K6 := HJ.out.k
    rw [hro] at K6
    have F1 : Hid (Foot (fun i => isE (lab i)) w wc) := Lib.hid (HJ.out.f.mono (fun i hi => by unfold isD at hi; unfold isE; omega))
    have d6 := K6.at6
    have d1 := T1.at_ (by simp)
    have d9 := T1.atS (by simp) (by simp) hs
    have hrw := Below.refl wc.heap.size wc
    have HST := Lib.hid (And.intro hst (And.intro hst0 hwf))
    have HDB := Lib.hid hdB
    have FL : Hid (∀ w', Below wc.heap.size wc w' → Calls Tryz.prog 26 #[.pointer (some ⟨eb.x, 0, none⟩), .agg #[.int .i64 8, .int .i64 0, .int .i64 0, .int .i64 0, .string ⟨#[]⟩, .int .i64 0, .int .i64 E.clock, .int .i64 (t.at_ : Nat), .int .i64 r.what, .int .i64 r.arm, .int .i64 r.n, .int .i64 st]] w' fun e w'' => e = .returned (.tuple #[]) ∧ ∃ lab3 ov, LabEq lab lab3 w' ∧ EngX [20] w'' lab3 { eb with ov := ov } c { E with out := E.out ++ [⟨8, 0, 0, 0, ⟨#[]⟩, 0, E.clock, (t.at_ : Nat), r.what, r.arm, r.n, st⟩] } ∧ Foot (fun i => lab i = 1 ∨ lab i = 8) w' w'') := Lib.hid fun w' hb =>
      (enTell (T1.later hb) (by simp) (by simp) HC.out.2.2.2 8 0 0 0 ⟨#[]⟩ 0 E.clock (t.at_ : Nat) r.what r.arm r.n st).mono fun e w'' ⟨lab3, ov, h1, h2, h3, h4⟩ => ⟨h1, lab3, ov, h2, h3, h4⟩
    clear T1 K6 HJ hst hst0 hwf hdB
    go_upto_region 4 with fail
    refine wp_region_ordL (S := fun w' => Below wc.heap.size wc w') [0, 1, 2, 3, 4, 5, 6, 7] 7 (by kernel_rfl) (by kernel_rfl) (by kernel_rfl) (by kernel_rfl) (by kernel_rfl) (by kernel_rfl) (by (repeat' (first | exact Below.refl _ _ | assumption | exact And.left (by assumption) | apply bel_alloc | apply Below.drew))) ?_
    simp only [pickL, List.filterMap_cons, List.filterMap_nil, List.getElem?_cons_zero, List.getElem?_cons_succ]
    repeat (refine ordL_take (v := ?_) (by rfl) (by rfl) ?_ ?_; rotate_left; (focus (intro w hSw; (try dsimp only at hSw); go_simp; (try with_reducible rfl))); simp only [Act.put, List.setIfInBounds_toArray, List.set_cons_zero, List.set_cons_succ])
    refine ordL_lone (by rfl) (by rfl) (fun KK hK => ?_)
    try go_simp
    refine (FL.out _ (by (repeat' (first | exact Below.refl _ _ | assumption | exact And.left (by assumption) | apply bel_alloc | apply Below.drew)))).mono ?_; rintro rr w2 ⟨rfl, lab2, ov, e2, h2, f2⟩
    refine hK.out _ _ (.inl (by trivial)) ?_
    clear hK KK
    try simp only [Act.put, List.setIfInBounds_toArray, List.set_cons_zero, List.set_cons_succ]
    refine ordL_done ?_
    obtain ⟨hdx1, hdx2⟩ := HH.out.lb.dx hs
    have hdx2' : eb.db.x < wc.heap.size := Nat.lt_of_lt_of_le hdx2 F1.out.size
    have hdB2 : DiB w2 eb.db.x dB := Blk.foot (Blk.later HDB.out (Below.refl _ _).drew) f2 (by rw [hdx1]; omega)
    have F2 : Hid (Foot (fun i => isE (lab i)) w w2) := Lib.hid ((F1.out.up (Below.refl _ _).drew).then f2 (fun i hi hdd => by show isE (lab i); unfold isE; omega))
    have E2 : Hid (LabEq lab lab2 w) := Lib.hid fun i hi => e2 i (Nat.lt_of_lt_of_le hi F1.out.size)
    have H2 := Lib.hid h2
    have HDX := Lib.hid (And.intro hdx1 hdx2)
    have HDB2 := Lib.hid hdB2
    clear d1 d9 d6 hrw FL e2 f2 hdx1 hdx2 hdx2' hdB2
    have d1 := h2.at_ (by simp)
    have d9 := h2.atS (by simp) (by simp) hs
    dsimp only at d1 d9
    have hrw := Below.refl w2.heap.size w2
    have FT : Hid (∀ w', Below w2.heap.size w2 w' → Calls Tryz.prog 103 #[.pointer (some ⟨eb.db.x, 0, none⟩)] w' fun e w'' => e = .returned (.int .i64 st) ∧ w' = w'') := Lib.hid fun w' hb => by
      have := diStatus (Blk.later HDB2.out hb)
      rwa [HST.out.1] at this
    clear h2
    go_upto_region 5 with fail
    refine wp_region_ordA (S := fun w' => Below w2.heap.size w2 w') [0, 1, 2, 3, 4, 5, 6, 7, 8, 9, 10, 11, 12, 13] 13 (by kernel_rfl) (by kernel_rfl) (by kernel_rfl) (by kernel_rfl) (by kernel_rfl) (by kernel_rfl) (by (repeat' (first | exact Below.refl _ _ | assumption | exact And.left (by assumption) | apply bel_alloc | apply Below.drew))) ?_
    simp only [pickL, List.filterMap_cons, List.filterMap_nil, List.getElem?_cons_zero, List.getElem?_cons_succ]
    repeat (refine ordA_take (v := ?_) (by rfl) (by rfl) ?_ ?_; rotate_left; (focus (intro w hSw; (try dsimp only at hSw); go_simp; (try with_reducible rfl))); simp only [Act.put, List.setIfInBounds_toArray, List.set_cons_zero, List.set_cons_succ])
    refine ordA_lone (by rfl) (by rfl) (fun KK hK => ?_)
    try go_simp
    refine (FT.out _ (by (repeat' (first | exact Below.refl _ _ | assumption | exact And.left (by assumption) | apply bel_alloc | apply Below.drew)))).mono ?_; rintro rr w3 ⟨rfl, rfl⟩
    refine hK.out _ _ (.inr (by (repeat' (first | exact Below.refl _ _ | assumption | exact And.left (by assumption) | apply bel_alloc | apply Below.drew)))) ?_
    clear hK KK
    try simp only [Act.put, List.setIfInBounds_toArray, List.set_cons_zero, List.set_cons_succ]
    refine ordA_lone (by rfl) (by rfl) (fun KK hK => ?_)
    have M2 := (H2.out.later (Below.refl w2.heap.size w2).drew).map (by simp)
    refine wp_mapPut HST.out.2.2 _ _ _ rfl M2 rfl rfl rfl ?_
    intro w3 hm3 f3
    refine hK.out _ _ (.inl (by trivial)) ?_
    clear hK KK
    try simp only [Act.put, List.setIfInBounds_toArray, List.set_cons_zero, List.set_cons_succ]
    refine ordA_done ?_
    have T3 := (H2.out.later (Below.refl w2.heap.size w2).drew).stated f3 hm3
    have hdB3 : DiB w3 eb.db.x dB := Blk.foot (Blk.later HDB2.out (Below.refl _ _).drew) f3 (fun e => by have e' : eb.db.x = eb.mm := e; have h1 := HDX.out.1; rw [e', HH.out.lb.mm.1] at h1; omega)
    have F3 : Hid (Foot (fun i => isE (lab i)) w w3) := Lib.hid ((F2.out.up (Below.refl _ _).drew).then f3 (fun i hi hdd => by
      show isE (lab i)
      rw [hdd, HH.out.lb.mm.1]; unfold isE; omega))
    have H3 := Lib.hid T3
    have HDB3 := Lib.hid hdB3
    clear d1 d9 hrw f3 hm3 M2 hdB3
    have d1 := T3.at_ (by simp)
    have d9 := T3.atS (by simp) (by simp) hs
    dsimp only at d1 d9
    have hrw := Below.refl w3.heap.size w3
    have FT3 : Hid (∀ w', Below w3.heap.size w3 w' → Calls Tryz.prog 103 #[.pointer (some ⟨eb.db.x, 0, none⟩)] w' fun e w'' => e = .returned (.int .i64 st) ∧ w' = w'') := Lib.hid fun w' hb => by
      have := diStatus (Blk.later HDB3.out hb)
      rwa [HST.out.1] at this
    have hst0 : ¬ st = 0 := HST.out.2.1
    have FDr : Hid (∀ w', Below w3.heap.size w3 w' → Calls Tryz.prog 104 #[.pointer (some ⟨eb.wx, 0, none⟩)] w' fun e w'' => (∃ k, e = .returned (.int .i64 k)) ∧ Foot (fun i => i = eb.wx) w' w'') := Lib.hid fun w' hb => by
      obtain ⟨a, ps, hw⟩ := (T3.later hb).wir (by simp) hs
      exact (wDrop _ _ _ _ _ _ _ _ _ hw).mono fun e w'' ⟨h1, h2, h3⟩ => ⟨⟨_, h1⟩, Foot.grown h3 (fun g hg => (Option.some.inj hg).symm)⟩
    clear T3 FT
    go_wp2_with fail
    refine (FT3.out _ (by (repeat' (first | exact Below.refl _ _ | assumption | exact And.left (by assumption) | apply bel_alloc | apply Below.drew)))).mono ?_; rintro rr w4 ⟨rfl, rfl⟩
    go_wp2_with fail
    refine (FDr.out _ (by (repeat' (first | exact Below.refl _ _ | assumption | exact And.left (by assumption) | apply bel_alloc | apply Below.drew)))).mono ?_; rintro rr w4 ⟨⟨kk, rfl⟩, f4⟩
    have f4' : Foot (fun i => i = eb.wx) w3 w4 := by first | exact f4 | exact (Foot.later (Below.refl _ _).drew).trans f4
    have T4 := H3.out.foot f4' [10] (fun i hi => by rw [hi]; have := (H3.out.lb.wx hs).1; dsimp only at this; rw [this, cls_low (by omega)]; simp) (by simp)
    have F4 : Hid (Foot (fun i => isE (lab i)) w w4) := Lib.hid (F3.out.then f4' (fun i hi hdd => by
      show isE (lab i)
      rw [hdd, (HH.out.lb.wx hs).1]; unfold isE; omega))
    have H4 := Lib.hid T4
    clear d1 d9 hrw f4 f4' FDr FT3
    have d1 := T4.at_ (by simp)
    have d9 := T4.atS (by simp) (by simp) hs
    dsimp only at d1 d9
    have hrw := Below.refl w4.heap.size w4
    have FCl : Hid (∀ w', Below w4.heap.size w4 w' → Calls Tryz.prog 105 #[.pointer (some ⟨eb.sl.x, 0, none⟩), .int .i64 0] w' fun e w'' => e = .returned (.bool true) ∧ Slo w'' eb.sl c.l false E.nx ∧ Foot eb.sl.in_ w' w'') := Lib.hid fun w' hb => by
      have := (T4.later hb).slo (by simp)
      simp only [hs] at this
      exact slClose this T4.sok
    clear T4
    go_upto_region 9 with fail
    refine wp_region_ordL (S := fun w' => Below w4.heap.size w4 w') [0, 1, 2, 3, 4, 5, 6, 7, 8] 8 (by kernel_rfl) (by kernel_rfl) (by kernel_rfl) (by kernel_rfl) (by kernel_rfl) (by kernel_rfl) (by (repeat' (first | exact Below.refl _ _ | assumption | exact And.left (by assumption) | apply bel_alloc | apply Below.drew))) ?_
    simp only [pickL, List.filterMap_cons, List.filterMap_nil, List.getElem?_cons_zero, List.getElem?_cons_succ]
    repeat (refine ordL_take (v := ?_) (by rfl) (by rfl) ?_ ?_; rotate_left; (focus (intro w hSw; (try dsimp only at hSw); go_simp; (try with_reducible rfl))); simp only [Act.put, List.setIfInBounds_toArray, List.set_cons_zero, List.set_cons_succ])
    refine ordL_lone (by rfl) (by rfl) (fun KK hK => ?_)
    try go_simp
    refine (FCl.out _ (by (repeat' (first | exact Below.refl _ _ | assumption | exact And.left (by assumption) | apply bel_alloc | apply Below.drew)))).mono ?_; rintro rr w5 ⟨rfl, hs5, f5⟩
    refine hK.out _ _ (.inl (by trivial)) ?_
    clear hK KK
    try simp only [Act.put, List.setIfInBounds_toArray, List.set_cons_zero, List.set_cons_succ]
    refine ordL_done ?_
    have T5 := (H4.out.later (Below.refl w4.heap.size w4).drew).foot f5 [2] (fun i hi => by have := (H4.out.lb.sl i hi).1; rw [this, cls_low (by omega)]; simp) (by simp)
    have F5 : Hid (Foot (fun i => isE (lab i)) w w5) := Lib.hid ((F4.out.up (Below.refl _ _).drew).then f5 (fun i hi hdd => by
      show isE (lab i)
      rw [(HH.out.lb.sl i hdd).1]; unfold isE; omega))
    have A5 := T5.sea (by simp)
    have d1 := T5.at_ (by simp)
    have d9 := A5.at_
    dsimp only at d1 d9
    have hr5 := Below.refl w5.heap.size w5
    have f6 : Foot (fun i => i = eb.sa) w5 (w5.setCell ⟨eb.sa, 0, none⟩ (.pointer none)) := foot_set (fun i => i = eb.sa) (Foot.refl _ w5) eb.sa 0 rfl _
    have A6 := A5.set (.pointer none)
    have S6 := hs5.foot f6 (fun i hi e => by have h1 := (HH.out.lb.sl i hi).1; rw [e, HH.out.lb.sa.1] at h1; omega)
    have T6 := (T5.foot f6 [3] (fun i hi => by rw [hi]; have := T5.lb.sa.1; dsimp only at this; rw [this, cls_low (by omega)]; simp) (by simp)).gone S6 A6
    have F6 : Hid (Foot (fun i => isE (lab i)) w (w5.setCell ⟨eb.sa, 0, none⟩ (.pointer none))) := Lib.hid (F5.out.then f6 (fun i hi hdd => by
      show isE (lab i)
      rw [hdd, HH.out.lb.sa.1]; unfold isE; omega))
    obtain ⟨w6, hw6⟩ : ∃ w6, w6 = w5.setCell ⟨eb.sa, 0, none⟩ (.pointer none) := ⟨_, rfl⟩
    rw [← hw6] at T6 F6
    have HW6 := Lib.hid hw6
    have H6 := Lib.hid T6
    clear hw6 f5 hs5 hrw T5 A5 A6 S6 f6 FCl T6
    go_upto_region 11 with fail
    rw [← HW6.out]
    clear d1 d9 hr5
    have d1 := H6.out.at_ (by simp)
    dsimp only at d1
    have hr6 := Below.refl w6.heap.size w6
    have FLv : Hid (∀ w', Below w6.heap.size w6 w' → Calls Tryz.prog 106 #[.pointer (some ⟨eb.tb.x, 0, none⟩), .int .i64 0] w' fun e w'' => e = .returned (.bool true) ∧ Tur w'' eb.tb c.l c.q false false 0 E.k ∧ Foot eb.tb.in_ w' w'') := Lib.hid fun w' hb => by
      have := (H6.out.later hb).tur (by simp)
      simp only [HFI.out.2.1, HFI.out.2.2] at this
      exact tuLeave this H6.out.tok
    go_wp2_with fail
    refine (FLv.out _ (by (repeat' (first | exact Below.refl _ _ | assumption | exact And.left (by assumption) | apply bel_alloc | apply Below.drew)))).mono ?_; rintro rr w7 ⟨rfl, t7, f7⟩
    have f7' : Foot eb.tb.in_ w6 w7 := by first | exact f7 | exact (Foot.later (Below.refl _ _).drew).trans f7
    have T7 := H6.out.turned f7' t7
    have F7 : Hid (Foot (fun i => isE (lab i)) w w7) := Lib.hid (F6.out.then f7' (fun i hi hdd => by
      show isE (lab i)
      rw [(HH.out.lb.tb i hdd).1]; unfold isE; omega))
    have H7 := Lib.hid T7
    clear d1 hr6 t7 f7 f7' FLv
    have d1 := T7.at_ (by simp)
    dsimp only at d1
    have hr7 := Below.refl w7.heap.size w7
    have FCu : Hid (∀ w', Below w7.heap.size w7 w' → Calls Tryz.prog 107 #[.pointer (some ⟨eb.hx, 0, none⟩), .int .i64 0] w' fun e w'' => (∃ b, e = .returned (.bool b)) ∧ ∃ lv', Hea w'' eb.hx eb.hw lv' c.l none ∧ Grew eb.hl lv' w' ∧ Foot (heF eb.hx eb.hw eb.hl) w' w'') := Lib.hid fun w' hb => heCutB ((H7.out.later hb).hea (by simp))
    clear T7
    go_wp2_with fail
    refine (FCu.out _ (by (repeat' (first | exact Below.refl _ _ | assumption | exact And.left (by assumption) | apply bel_alloc | apply Below.drew)))).mono ?_; rintro rr w8 ⟨⟨bb, rfl⟩, lv', h8, g8, f8⟩
    have H8 := Lib.hid ((H7.out.later (by first | exact Below.refl _ _ | exact (Below.refl w7.heap.size w7).drew)).timed f8 h8 g8)
    have F8 : Hid (Foot (fun i => isE (lab i)) w w8) := Lib.hid (F7.out.then f8 (fun i hi hdd => by
      show isE (lab i)
      rw [(HH.out.lb.he i hdd).1]; unfold isE; omega))
    have E8 : Hid (LabEq lab (labNew lab2 w7 5) w) := Lib.hid fun i hi => (labNew_old (Nat.lt_of_lt_of_le hi F7.out.size)).trans (E2.out i hi)
    clear d1 hr7 h8 g8 f8 FCu
    go_wp2_with fail
    go_ret
    refine ⟨_, { eb with ov := ov, hl := lv' }, by rw [hro]; rfl, E8.out, ?_, ⟨rfl, rfl, rfl⟩, F8.out⟩
    unfold stepE stepEv
    rw [hro]
    exact H8.out
end Go.Proofs.YtbhgmccaecmpjaaGreat
