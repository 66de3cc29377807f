/-
  Contracts of package dial: a look, in its three ways.
  Conditions: the blocks are known; what is waited for has not taken too long.
-/
import Derived.Test.YtbhgmccaecmpjaaGreatW23
namespace Go.Proofs.YtbhgmccaecmpjaaGreat
set_option linter.unusedVariables false
set_option linter.unusedSimpArgs false
open Go.RowKit

theorem bel_alloc {a w : World} (h : Below a.heap.size a w) (o : Obj) : Below a.heap.size a (w.alloc o) := h.alloc h.size o
/-- Behind a look. -/
theorem DiaR.looked {w w' : World} {lab lab' : Nat → Nat} {b : DB} {c : ScT} {t : DT} {p : Pat} {T : LkT} {bv' : Value} {ar' : AB} {f' : Nat} {lv' : Bool} (h : DiaR w lab b c t) (hp : t.pat = some p) (le : LabEq lab lab' w) (lk : LkLab lab' b.hx bv' ar' b.rx b.ra) (ex : ar'.x = b.ar.x) (hol : HolV w' b.hx bv' c.n T.l.length T.l.length (.pointer (some ⟨b.ar.x, 0, none⟩)))
    (hrow : lv' = true → OB 5 0 w' bv' T.l) (rlt : ∀ g, bv'.ownBlock = some g → g < w'.heap.size) (ha : ArmS w' ar' T.p) (hr : Rng w' b.rx b.ra c.r f' T.s) (ff : Foot (fun i => isLk (lab i)) w w') :
    DiaR w' lab' { b with bv := bv', ar := ar', f := f' } c { t with inb := T.s, win := T.l, pat := some T.p, lv := lv' } := by
  have n := h.lab
  obtain ⟨l1, l2, l3, l4, l5, l6, l7⟩ := h.lt
  have ne : ∀ i m, lab i = m → 24 < m → ¬ isLk (lab i) := fun i m e hm hh => by rw [e] at hh; have := hh.2; omega
  refine ⟨Blk.foot h.blk ff (ne _ _ n.x (by omega)), hr, by show HolV w' b.hx bv' c.n T.l.length T.l.length (.pointer (some ⟨ar'.x, 0, none⟩)); rw [ex]; exact hol, hrow, rlt, fun p' e => by cases e; exact ha, Blk.foot h.pnd ff (ne _ _ n.px (by omega)), h.pb, h.scr.foot ff (fun i hi => ne _ _ (n.scr i hi) (by omega)), ⟨(le _ l1).trans n.x, lk.x, lk.row, fun _ => lk.arms, lk.rx, lk.ra, (le _ l5).trans n.px, fun i hi => (le _ (l7 i hi)).trans (n.scr i hi)⟩, h.ok⟩

/-- What stands behind the first step of a look: the dialogue, the look's own variables. -/
def LkJ (w w4 : World) (lab : Nat → Nat) (b : DB) (c : ScT) (t : DT) (T : LkT) (lv : Bool) (q q3 : Nat) (s : StT) (nn : Int) (ao : Option Addr) (mm cc : Nat) : Prop :=
  ∃ lab3 b', b'.x = b.x ∧ DiaR w4 lab3 b' c { t with inb := T.s, win := T.l, pat := some T.p, lv := lv } ∧ LabEq lab lab3 w ∧ Foot (fun i => isLk (lab i)) w w4 ∧
    Blk w4 q 67 #[.int .i64 s.tick, .int .i64 s.at_, .int .i64 s.what, .int .i64 s.arm, .int .i64 s.n, .int .i64 s.st] ∧ Blk w4 (q + 1) 29 #[.int .i64 2, .string ⟨#[]⟩, .int .i64 nn, .int .i64 0, .slice ao mm cc, .int .i64 (-1), .int .i64 (-1)] ∧ Blk w4 (q + 1 + 1) 67 #[.int .i64 0, .int .i64 0, .int .i64 0, .int .i64 0, .int .i64 0, .int .i64 0] ∧
    Blk w4 q3 255 #[.bool T.isHit, .bool T.isFull, .int .i64 0, .int .i64 T.gone, .int .i64 T.read] ∧ (∀ i, w.heap.size ≤ i → i < w4.heap.size → i = q ∨ i = q + 1 ∨ i = q + 1 + 1 ∨ i = q3 → ¬ isD (lab3 i)) ∧ q + 1 + 1 < q3 ∧ w.heap.size = q
theorem LkJ.mk {w wS w2 w4 : World} {lab lab2 : Nat → Nat} {b : DB} {c : ScT} {t : DT} {p : Pat} {T : LkT} {bv' : Value} {ar' : AB} {f' : Nat} {lv' : Bool} {q q3 : Nat} {s : StT} {nn : Int} {ao : Option Addr} {mm cc : Nat} (h : DiaR wS (labNew lab w 0) b c t) (hp : t.pat = some p) (hb : Below w.heap.size w wS) (hq : w.heap.size = q)
    (KA : Blk wS q 67 #[.int .i64 s.tick, .int .i64 s.at_, .int .i64 s.what, .int .i64 s.arm, .int .i64 s.n, .int .i64 s.st]) (KB : Blk wS (q + 1) 29 #[.int .i64 2, .string ⟨#[]⟩, .int .i64 nn, .int .i64 0, .slice ao mm cc, .int .i64 (-1), .int .i64 (-1)]) (KC : Blk wS (q + 1 + 1) 67 #[.int .i64 0, .int .i64 0, .int .i64 0, .int .i64 0, .int .i64 0, .int .i64 0])
    (le : LabEq (labNew lab w 0) lab2 wS) (lk : LkLab lab2 b.hx bv' ar' b.rx b.ra) (ex : ar'.x = b.ar.x) (hol : HolV w2 b.hx bv' c.n T.l.length T.l.length (.pointer (some ⟨b.ar.x, 0, none⟩)))
    (hrow : lv' = true → OB 5 0 w2 bv' T.l) (ha : ArmS w2 ar' T.p) (hr : Rng w2 b.rx b.ra c.r f' T.s) (ff : Foot (fun i => isLk (labNew lab w 0 i)) wS w2) (rlt : ∀ g, bv'.ownBlock = some g → g < w2.heap.size)
    (fF : Foot (fun i => i = q3) w2 w4) (KF : Blk w4 q3 255 #[.bool T.isHit, .bool T.isFull, .int .i64 0, .int .i64 T.gone, .int .i64 T.read]) (hq3 : q + 1 + 1 < q3) (lq3 : q3 < w2.heap.size → lab2 q3 = 0) :
    LkJ w w4 lab b c t T lv' q q3 s nn ao mm cc := by
  have H2 := h.looked (lv' := lv') hp le lk ex hol hrow rlt ha hr ff
  have sz := ff.size
  have szF := fF.size
  have szb := hb.size
  have z0 : ∀ i, w.heap.size ≤ i → i < wS.heap.size → lab2 i = 0 := fun i h1 h2 => (le i h2).trans (labNew_new h1)
  have z1 : ∀ i, w.heap.size ≤ i → ¬ isLk (labNew lab w 0 i) := fun i hi e => by rw [labNew_new hi] at e; have := e.1; omega
  have la := KA.lt
  have lb := KB.lt
  have lc := KC.lt
  have zq3 : labNew lab2 w2 0 q3 = 0 := by
    rcases Nat.lt_or_ge q3 w2.heap.size with hl | hl
    · rw [labNew_old hl]; exact lq3 hl
    · exact labNew_new hl
  have H4 := (H2.relab (labNew_eq lab2 w2 0)).foot fF (fun i hi e => by subst e; rw [zq3] at hi; exact isD_zero hi)
  refine ⟨labNew lab2 w2 0, { b with bv := bv', ar := ar', f := f' }, rfl, H4, fun i hi => ?_, ?_, (KA.foot ff (z1 _ (by omega))).foot fF (by omega), (KB.foot ff (z1 _ (by omega))).foot fF (by omega), (KC.foot ff (z1 _ (by omega))).foot fF (by omega), KF, fun i h1 h2 hi => ?_, hq3, hq⟩
  · rw [labNew_old (by omega), le i (by omega), labNew_old hi]
  · refine ((Foot.later hb : Foot (fun i => isLk (lab i)) w wS).then ff (fun i hi e => ?_)).then fF (fun i hi e => ?_)
    · rw [labNew_old hi] at e; exact e
    · omega
  · have : labNew lab2 w2 0 i = 0 := by
      rcases hi with e | e | e | e
      · rw [labNew_old (by omega)]; exact z0 i h1 (by omega)
      · rw [labNew_old (by omega)]; exact z0 i h1 (by omega)
      · rw [labNew_old (by omega)]; exact z0 i h1 (by omega)
      · rw [e]; exact zq3
    rw [this]; exact isD_zero

set_option maxRecDepth 100000 in
set_option maxHeartbeats 1500000 in
theorem loNone {w : World} {lab : Nat → Nat} {b : DB} {c : ScT} {t : DT} {p : Pat} {T : LkT} (h : DiaR w lab b c t) (hp : t.pat = some p) (hlv : t.lv = true) (hT : lookT c.n t.win p t.inb 0 = T) (hh : T.isHit = false) (hf : T.isFull = false) (hw : dueB t.un t.now = false) (s : StT) {nn : Int} {ao : Option Addr} {mm cc : Nat} : Calls Tryz.prog 154 #[.pointer (some ⟨b.x, 0, none⟩), .agg s.cells, .agg #[.int .i64 2, .string ⟨#[]⟩, .int .i64 nn, .int .i64 0, .slice ao mm cc, .int .i64 (-1), .int .i64 (-1)]] w fun e w' => ∃ lab' b', e = .returned (.agg #[.int .i64 s.tick, .int .i64 s.at_, .int .i64 1, .int .i64 s.arm, .int .i64 T.read, .int .i64 s.st]) ∧ LabEq lab lab' w ∧ DiaR w' lab' b' c ({ t with inb := T.s, win := T.l, pat := some T.p, lv := true }) ∧ b'.x = b.x ∧ Foot (fun i => isD (lab i)) w w' := by
  unfold StT.cells
  obtain ⟨q, hq⟩ : ∃ q, w.heap.size = q := ⟨_, rfl⟩
  obtain ⟨w1, hw1⟩ : ∃ w1, w1 = ((w.alloc (.cells #[.int .i64 s.tick, .int .i64 s.at_, .int .i64 s.what, .int .i64 s.arm, .int .i64 s.n, .int .i64 s.st] 67)).alloc (.cells #[.int .i64 2, .string ⟨#[]⟩, .int .i64 nn, .int .i64 0, .slice ao mm cc, .int .i64 (-1), .int .i64 (-1)] 29)).alloc (.cells #[.int .i64 0, .int .i64 0, .int .i64 0, .int .i64 0, .int .i64 0, .int .i64 0] 67) := ⟨_, rfl⟩
  have b1 : Below w.heap.size w w1 := by rw [hw1]; exact (((Below.refl _ _).alloc (Nat.le_refl _) _).alloc (by simp) _).alloc (by simp <;> omega) _
  have K1 : Blk w1 q 67 #[.int .i64 s.tick, .int .i64 s.at_, .int .i64 s.what, .int .i64 s.arm, .int .i64 s.n, .int .i64 s.st] := by rw [hw1, ← hq]; exact ((Blk.new _ _ _).alloc _).alloc _
  have K2 : Blk w1 (q + 1) 29 #[.int .i64 2, .string ⟨#[]⟩, .int .i64 nn, .int .i64 0, .slice ao mm cc, .int .i64 (-1), .int .i64 (-1)] := by
    rw [hw1, ← hq]
    have := (Blk.new (w.alloc (.cells #[.int .i64 s.tick, .int .i64 s.at_, .int .i64 s.what, .int .i64 s.arm, .int .i64 s.n, .int .i64 s.st] 67)) 29 #[.int .i64 2, .string ⟨#[]⟩, .int .i64 nn, .int .i64 0, .slice ao mm cc, .int .i64 (-1), .int .i64 (-1)]).alloc (.cells #[.int .i64 0, .int .i64 0, .int .i64 0, .int .i64 0, .int .i64 0, .int .i64 0] 67)
    simpa using this
  have K3 : Blk w1 (q + 1 + 1) 67 #[.int .i64 0, .int .i64 0, .int .i64 0, .int .i64 0, .int .i64 0, .int .i64 0] := by
    rw [hw1, ← hq]
    have := Blk.new ((w.alloc (.cells #[.int .i64 s.tick, .int .i64 s.at_, .int .i64 s.what, .int .i64 s.arm, .int .i64 s.n, .int .i64 s.st] 67)).alloc (.cells #[.int .i64 2, .string ⟨#[]⟩, .int .i64 nn, .int .i64 0, .slice ao mm cc, .int .i64 (-1), .int .i64 (-1)] 29)) 67 #[.int .i64 0, .int .i64 0, .int .i64 0, .int .i64 0, .int .i64 0, .int .i64 0]
    simpa using this
  have e1 := labNew_eq lab w 0
  have H1 := (h.relab e1).later b1
  have hx := h.lt.1
  have HQ := Lib.hid hq
  have HW1 := Lib.hid hw1
  have E1 := Lib.hid e1
  have B1 := Lib.hid b1
  have HN := Lib.hid h.lab
  have HX := Lib.hid hx
  have n1 := H1.lab
  have FL : Hid (∀ wS, Below w1.heap.size w1 wS → Calls Tryz.prog 178 #[.pointer (some ⟨b.hx, 0, none⟩), .pointer (some ⟨b.rx, 0, none⟩)] wS fun e w' => ∃ lab' bv' b' f', e = .returned (.agg #[.bool T.isHit, .bool T.isFull, .int .i64 0, .int .i64 T.gone, .int .i64 T.read]) ∧ LabEq (labNew lab w 0) lab' wS ∧ LkLab lab' b.hx bv' b' b.rx b.ra ∧ b'.x = b.ar.x ∧
      HolV w' b.hx bv' c.n T.l.length T.l.length (.pointer (some ⟨b.ar.x, 0, none⟩)) ∧ (T.isHit = false → HolR w' b.hx bv' c.n T.l T.l.length (.pointer (some ⟨b.ar.x, 0, none⟩))) ∧
      ArmS w' b' T.p ∧ Rng w' b.rx b.ra c.r f' T.s ∧ Foot (fun i => isLk (labNew lab w 0 i)) wS w' ∧ (∀ g, bv'.ownBlock = some g → g < w'.heap.size)) := Lib.hid fun wS hb => by
    have H1d := H1.later hb
    have FLt := hoLook (lab := labNew lab w 0) ⟨by have := H1d.hol; rw [hp] at this; exact this, H1d.row hlv, fun e => by have h1 := lab_inj (n1.row _ e) n1.hx rfl; omega⟩ (H1d.arm p hp) H1d.rng ⟨n1.hx, n1.row, n1.arms (by rw [hp]; rfl), n1.rx, n1.ra⟩
    rw [hT] at FLt
    exact FLt
  have HH := Lib.hid H1
  have K1 := Lib.hid K1
  have K2 := Lib.hid K2
  have K3 := Lib.hid K3
  have d : ∀ w', Below w1.heap.size w1 w' → w'.cell? ⟨b.x, 17, none⟩ = some (.pointer (some ⟨b.hx, 0, none⟩)) ∧ w'.cell? ⟨b.x, 16, none⟩ = some (.pointer (some ⟨b.rx, 0, none⟩)) := fun w' hw => by
    have k := Blk.later H1.blk hw
    exact ⟨k.cell 17, k.cell 16⟩
  have hr := Below.refl w1.heap.size w1
  have MK : Hid (∀ w', DiB w' b.x (t.dc c b 0) → w'.cell? ⟨b.x, 17, none⟩ = some (.pointer (some ⟨b.hx, 0, none⟩)) ∧ w'.cell? ⟨b.x, 16, none⟩ = some (.pointer (some ⟨b.rx, 0, none⟩))) := Lib.hid fun w' k => ⟨Blk.cell k 17, Blk.cell k 16⟩
  have HXD : Hid (∀ wS w2, Below w1.heap.size w1 wS → Foot (fun i => isLk (labNew lab w 0 i)) wS w2 → DiB w2 b.x (t.dc c b 0)) := Lib.hid fun wS w2 hb ff => Blk.foot (Blk.later HH.out.blk hb) ff (fun e => by rw [labNew_old HX.out, HN.out.x] at e; have := e.2; omega)
  have HHH := Lib.hid (And.intro hh (And.intro hf hw))
  clear hh hf hw
  clear h hw1 hq e1 b1 H1 n1 hx
  go_enter Tryz.func154, Tryz.ntmps154
  go_upto_region 1 with fail
  rw [← HW1.out, HQ.out]
  go_cut [7] (fun v wx => ∃ q3 : Nat, v = .pointer (some ⟨q3, 0, none⟩) ∧ Hid (LkJ w wx lab b c t T true q q3 s nn ao mm cc))
  case first =>
    have hbS := Below.alloc (Below.refl w1.heap.size w1) (Nat.le_refl _) (.cells #[.bool false, .bool false, .int .i64 0, .int .i64 0, .int .i64 0] 255)
    have NP : ∀ (X : Exit → Act → World → Prop) c a t v w, NoPanic X (.panic c) (Act.put a t v) w → NoPanic X (.panic c) a w := fun _ _ _ _ _ _ h => h
    have HSD := Lib.hid (MK.out _ (Blk.drew HH.out.blk))
    refine wp_region_by (S := fun w' => w'.cell? ⟨b.x, 17, none⟩ = some (.pointer (some ⟨b.hx, 0, none⟩)) ∧ w'.cell? ⟨b.x, 16, none⟩ = some (.pointer (some ⟨b.rx, 0, none⟩))) (by kernel_rfl) ?_
    refine wpAnyH_mix (n := 3) (by kernel_rfl) (NP _) [0, 1, 2, 3, 4, 5, 6, 7] (pickL [0, 1, 2, 3, 4, 5, 6, 7] _) _ _ _ (pickL_map (by kernel_rfl)) (by kernel_rfl) HSD.out ?_
    simp only [pickL, List.filterMap_cons, List.filterMap_nil, List.getElem?_cons_zero, List.getElem?_cons_succ]
    repeat (refine mix_take (v := ?_) (by rfl) (by rfl) ?_ ?_; rotate_left; (focus (intro w hSw; (try dsimp only at hSw); go_simp; (try with_reducible rfl))); simp only [Act.put, List.setIfInBounds_toArray, List.set_cons_zero, List.set_cons_succ])
    refine mix_end (fun _ => ?_)
    refine wpAnyH_both (i := 8) (j := 9) (by kernel_rfl) (by rfl) (by rfl) (by rfl) (by rfl) (fun KK hK => ?_) (fun KK hK => ?_)
    · simp only [List.getElem_toArray, List.getElem_cons_succ, List.getElem_cons_zero]
      try go_simp
      have D1 : Below w1.heap.size w1 w1.drew := (Below.refl _ _).drew
      refine (FL.out _ D1).mono ?_; rintro e w2 ⟨lab2, bv2, ar2, f2, rfl, le2, lk2, ex2, hol2, row2, arm2, rng2, ff2, rlt2⟩
      try go_wp2_with fail
      have HB2 := HXD.out _ w2 D1 ff2
      refine hK.out _ _ (MK.out _ HB2) (fun _ => ?_)
      clear hK KK
      try simp only [Act.put, List.setIfInBounds_toArray, List.set_cons_zero, List.set_cons_succ]
      refine wpAnyH_mix (n := 0) (by kernel_rfl) (NP _) [9, 10] (pickL [9, 10] _) _ _ _ (pickL_map (by kernel_rfl)) (by kernel_rfl) (MK.out _ HB2) ?_
      simp only [pickL, List.filterMap_cons, List.filterMap_nil, List.getElem?_cons_zero, List.getElem?_cons_succ]
      refine mix_lone (by rfl) (by rfl) (fun KK hK => ?_)
      try go_simp
      have b3 : Below w2.heap.size w2 (w2.alloc (.cells #[.bool false, .bool false, .int .i64 0, .int .i64 0, .int .i64 0] 255)) := Below.alloc (Below.refl _ _) (Nat.le_refl _) _
      have KF : Blk (w2.alloc (.cells #[.bool false, .bool false, .int .i64 0, .int .i64 0, .int .i64 0] 255)) w2.heap.size 255 #[.bool false, .bool false, .int .i64 0, .int .i64 0, .int .i64 0] := Blk.new _ _ _
      refine hK.out _ (w2.alloc (.cells #[.bool false, .bool false, .int .i64 0, .int .i64 0, .int .i64 0] 255)) (MK.out _ (Blk.later HB2 b3)) (fun _ => ?_)
      clear hK KK
      try simp only [Act.put, List.setIfInBounds_toArray, List.set_cons_zero, List.set_cons_succ]
      obtain ⟨q3, hq3⟩ : ∃ q3, w2.heap.size = q3 := ⟨_, rfl⟩
      obtain ⟨w3, hw3⟩ : ∃ w3, w3 = w2.alloc (.cells #[.bool false, .bool false, .int .i64 0, .int .i64 0, .int .i64 0] 255) := ⟨_, rfl⟩
      rw [← hw3, hq3] at KF
      rw [← hw3] at b3
      rw [← hw3]
      rw [hq3]
      have HQ3 := Lib.hid hq3
      clear hw3 hq3
      refine mix_lone (by rfl) (by rfl) (fun KK hK => ?_)
      have dF := KF.at5
      have hr3 := Below.refl w3.heap.size w3
      try go_simp
      have b4 := below_set5 b3 (show w2.heap.size ≤ q3 by have := HQ3.out; omega) (.bool T.isHit) (.bool T.isFull) (.int .i64 0) (.int .i64 T.gone) (.int .i64 T.read)
      have KF4 := blk_set5' KF (.bool T.isHit) (.bool T.isFull) (.int .i64 0) (.int .i64 T.gone) (.int .i64 T.read)
      refine hK.out _ _ (MK.out _ (Blk.later HB2 b4)) (fun _ => ?_)
      clear hK KK
      refine mix_end (fun _ => any_done (by kernel_rfl) ?_)
      try simp only [Act.put, List.setIfInBounds_toArray, List.set_cons_zero, List.set_cons_succ]
      go_wp2_with fail
      go_meet
      have s2 := ff2.size
      have lc := K3.out.lt
      exact ⟨_, rfl, Lib.hid (LkJ.mk (HH.out.later D1) hp (B1.out.up D1) HQ.out K1.out.drew K2.out.drew K3.out.drew le2 lk2 ex2 hol2 (fun _ => (row2 HHH.out.1).row) arm2 rng2 ff2 rlt2 ((Foot.later b4).mono fun i hi => hi) KF4 (by have : w1.drew.heap.size = w1.heap.size := rfl; have := HQ3.out; omega) (fun h => absurd h (by have := HQ3.out; omega)))⟩
    · simp only [List.getElem_toArray, List.getElem_cons_succ, List.getElem_cons_zero]
      try go_simp
      have bS : Below w1.heap.size w1 (w1.alloc (.cells #[.bool false, .bool false, .int .i64 0, .int .i64 0, .int .i64 0] 255)).drew := (Below.alloc (Below.refl _ _) (Nat.le_refl _) _).drew
      have KF : Blk (w1.alloc (.cells #[.bool false, .bool false, .int .i64 0, .int .i64 0, .int .i64 0] 255)).drew w1.heap.size 255 #[.bool false, .bool false, .int .i64 0, .int .i64 0, .int .i64 0] := (Blk.new _ _ _).drew
      refine hK.out _ (w1.alloc (.cells #[.bool false, .bool false, .int .i64 0, .int .i64 0, .int .i64 0] 255)).drew (MK.out _ (Blk.later HH.out.blk bS)) (fun _ => ?_)
      clear hK KK
      try simp only [Act.put, List.setIfInBounds_toArray, List.set_cons_zero, List.set_cons_succ]
      obtain ⟨q3, hq3⟩ : ∃ q3, w1.heap.size = q3 := ⟨_, rfl⟩
      obtain ⟨wS, hwS⟩ : ∃ wS, wS = (w1.alloc (.cells #[.bool false, .bool false, .int .i64 0, .int .i64 0, .int .i64 0] 255)).drew := ⟨_, rfl⟩
      rw [← hwS, hq3] at KF
      rw [← hwS] at bS
      rw [← hwS]
      try rw [show w1.drew.heap.size = q3 from hq3]
      try rw [hq3]
      have HQ3 := Lib.hid hq3
      clear hwS hq3 d hr
      refine wpAnyH_mix (n := 0) (by kernel_rfl) (NP _) [8, 10] (pickL [8, 10] _) _ _ _ (pickL_map (by kernel_rfl)) (by kernel_rfl) (MK.out _ (Blk.later HH.out.blk bS)) ?_
      simp only [pickL, List.filterMap_cons, List.filterMap_nil, List.getElem?_cons_zero, List.getElem?_cons_succ]
      refine mix_lone (by rfl) (by rfl) (fun KK hK => ?_)
      try go_simp
      refine (FL.out _ bS).mono ?_; rintro e w2 ⟨lab2, bv2, ar2, f2, rfl, le2, lk2, ex2, hol2, row2, arm2, rng2, ff2, rlt2⟩
      try go_wp2_with fail
      have HB2 := HXD.out _ w2 bS ff2
      refine hK.out _ w2 (MK.out _ HB2) (fun _ => ?_)
      clear hK KK
      try simp only [Act.put, List.setIfInBounds_toArray, List.set_cons_zero, List.set_cons_succ]
      have szw := B1.out.size
      have z3 : labNew lab w 0 q3 = 0 := labNew_new (by have := HQ3.out; omega)
      have KF2 := KF.foot ff2 (by rw [z3]; intro e; have := e.1; omega)
      refine mix_lone (by rfl) (by rfl) (fun KK hK => ?_)
      have dF := KF2.at5
      have hr3 := Below.refl w2.heap.size w2
      try go_simp
      have f4 := foot_set5 (F := fun i => i = q3) (Foot.refl _ w2) rfl (.bool T.isHit) (.bool T.isFull) (.int .i64 0) (.int .i64 T.gone) (.int .i64 T.read)
      have KF4 := blk_set5' KF2 (.bool T.isHit) (.bool T.isFull) (.int .i64 0) (.int .i64 T.gone) (.int .i64 T.read)
      have hxq : b.x ≠ q3 := by have := HX.out; have := HQ3.out; omega
      refine hK.out _ _ (MK.out _ (Blk.foot HB2 f4 hxq)) (fun _ => ?_)
      clear hK KK
      refine mix_end (fun _ => any_done (by kernel_rfl) ?_)
      try simp only [Act.put, List.setIfInBounds_toArray, List.set_cons_zero, List.set_cons_succ]
      go_wp2_with fail
      go_meet
      have lc := K3.out.lt
      exact ⟨_, rfl, Lib.hid (LkJ.mk (HH.out.later bS) hp (B1.out.up bS) HQ.out (Blk.later K1.out bS) (Blk.later K2.out bS) (Blk.later K3.out bS) le2 lk2 ex2 hol2 (fun _ => (row2 HHH.out.1).row) arm2 rng2 ff2 rlt2 f4 KF4 (by have := HQ3.out; omega) (fun h => (le2 q3 KF.lt).trans z3))⟩
  case rest =>
  obtain ⟨q3, rfl, HJ⟩ := hcut
  obtain ⟨lab3, b3, ex3, H3, le3, f3k, KA, KB, KC, KF, hz, hq3, hq⟩ := HJ.out
  have f3 : Foot (fun i => isD (lab i)) w wc := f3k.mono fun i e => ⟨e.1, by have := e.2; omega⟩
  have F3K := Lib.hid f3k
  clear f3k
  have dA := KA.at6
  have dF := KF.at5
  have hr := Below.refl wc.heap.size wc
  rw [HHH.out.1, HHH.out.2.1] at dF
  have hxq : ∀ i, i = q ∨ i = q + 1 ∨ i = q + 1 + 1 ∨ i = q3 → i < wc.heap.size → b.x ≠ i := fun i hi hl e => by
    refine hz i ?_ hl hi ?_
    · rcases hi with h | h | h | h <;> omega
    · rw [← e, ← ex3, H3.lab.x]; exact ⟨by omega, by omega⟩
  have H3 := Lib.hid H3
  have KB := Lib.hid KB
  have HQQ := Lib.hid (And.intro hq3 hq)
  have LE3 := Lib.hid le3
  have F3 := Lib.hid f3
  have HZQ := Lib.hid hz
  have EX3 := Lib.hid ex3
  have HXQ := Lib.hid hxq
  clear HJ le3 f3 hz hq3 hq ex3 hxq FL MK HXD K1 K2 K3
  have K4 := KA.set_ 4 (.int .i64 T.read)
  have f4 : Foot (fun i => i = q ∨ i = q + 1 + 1) wc (wc.setCell ⟨q, 4, none⟩ (.int .i64 T.read)) := foot_set (fun i => i = q ∨ i = q + 1 + 1) (Foot.refl _ wc) q 4 (.inl rfl) _
  have KF4 := KF.foot f4 (by have := HQQ.out; omega)
  have KC4 := KC.far (p := ⟨q, 4, none⟩) (by show q + 1 + 1 ≠ q; omega) (.int .i64 T.read)
  have K4' : Blk (wc.setCell ⟨q, 4, none⟩ (.int .i64 T.read)) q 67 #[.int .i64 s.tick, .int .i64 s.at_, .int .i64 s.what, .int .i64 s.arm, .int .i64 T.read, .int .i64 s.st] := by simpa using K4
  have H4 := H3.out.foot f4 (fun i hi e => by
    have := HQQ.out
    have hl := KA.lt
    have hl2 := KC.lt
    rcases e with e | e
    · rw [e] at hi; exact HZQ.out q (by omega) hl (.inl rfl) hi
    · rw [e] at hi; exact HZQ.out (q + 1 + 1) (by omega) hl2 (.inr (.inr (.inl rfl))) hi)
  have HB4 : DiB (wc.setCell ⟨q, 4, none⟩ (.int .i64 T.read)) b.x _ := EX3.out ▸ H4.blk
  obtain ⟨w4, hw4⟩ : ∃ w4, w4 = wc.setCell ⟨q, 4, none⟩ (.int .i64 T.read) := ⟨_, rfl⟩
  rw [← hw4] at K4' f4 KF4 KC4 H4 HB4
  have HW4 := Lib.hid hw4
  clear hw4 K4
  go_upto_region 4 with fail
  rw [← HW4.out]
  clear dA dF hr
  have d : ∀ w', Below w4.heap.size w4 w' → w'.cell? ⟨b.x, 19, none⟩ = some (.bool false) ∧ w'.cell? ⟨b.x, 13, none⟩ = some (.int .i64 t.un) ∧ w'.cell? ⟨b.x, 14, none⟩ = some (.int .i64 t.li) ∧ w'.cell? ⟨b.x, 15, none⟩ = some (.int .i64 t.cu) ∧ w'.cell? ⟨b.x, 20, none⟩ = some (.int .i64 t.now) := fun w' hw => by
    have k := Blk.later HB4 hw
    exact ⟨k.cell 19, k.cell 13, k.cell 14, k.cell 15, k.cell 20⟩
  have dF := KF4.at5
  have hr := Below.refl w4.heap.size w4
  rw [HHH.out.1, HHH.out.2.1] at dF
  have FW : Hid (∀ w, Calls Tryz.prog 133 #[.agg #[.int .i64 t.un, .int .i64 t.li, .int .i64 t.cu], .int .i64 t.now] w fun e w' => e = .returned (.bool false) ∧ Below w.heap.size w w') := Lib.hid fun w => by have := dWoken t.un t.li t.cu t.now w; rw [HHH.out.2.2] at this; exact this
  go_upto_region 13 with fail
  refine wp_region_later w4.heap.size (by kernel_rfl) (by kernel_rfl) ?_
  have hu : ∀ u : Later w4.heap.size w4, Below w4.heap.size w4 u.world := Later.below
  repeat (go_big_quiet_step ((first | (go_at_call 133; exact later_below (Nat.le_refl _) (FW.out _)))))
  refine wpQuiet_nil ?_
  intro w5 b5
  have K5 := Blk.later K4' b5
  have KC5 := KC4.later b5
  have H5 := Lib.hid (H4.later b5)
  have F5 := Lib.hid (f4.up b5)
  clear d dF hr hu
  have dA := K5.at6
  have dC := KC5.at6
  have hr := Below.refl w5.heap.size w5
  go_wp2_with fail
  have ff := foot_set6 (F := fun i => i = q ∨ i = q + 1 + 1) (foot_set (fun i => i = q ∨ i = q + 1 + 1) (Foot.refl _ w5) q 2 (.inl rfl) (.int .i64 1)) (.inr rfl) (.int .i64 s.tick) (.int .i64 s.at_) (.int .i64 1) (.int .i64 s.arm) (.int .i64 T.read) (.int .i64 s.st)
  (try simp only [Exit.inBlock, Exit.then])
  refine bodyPost_ret (v := .agg #[.int .i64 s.tick, .int .i64 s.at_, .int .i64 1, .int .i64 s.arm, .int .i64 T.read, .int .i64 s.st]) ?_ rfl ⟨lab3, b3, rfl, LE3.out, ?_, EX3.out, ?_⟩
  · rw [results_cell_one rfl]
    go_simp
  · refine H5.out.foot ff (fun i hi e => ?_)
    have := HQQ.out
    have hl := KA.lt
    have hl2 := KC.lt
    rcases e with e | e
    · rw [e] at hi; exact HZQ.out q (by omega) hl (.inl rfl) hi
    · rw [e] at hi; exact HZQ.out (q + 1 + 1) (by omega) hl2 (.inr (.inr (.inl rfl))) hi
  · have := HQQ.out
    exact (F3.out.then F5.out (fun i hi e => by omega)).then ff (fun i hi e => by omega)

set_option maxRecDepth 100000 in
set_option maxHeartbeats 1500000 in
theorem loFull {w : World} {lab : Nat → Nat} {b : DB} {c : ScT} {t : DT} {p : Pat} {T : LkT} (h : DiaR w lab b c t) (hp : t.pat = some p) (hlv : t.lv = true) (hT : lookT c.n t.win p t.inb 0 = T) (hh : T.isHit = false) (hf : T.isFull = true) (s : StT) {nn : Int} {ao : Option Addr} {mm cc : Nat} : Calls Tryz.prog 154 #[.pointer (some ⟨b.x, 0, none⟩), .agg s.cells, .agg #[.int .i64 2, .string ⟨#[]⟩, .int .i64 nn, .int .i64 0, .slice ao mm cc, .int .i64 (-1), .int .i64 (-1)]] w fun e w' => e = .returned (.agg #[.int .i64 s.tick, .int .i64 s.at_, .int .i64 13, .int .i64 s.arm, .int .i64 T.read, .int .i64 s.st]) ∧ DiE w' b.x 4 ∧ Foot (fun i => isD (lab i)) w w' := by
  unfold StT.cells
  obtain ⟨q, hq⟩ : ∃ q, w.heap.size = q := ⟨_, rfl⟩
  obtain ⟨w1, hw1⟩ : ∃ w1, w1 = ((w.alloc (.cells #[.int .i64 s.tick, .int .i64 s.at_, .int .i64 s.what, .int .i64 s.arm, .int .i64 s.n, .int .i64 s.st] 67)).alloc (.cells #[.int .i64 2, .string ⟨#[]⟩, .int .i64 nn, .int .i64 0, .slice ao mm cc, .int .i64 (-1), .int .i64 (-1)] 29)).alloc (.cells #[.int .i64 0, .int .i64 0, .int .i64 0, .int .i64 0, .int .i64 0, .int .i64 0] 67) := ⟨_, rfl⟩
  have b1 : Below w.heap.size w w1 := by rw [hw1]; exact (((Below.refl _ _).alloc (Nat.le_refl _) _).alloc (by simp) _).alloc (by simp <;> omega) _
  have K1 : Blk w1 q 67 #[.int .i64 s.tick, .int .i64 s.at_, .int .i64 s.what, .int .i64 s.arm, .int .i64 s.n, .int .i64 s.st] := by rw [hw1, ← hq]; exact ((Blk.new _ _ _).alloc _).alloc _
  have K2 : Blk w1 (q + 1) 29 #[.int .i64 2, .string ⟨#[]⟩, .int .i64 nn, .int .i64 0, .slice ao mm cc, .int .i64 (-1), .int .i64 (-1)] := by
    rw [hw1, ← hq]
    have := (Blk.new (w.alloc (.cells #[.int .i64 s.tick, .int .i64 s.at_, .int .i64 s.what, .int .i64 s.arm, .int .i64 s.n, .int .i64 s.st] 67)) 29 #[.int .i64 2, .string ⟨#[]⟩, .int .i64 nn, .int .i64 0, .slice ao mm cc, .int .i64 (-1), .int .i64 (-1)]).alloc (.cells #[.int .i64 0, .int .i64 0, .int .i64 0, .int .i64 0, .int .i64 0, .int .i64 0] 67)
    simpa using this
  have K3 : Blk w1 (q + 1 + 1) 67 #[.int .i64 0, .int .i64 0, .int .i64 0, .int .i64 0, .int .i64 0, .int .i64 0] := by
    rw [hw1, ← hq]
    have := Blk.new ((w.alloc (.cells #[.int .i64 s.tick, .int .i64 s.at_, .int .i64 s.what, .int .i64 s.arm, .int .i64 s.n, .int .i64 s.st] 67)).alloc (.cells #[.int .i64 2, .string ⟨#[]⟩, .int .i64 nn, .int .i64 0, .slice ao mm cc, .int .i64 (-1), .int .i64 (-1)] 29)) 67 #[.int .i64 0, .int .i64 0, .int .i64 0, .int .i64 0, .int .i64 0, .int .i64 0]
    simpa using this
  have e1 := labNew_eq lab w 0
  have H1 := (h.relab e1).later b1
  have hx := h.lt.1
  have HQ := Lib.hid hq
  have HW1 := Lib.hid hw1
  have E1 := Lib.hid e1
  have B1 := Lib.hid b1
  have HN := Lib.hid h.lab
  have HX := Lib.hid hx
  have n1 := H1.lab
  have FL : Hid (∀ wS, Below w1.heap.size w1 wS → Calls Tryz.prog 178 #[.pointer (some ⟨b.hx, 0, none⟩), .pointer (some ⟨b.rx, 0, none⟩)] wS fun e w' => ∃ lab' bv' b' f', e = .returned (.agg #[.bool T.isHit, .bool T.isFull, .int .i64 0, .int .i64 T.gone, .int .i64 T.read]) ∧ LabEq (labNew lab w 0) lab' wS ∧ LkLab lab' b.hx bv' b' b.rx b.ra ∧ b'.x = b.ar.x ∧
      HolV w' b.hx bv' c.n T.l.length T.l.length (.pointer (some ⟨b.ar.x, 0, none⟩)) ∧ (T.isHit = false → HolR w' b.hx bv' c.n T.l T.l.length (.pointer (some ⟨b.ar.x, 0, none⟩))) ∧
      ArmS w' b' T.p ∧ Rng w' b.rx b.ra c.r f' T.s ∧ Foot (fun i => isLk (labNew lab w 0 i)) wS w' ∧ (∀ g, bv'.ownBlock = some g → g < w'.heap.size)) := Lib.hid fun wS hb => by
    have H1d := H1.later hb
    have FLt := hoLook (lab := labNew lab w 0) ⟨by have := H1d.hol; rw [hp] at this; exact this, H1d.row hlv, fun e => by have h1 := lab_inj (n1.row _ e) n1.hx rfl; omega⟩ (H1d.arm p hp) H1d.rng ⟨n1.hx, n1.row, n1.arms (by rw [hp]; rfl), n1.rx, n1.ra⟩
    rw [hT] at FLt
    exact FLt
  have HH := Lib.hid H1
  have K1 := Lib.hid K1
  have K2 := Lib.hid K2
  have K3 := Lib.hid K3
  have d : ∀ w', Below w1.heap.size w1 w' → w'.cell? ⟨b.x, 17, none⟩ = some (.pointer (some ⟨b.hx, 0, none⟩)) ∧ w'.cell? ⟨b.x, 16, none⟩ = some (.pointer (some ⟨b.rx, 0, none⟩)) := fun w' hw => by
    have k := Blk.later H1.blk hw
    exact ⟨k.cell 17, k.cell 16⟩
  have hr := Below.refl w1.heap.size w1
  have MK : Hid (∀ w', DiB w' b.x (t.dc c b 0) → w'.cell? ⟨b.x, 17, none⟩ = some (.pointer (some ⟨b.hx, 0, none⟩)) ∧ w'.cell? ⟨b.x, 16, none⟩ = some (.pointer (some ⟨b.rx, 0, none⟩))) := Lib.hid fun w' k => ⟨Blk.cell k 17, Blk.cell k 16⟩
  have HXD : Hid (∀ wS w2, Below w1.heap.size w1 wS → Foot (fun i => isLk (labNew lab w 0 i)) wS w2 → DiB w2 b.x (t.dc c b 0)) := Lib.hid fun wS w2 hb ff => Blk.foot (Blk.later HH.out.blk hb) ff (fun e => by rw [labNew_old HX.out, HN.out.x] at e; have := e.2; omega)
  have HHH := Lib.hid (And.intro hh hf)
  clear hh hf
  clear h hw1 hq e1 b1 H1 n1 hx
  go_enter Tryz.func154, Tryz.ntmps154
  go_upto_region 1 with fail
  rw [← HW1.out, HQ.out]
  go_cut [7] (fun v wx => ∃ q3 : Nat, v = .pointer (some ⟨q3, 0, none⟩) ∧ Hid (LkJ w wx lab b c t T true q q3 s nn ao mm cc))
  case first =>
    have hbS := Below.alloc (Below.refl w1.heap.size w1) (Nat.le_refl _) (.cells #[.bool false, .bool false, .int .i64 0, .int .i64 0, .int .i64 0] 255)
    have NP : ∀ (X : Exit → Act → World → Prop) c a t v w, NoPanic X (.panic c) (Act.put a t v) w → NoPanic X (.panic c) a w := fun _ _ _ _ _ _ h => h
    have HSD := Lib.hid (MK.out _ (Blk.drew HH.out.blk))
    refine wp_region_by (S := fun w' => w'.cell? ⟨b.x, 17, none⟩ = some (.pointer (some ⟨b.hx, 0, none⟩)) ∧ w'.cell? ⟨b.x, 16, none⟩ = some (.pointer (some ⟨b.rx, 0, none⟩))) (by kernel_rfl) ?_
    refine wpAnyH_mix (n := 3) (by kernel_rfl) (NP _) [0, 1, 2, 3, 4, 5, 6, 7] (pickL [0, 1, 2, 3, 4, 5, 6, 7] _) _ _ _ (pickL_map (by kernel_rfl)) (by kernel_rfl) HSD.out ?_
    simp only [pickL, List.filterMap_cons, List.filterMap_nil, List.getElem?_cons_zero, List.getElem?_cons_succ]
    repeat (refine mix_take (v := ?_) (by rfl) (by rfl) ?_ ?_; rotate_left; (focus (intro w hSw; (try dsimp only at hSw); go_simp; (try with_reducible rfl))); simp only [Act.put, List.setIfInBounds_toArray, List.set_cons_zero, List.set_cons_succ])
    refine mix_end (fun _ => ?_)
    refine wpAnyH_both (i := 8) (j := 9) (by kernel_rfl) (by rfl) (by rfl) (by rfl) (by rfl) (fun KK hK => ?_) (fun KK hK => ?_)
    · simp only [List.getElem_toArray, List.getElem_cons_succ, List.getElem_cons_zero]
      try go_simp
      have D1 : Below w1.heap.size w1 w1.drew := (Below.refl _ _).drew
      refine (FL.out _ D1).mono ?_; rintro e w2 ⟨lab2, bv2, ar2, f2, rfl, le2, lk2, ex2, hol2, row2, arm2, rng2, ff2, rlt2⟩
      try go_wp2_with fail
      have HB2 := HXD.out _ w2 D1 ff2
      refine hK.out _ _ (MK.out _ HB2) (fun _ => ?_)
      clear hK KK
      try simp only [Act.put, List.setIfInBounds_toArray, List.set_cons_zero, List.set_cons_succ]
      refine wpAnyH_mix (n := 0) (by kernel_rfl) (NP _) [9, 10] (pickL [9, 10] _) _ _ _ (pickL_map (by kernel_rfl)) (by kernel_rfl) (MK.out _ HB2) ?_
      simp only [pickL, List.filterMap_cons, List.filterMap_nil, List.getElem?_cons_zero, List.getElem?_cons_succ]
      refine mix_lone (by rfl) (by rfl) (fun KK hK => ?_)
      try go_simp
      have b3 : Below w2.heap.size w2 (w2.alloc (.cells #[.bool false, .bool false, .int .i64 0, .int .i64 0, .int .i64 0] 255)) := Below.alloc (Below.refl _ _) (Nat.le_refl _) _
      have KF : Blk (w2.alloc (.cells #[.bool false, .bool false, .int .i64 0, .int .i64 0, .int .i64 0] 255)) w2.heap.size 255 #[.bool false, .bool false, .int .i64 0, .int .i64 0, .int .i64 0] := Blk.new _ _ _
      refine hK.out _ (w2.alloc (.cells #[.bool false, .bool false, .int .i64 0, .int .i64 0, .int .i64 0] 255)) (MK.out _ (Blk.later HB2 b3)) (fun _ => ?_)
      clear hK KK
      try simp only [Act.put, List.setIfInBounds_toArray, List.set_cons_zero, List.set_cons_succ]
      obtain ⟨q3, hq3⟩ : ∃ q3, w2.heap.size = q3 := ⟨_, rfl⟩
      obtain ⟨w3, hw3⟩ : ∃ w3, w3 = w2.alloc (.cells #[.bool false, .bool false, .int .i64 0, .int .i64 0, .int .i64 0] 255) := ⟨_, rfl⟩
      rw [← hw3, hq3] at KF
      rw [← hw3] at b3
      rw [← hw3]
      rw [hq3]
      have HQ3 := Lib.hid hq3
      clear hw3 hq3
      refine mix_lone (by rfl) (by rfl) (fun KK hK => ?_)
      have dF := KF.at5
      have hr3 := Below.refl w3.heap.size w3
      try go_simp
      have b4 := below_set5 b3 (show w2.heap.size ≤ q3 by have := HQ3.out; omega) (.bool T.isHit) (.bool T.isFull) (.int .i64 0) (.int .i64 T.gone) (.int .i64 T.read)
      have KF4 := blk_set5' KF (.bool T.isHit) (.bool T.isFull) (.int .i64 0) (.int .i64 T.gone) (.int .i64 T.read)
      refine hK.out _ _ (MK.out _ (Blk.later HB2 b4)) (fun _ => ?_)
      clear hK KK
      refine mix_end (fun _ => any_done (by kernel_rfl) ?_)
      try simp only [Act.put, List.setIfInBounds_toArray, List.set_cons_zero, List.set_cons_succ]
      go_wp2_with fail
      go_meet
      have s2 := ff2.size
      have lc := K3.out.lt
      exact ⟨_, rfl, Lib.hid (LkJ.mk (HH.out.later D1) hp (B1.out.up D1) HQ.out K1.out.drew K2.out.drew K3.out.drew le2 lk2 ex2 hol2 (fun _ => (row2 HHH.out.1).row) arm2 rng2 ff2 rlt2 ((Foot.later b4).mono fun i hi => hi) KF4 (by have : w1.drew.heap.size = w1.heap.size := rfl; have := HQ3.out; omega) (fun h => absurd h (by have := HQ3.out; omega)))⟩
    · simp only [List.getElem_toArray, List.getElem_cons_succ, List.getElem_cons_zero]
      try go_simp
      have bS : Below w1.heap.size w1 (w1.alloc (.cells #[.bool false, .bool false, .int .i64 0, .int .i64 0, .int .i64 0] 255)).drew := (Below.alloc (Below.refl _ _) (Nat.le_refl _) _).drew
      have KF : Blk (w1.alloc (.cells #[.bool false, .bool false, .int .i64 0, .int .i64 0, .int .i64 0] 255)).drew w1.heap.size 255 #[.bool false, .bool false, .int .i64 0, .int .i64 0, .int .i64 0] := (Blk.new _ _ _).drew
      refine hK.out _ (w1.alloc (.cells #[.bool false, .bool false, .int .i64 0, .int .i64 0, .int .i64 0] 255)).drew (MK.out _ (Blk.later HH.out.blk bS)) (fun _ => ?_)
      clear hK KK
      try simp only [Act.put, List.setIfInBounds_toArray, List.set_cons_zero, List.set_cons_succ]
      obtain ⟨q3, hq3⟩ : ∃ q3, w1.heap.size = q3 := ⟨_, rfl⟩
      obtain ⟨wS, hwS⟩ : ∃ wS, wS = (w1.alloc (.cells #[.bool false, .bool false, .int .i64 0, .int .i64 0, .int .i64 0] 255)).drew := ⟨_, rfl⟩
      rw [← hwS, hq3] at KF
      rw [← hwS] at bS
      rw [← hwS]
      try rw [show w1.drew.heap.size = q3 from hq3]
      try rw [hq3]
      have HQ3 := Lib.hid hq3
      clear hwS hq3 d hr
      refine wpAnyH_mix (n := 0) (by kernel_rfl) (NP _) [8, 10] (pickL [8, 10] _) _ _ _ (pickL_map (by kernel_rfl)) (by kernel_rfl) (MK.out _ (Blk.later HH.out.blk bS)) ?_
      simp only [pickL, List.filterMap_cons, List.filterMap_nil, List.getElem?_cons_zero, List.getElem?_cons_succ]
      refine mix_lone (by rfl) (by rfl) (fun KK hK => ?_)
      try go_simp
      refine (FL.out _ bS).mono ?_; rintro e w2 ⟨lab2, bv2, ar2, f2, rfl, le2, lk2, ex2, hol2, row2, arm2, rng2, ff2, rlt2⟩
      try go_wp2_with fail
      have HB2 := HXD.out _ w2 bS ff2
      refine hK.out _ w2 (MK.out _ HB2) (fun _ => ?_)
      clear hK KK
      try simp only [Act.put, List.setIfInBounds_toArray, List.set_cons_zero, List.set_cons_succ]
      have szw := B1.out.size
      have z3 : labNew lab w 0 q3 = 0 := labNew_new (by have := HQ3.out; omega)
      have KF2 := KF.foot ff2 (by rw [z3]; intro e; have := e.1; omega)
      refine mix_lone (by rfl) (by rfl) (fun KK hK => ?_)
      have dF := KF2.at5
      have hr3 := Below.refl w2.heap.size w2
      try go_simp
      have f4 := foot_set5 (F := fun i => i = q3) (Foot.refl _ w2) rfl (.bool T.isHit) (.bool T.isFull) (.int .i64 0) (.int .i64 T.gone) (.int .i64 T.read)
      have KF4 := blk_set5' KF2 (.bool T.isHit) (.bool T.isFull) (.int .i64 0) (.int .i64 T.gone) (.int .i64 T.read)
      have hxq : b.x ≠ q3 := by have := HX.out; have := HQ3.out; omega
      refine hK.out _ _ (MK.out _ (Blk.foot HB2 f4 hxq)) (fun _ => ?_)
      clear hK KK
      refine mix_end (fun _ => any_done (by kernel_rfl) ?_)
      try simp only [Act.put, List.setIfInBounds_toArray, List.set_cons_zero, List.set_cons_succ]
      go_wp2_with fail
      go_meet
      have lc := K3.out.lt
      exact ⟨_, rfl, Lib.hid (LkJ.mk (HH.out.later bS) hp (B1.out.up bS) HQ.out (Blk.later K1.out bS) (Blk.later K2.out bS) (Blk.later K3.out bS) le2 lk2 ex2 hol2 (fun _ => (row2 HHH.out.1).row) arm2 rng2 ff2 rlt2 f4 KF4 (by have := HQ3.out; omega) (fun h => (le2 q3 KF.lt).trans z3))⟩
  case rest =>
  obtain ⟨q3, rfl, HJ⟩ := hcut
  obtain ⟨lab3, b3, ex3, H3, le3, f3k, KA, KB, KC, KF, hz, hq3, hq⟩ := HJ.out
  have f3 : Foot (fun i => isD (lab i)) w wc := f3k.mono fun i e => ⟨e.1, by have := e.2; omega⟩
  have F3K := Lib.hid f3k
  clear f3k
  have dA := KA.at6
  have dF := KF.at5
  have hr := Below.refl wc.heap.size wc
  rw [HHH.out.1, HHH.out.2] at dF
  have H3 := Lib.hid H3
  have KB := Lib.hid KB
  have HQQ := Lib.hid (And.intro hq3 hq)
  have LE3 := Lib.hid le3
  have F3 := Lib.hid f3
  have HZQ := Lib.hid hz
  have EX3 := Lib.hid ex3
  clear HJ le3 f3 hz hq3 hq ex3 FL MK HXD K1 K2 K3
  have K4 := KA.set_ 4 (.int .i64 T.read)
  have f4 : Foot (fun i => i = q ∨ i = q + 1 + 1) wc (wc.setCell ⟨q, 4, none⟩ (.int .i64 T.read)) := foot_set (fun i => i = q ∨ i = q + 1 + 1) (Foot.refl _ wc) q 4 (.inl rfl) _
  have KF4 := KF.foot f4 (by have := HQQ.out; omega)
  have KC4 := KC.far (p := ⟨q, 4, none⟩) (by show q + 1 + 1 ≠ q; omega) (.int .i64 T.read)
  have K4' : Blk (wc.setCell ⟨q, 4, none⟩ (.int .i64 T.read)) q 67 #[.int .i64 s.tick, .int .i64 s.at_, .int .i64 s.what, .int .i64 s.arm, .int .i64 T.read, .int .i64 s.st] := by simpa using K4
  have H4 := H3.out.foot f4 (fun i hi e => by
    have := HQQ.out
    have hl := KA.lt
    have hl2 := KC.lt
    rcases e with e | e
    · rw [e] at hi; exact HZQ.out q (by omega) hl (.inl rfl) hi
    · rw [e] at hi; exact HZQ.out (q + 1 + 1) (by omega) hl2 (.inr (.inr (.inl rfl))) hi)
  have HB4 : DiB (wc.setCell ⟨q, 4, none⟩ (.int .i64 T.read)) b.x _ := EX3.out ▸ H4.blk
  obtain ⟨w4, hw4⟩ : ∃ w4, w4 = wc.setCell ⟨q, 4, none⟩ (.int .i64 T.read) := ⟨_, rfl⟩
  rw [← hw4] at K4' f4 KF4 KC4 H4 HB4
  have HW4 := Lib.hid hw4
  clear hw4 K4
  go_upto_region 4 with fail
  rw [← HW4.out]
  clear dA dF hr
  have dA := K4'.at6
  have dF := KF4.at5
  have hr := Below.refl w4.heap.size w4
  rw [HHH.out.1, HHH.out.2] at dF
  have K5 := K4'.set_ 2 (.int .i64 13)
  have f5 : Foot (fun i => i = q ∨ i = q + 1 + 1) w4 (w4.setCell ⟨q, 2, none⟩ (.int .i64 13)) := foot_set (fun i => i = q ∨ i = q + 1 + 1) (Foot.refl _ w4) q 2 (.inl rfl) _
  have K5' : Blk (w4.setCell ⟨q, 2, none⟩ (.int .i64 13)) q 67 #[.int .i64 s.tick, .int .i64 s.at_, .int .i64 13, .int .i64 s.arm, .int .i64 T.read, .int .i64 s.st] := by simpa using K5
  have hxl := HX.out
  have HB5 := Blk.foot HB4 f5 (by have := HQQ.out; omega)
  have KC5 := KC4.far (p := ⟨q, 2, none⟩) (by show q + 1 + 1 ≠ q; omega) (.int .i64 13)
  obtain ⟨w5, hw5⟩ : ∃ w5, w5 = w4.setCell ⟨q, 2, none⟩ (.int .i64 13) := ⟨_, rfl⟩
  rw [← hw5] at K5' f5 HB5 KC5
  have FS := Lib.hid (diStop HB5 (r := c.r) (n := c.n) (o := c.o) ⟨rfl, rfl, rfl⟩ H4.ok.r H4.ok.n 4)
  have HW5 := Lib.hid hw5
  have F5 := Lib.hid (f4.trans f5)
  clear hw5 K5
  go_upto_region 9 with fail
  rw [← HW5.out]
  clear dA dF hr
  go_wp2_with fail
  refine FS.out.mono ?_; rintro e w6 ⟨rfl, e6, f6⟩
  have nq : q ≠ b.x ∧ q + 1 + 1 ≠ b.x := by have := HQQ.out; omega
  have KA6 := K5'.foot f6 nq.1
  have KC6 := KC5.foot f6 nq.2
  have dA := KA6.at6
  have dC := KC6.at6
  have hr := Below.refl w6.heap.size w6
  go_wp2_with fail
  have ff := foot_set6 (F := fun i => i = q + 1 + 1) (Foot.refl _ w6) rfl (.int .i64 s.tick) (.int .i64 s.at_) (.int .i64 13) (.int .i64 s.arm) (.int .i64 T.read) (.int .i64 s.st)
  (try simp only [Exit.inBlock, Exit.then])
  refine bodyPost_ret (v := .agg #[.int .i64 s.tick, .int .i64 s.at_, .int .i64 13, .int .i64 s.arm, .int .i64 T.read, .int .i64 s.st]) ?_ rfl ⟨rfl, ?_, ?_⟩
  · rw [results_cell_one rfl]
    go_simp
  · obtain ⟨d6, h6, e6⟩ := e6
    exact ⟨d6, Blk.foot h6 ff (Ne.symm nq.2), e6⟩
  · have := HQQ.out
    exact ((F3.out.then F5.out (fun i hi e => by omega)).then f6 (fun i hi e => by rw [e, HN.out.x]; exact ⟨by omega, by omega⟩)).then ff (fun i hi e => by omega)

set_option maxRecDepth 100000 in
set_option maxHeartbeats 1500000 in
theorem loHit {w : World} {lab : Nat → Nat} {b : DB} {c : ScT} {t : DT} {p : Pat} {T : LkT} (h : DiaR w lab b c t) (hp : t.pat = some p) (hlv : t.lv = true) (hT : lookT c.n t.win p t.inb 0 = T) (hh : T.isHit = true) (hj : t.ju < c.jm) (s : StT) {nn : Int} {ao : Option Addr} {mm cc : Nat} {ag : Nat} (hao : ao = some ⟨ag, 0, none⟩) (hmm : mm = 1) (hag : ag < w.heap.size ∧ w.cell? ⟨ag, 1, none⟩ = some (.int .i64 2)) (hnd : ¬ isLk (lab ag)) : Calls Tryz.prog 154 #[.pointer (some ⟨b.x, 0, none⟩), .agg s.cells, .agg #[.int .i64 2, .string ⟨#[]⟩, .int .i64 nn, .int .i64 0, .slice ao mm cc, .int .i64 (-1), .int .i64 (-1)]] w fun e w' => ∃ lab' b', e = .returned (.agg #[.int .i64 s.tick, .int .i64 s.at_, .int .i64 2, .int .i64 0, .int .i64 T.gone, .int .i64 s.st]) ∧ LabEq lab lab' w ∧ DiaR w' lab' b' c (comeT c { t with inb := T.s, win := T.l, pat := some T.p, lv := false, ju := t.ju + 1 } 2) ∧ b'.x = b.x ∧ Foot (fun i => isD (lab i)) w w' := by
  unfold StT.cells
  obtain ⟨q, hq⟩ : ∃ q, w.heap.size = q := ⟨_, rfl⟩
  obtain ⟨w1, hw1⟩ : ∃ w1, w1 = ((w.alloc (.cells #[.int .i64 s.tick, .int .i64 s.at_, .int .i64 s.what, .int .i64 s.arm, .int .i64 s.n, .int .i64 s.st] 67)).alloc (.cells #[.int .i64 2, .string ⟨#[]⟩, .int .i64 nn, .int .i64 0, .slice ao mm cc, .int .i64 (-1), .int .i64 (-1)] 29)).alloc (.cells #[.int .i64 0, .int .i64 0, .int .i64 0, .int .i64 0, .int .i64 0, .int .i64 0] 67) := ⟨_, rfl⟩
  have b1 : Below w.heap.size w w1 := by rw [hw1]; exact (((Below.refl _ _).alloc (Nat.le_refl _) _).alloc (by simp) _).alloc (by simp <;> omega) _
  have K1 : Blk w1 q 67 #[.int .i64 s.tick, .int .i64 s.at_, .int .i64 s.what, .int .i64 s.arm, .int .i64 s.n, .int .i64 s.st] := by rw [hw1, ← hq]; exact ((Blk.new _ _ _).alloc _).alloc _
  have K2 : Blk w1 (q + 1) 29 #[.int .i64 2, .string ⟨#[]⟩, .int .i64 nn, .int .i64 0, .slice ao mm cc, .int .i64 (-1), .int .i64 (-1)] := by
    rw [hw1, ← hq]
    have := (Blk.new (w.alloc (.cells #[.int .i64 s.tick, .int .i64 s.at_, .int .i64 s.what, .int .i64 s.arm, .int .i64 s.n, .int .i64 s.st] 67)) 29 #[.int .i64 2, .string ⟨#[]⟩, .int .i64 nn, .int .i64 0, .slice ao mm cc, .int .i64 (-1), .int .i64 (-1)]).alloc (.cells #[.int .i64 0, .int .i64 0, .int .i64 0, .int .i64 0, .int .i64 0, .int .i64 0] 67)
    simpa using this
  have K3 : Blk w1 (q + 1 + 1) 67 #[.int .i64 0, .int .i64 0, .int .i64 0, .int .i64 0, .int .i64 0, .int .i64 0] := by
    rw [hw1, ← hq]
    have := Blk.new ((w.alloc (.cells #[.int .i64 s.tick, .int .i64 s.at_, .int .i64 s.what, .int .i64 s.arm, .int .i64 s.n, .int .i64 s.st] 67)).alloc (.cells #[.int .i64 2, .string ⟨#[]⟩, .int .i64 nn, .int .i64 0, .slice ao mm cc, .int .i64 (-1), .int .i64 (-1)] 29)) 67 #[.int .i64 0, .int .i64 0, .int .i64 0, .int .i64 0, .int .i64 0, .int .i64 0]
    simpa using this
  have e1 := labNew_eq lab w 0
  have H1 := (h.relab e1).later b1
  have hx := h.lt.1
  have HQ := Lib.hid hq
  have HW1 := Lib.hid hw1
  have E1 := Lib.hid e1
  have B1 := Lib.hid b1
  have HN := Lib.hid h.lab
  have HX := Lib.hid hx
  have n1 := H1.lab
  have FL : Hid (∀ wS, Below w1.heap.size w1 wS → Calls Tryz.prog 178 #[.pointer (some ⟨b.hx, 0, none⟩), .pointer (some ⟨b.rx, 0, none⟩)] wS fun e w' => ∃ lab' bv' b' f', e = .returned (.agg #[.bool T.isHit, .bool T.isFull, .int .i64 0, .int .i64 T.gone, .int .i64 T.read]) ∧ LabEq (labNew lab w 0) lab' wS ∧ LkLab lab' b.hx bv' b' b.rx b.ra ∧ b'.x = b.ar.x ∧
      HolV w' b.hx bv' c.n T.l.length T.l.length (.pointer (some ⟨b.ar.x, 0, none⟩)) ∧ (T.isHit = false → HolR w' b.hx bv' c.n T.l T.l.length (.pointer (some ⟨b.ar.x, 0, none⟩))) ∧
      ArmS w' b' T.p ∧ Rng w' b.rx b.ra c.r f' T.s ∧ Foot (fun i => isLk (labNew lab w 0 i)) wS w' ∧ (∀ g, bv'.ownBlock = some g → g < w'.heap.size)) := Lib.hid fun wS hb => by
    have H1d := H1.later hb
    have FLt := hoLook (lab := labNew lab w 0) ⟨by have := H1d.hol; rw [hp] at this; exact this, H1d.row hlv, fun e => by have h1 := lab_inj (n1.row _ e) n1.hx rfl; omega⟩ (H1d.arm p hp) H1d.rng ⟨n1.hx, n1.row, n1.arms (by rw [hp]; rfl), n1.rx, n1.ra⟩
    rw [hT] at FLt
    exact FLt
  have HH := Lib.hid H1
  have K1 := Lib.hid K1
  have K2 := Lib.hid K2
  have K3 := Lib.hid K3
  have d : ∀ w', Below w1.heap.size w1 w' → w'.cell? ⟨b.x, 17, none⟩ = some (.pointer (some ⟨b.hx, 0, none⟩)) ∧ w'.cell? ⟨b.x, 16, none⟩ = some (.pointer (some ⟨b.rx, 0, none⟩)) := fun w' hw => by
    have k := Blk.later H1.blk hw
    exact ⟨k.cell 17, k.cell 16⟩
  have hr := Below.refl w1.heap.size w1
  have MK : Hid (∀ w', DiB w' b.x (t.dc c b 0) → w'.cell? ⟨b.x, 17, none⟩ = some (.pointer (some ⟨b.hx, 0, none⟩)) ∧ w'.cell? ⟨b.x, 16, none⟩ = some (.pointer (some ⟨b.rx, 0, none⟩))) := Lib.hid fun w' k => ⟨Blk.cell k 17, Blk.cell k 16⟩
  have HXD : Hid (∀ wS w2, Below w1.heap.size w1 wS → Foot (fun i => isLk (labNew lab w 0 i)) wS w2 → DiB w2 b.x (t.dc c b 0)) := Lib.hid fun wS w2 hb ff => Blk.foot (Blk.later HH.out.blk hb) ff (fun e => by rw [labNew_old HX.out, HN.out.x] at e; have := e.2; omega)
  have HHH := Lib.hid (And.intro hh hj)
  have HAG := Lib.hid (And.intro hag hnd)
  have HAO := Lib.hid (And.intro hao hmm)
  clear hh hj hag hnd hao hmm
  clear h hw1 hq e1 b1 H1 n1 hx
  go_enter Tryz.func154, Tryz.ntmps154
  go_upto_region 1 with fail
  rw [← HW1.out, HQ.out]
  go_cut [7] (fun v wx => ∃ q3 : Nat, v = .pointer (some ⟨q3, 0, none⟩) ∧ Hid (LkJ w wx lab b c t T false q q3 s nn ao mm cc))
  case first =>
    have hbS := Below.alloc (Below.refl w1.heap.size w1) (Nat.le_refl _) (.cells #[.bool false, .bool false, .int .i64 0, .int .i64 0, .int .i64 0] 255)
    have NP : ∀ (X : Exit → Act → World → Prop) c a t v w, NoPanic X (.panic c) (Act.put a t v) w → NoPanic X (.panic c) a w := fun _ _ _ _ _ _ h => h
    have HSD := Lib.hid (MK.out _ (Blk.drew HH.out.blk))
    refine wp_region_by (S := fun w' => w'.cell? ⟨b.x, 17, none⟩ = some (.pointer (some ⟨b.hx, 0, none⟩)) ∧ w'.cell? ⟨b.x, 16, none⟩ = some (.pointer (some ⟨b.rx, 0, none⟩))) (by kernel_rfl) ?_
    refine wpAnyH_mix (n := 3) (by kernel_rfl) (NP _) [0, 1, 2, 3, 4, 5, 6, 7] (pickL [0, 1, 2, 3, 4, 5, 6, 7] _) _ _ _ (pickL_map (by kernel_rfl)) (by kernel_rfl) HSD.out ?_
    simp only [pickL, List.filterMap_cons, List.filterMap_nil, List.getElem?_cons_zero, List.getElem?_cons_succ]
    repeat (refine mix_take (v := ?_) (by rfl) (by rfl) ?_ ?_; rotate_left; (focus (intro w hSw; (try dsimp only at hSw); go_simp; (try with_reducible rfl))); simp only [Act.put, List.setIfInBounds_toArray, List.set_cons_zero, List.set_cons_succ])
    refine mix_end (fun _ => ?_)
    refine wpAnyH_both (i := 8) (j := 9) (by kernel_rfl) (by rfl) (by rfl) (by rfl) (by rfl) (fun KK hK => ?_) (fun KK hK => ?_)
    · simp only [List.getElem_toArray, List.getElem_cons_succ, List.getElem_cons_zero]
      try go_simp
      have D1 : Below w1.heap.size w1 w1.drew := (Below.refl _ _).drew
      refine (FL.out _ D1).mono ?_; rintro e w2 ⟨lab2, bv2, ar2, f2, rfl, le2, lk2, ex2, hol2, row2, arm2, rng2, ff2, rlt2⟩
      try go_wp2_with fail
      have HB2 := HXD.out _ w2 D1 ff2
      refine hK.out _ _ (MK.out _ HB2) (fun _ => ?_)
      clear hK KK
      try simp only [Act.put, List.setIfInBounds_toArray, List.set_cons_zero, List.set_cons_succ]
      refine wpAnyH_mix (n := 0) (by kernel_rfl) (NP _) [9, 10] (pickL [9, 10] _) _ _ _ (pickL_map (by kernel_rfl)) (by kernel_rfl) (MK.out _ HB2) ?_
      simp only [pickL, List.filterMap_cons, List.filterMap_nil, List.getElem?_cons_zero, List.getElem?_cons_succ]
      refine mix_lone (by rfl) (by rfl) (fun KK hK => ?_)
      try go_simp
      have b3 : Below w2.heap.size w2 (w2.alloc (.cells #[.bool false, .bool false, .int .i64 0, .int .i64 0, .int .i64 0] 255)) := Below.alloc (Below.refl _ _) (Nat.le_refl _) _
      have KF : Blk (w2.alloc (.cells #[.bool false, .bool false, .int .i64 0, .int .i64 0, .int .i64 0] 255)) w2.heap.size 255 #[.bool false, .bool false, .int .i64 0, .int .i64 0, .int .i64 0] := Blk.new _ _ _
      refine hK.out _ (w2.alloc (.cells #[.bool false, .bool false, .int .i64 0, .int .i64 0, .int .i64 0] 255)) (MK.out _ (Blk.later HB2 b3)) (fun _ => ?_)
      clear hK KK
      try simp only [Act.put, List.setIfInBounds_toArray, List.set_cons_zero, List.set_cons_succ]
      obtain ⟨q3, hq3⟩ : ∃ q3, w2.heap.size = q3 := ⟨_, rfl⟩
      obtain ⟨w3, hw3⟩ : ∃ w3, w3 = w2.alloc (.cells #[.bool false, .bool false, .int .i64 0, .int .i64 0, .int .i64 0] 255) := ⟨_, rfl⟩
      rw [← hw3, hq3] at KF
      rw [← hw3] at b3
      rw [← hw3]
      rw [hq3]
      have HQ3 := Lib.hid hq3
      clear hw3 hq3
      refine mix_lone (by rfl) (by rfl) (fun KK hK => ?_)
      have dF := KF.at5
      have hr3 := Below.refl w3.heap.size w3
      try go_simp
      have b4 := below_set5 b3 (show w2.heap.size ≤ q3 by have := HQ3.out; omega) (.bool T.isHit) (.bool T.isFull) (.int .i64 0) (.int .i64 T.gone) (.int .i64 T.read)
      have KF4 := blk_set5' KF (.bool T.isHit) (.bool T.isFull) (.int .i64 0) (.int .i64 T.gone) (.int .i64 T.read)
      refine hK.out _ _ (MK.out _ (Blk.later HB2 b4)) (fun _ => ?_)
      clear hK KK
      refine mix_end (fun _ => any_done (by kernel_rfl) ?_)
      try simp only [Act.put, List.setIfInBounds_toArray, List.set_cons_zero, List.set_cons_succ]
      go_wp2_with fail
      go_meet
      have s2 := ff2.size
      have lc := K3.out.lt
      exact ⟨_, rfl, Lib.hid (LkJ.mk (HH.out.later D1) hp (B1.out.up D1) HQ.out K1.out.drew K2.out.drew K3.out.drew le2 lk2 ex2 hol2 (fun e => by cases e) arm2 rng2 ff2 rlt2 ((Foot.later b4).mono fun i hi => hi) KF4 (by have : w1.drew.heap.size = w1.heap.size := rfl; have := HQ3.out; omega) (fun h => absurd h (by have := HQ3.out; omega)))⟩
    · simp only [List.getElem_toArray, List.getElem_cons_succ, List.getElem_cons_zero]
      try go_simp
      have bS : Below w1.heap.size w1 (w1.alloc (.cells #[.bool false, .bool false, .int .i64 0, .int .i64 0, .int .i64 0] 255)).drew := (Below.alloc (Below.refl _ _) (Nat.le_refl _) _).drew
      have KF : Blk (w1.alloc (.cells #[.bool false, .bool false, .int .i64 0, .int .i64 0, .int .i64 0] 255)).drew w1.heap.size 255 #[.bool false, .bool false, .int .i64 0, .int .i64 0, .int .i64 0] := (Blk.new _ _ _).drew
      refine hK.out _ (w1.alloc (.cells #[.bool false, .bool false, .int .i64 0, .int .i64 0, .int .i64 0] 255)).drew (MK.out _ (Blk.later HH.out.blk bS)) (fun _ => ?_)
      clear hK KK
      try simp only [Act.put, List.setIfInBounds_toArray, List.set_cons_zero, List.set_cons_succ]
      obtain ⟨q3, hq3⟩ : ∃ q3, w1.heap.size = q3 := ⟨_, rfl⟩
      obtain ⟨wS, hwS⟩ : ∃ wS, wS = (w1.alloc (.cells #[.bool false, .bool false, .int .i64 0, .int .i64 0, .int .i64 0] 255)).drew := ⟨_, rfl⟩
      rw [← hwS, hq3] at KF
      rw [← hwS] at bS
      rw [← hwS]
      try rw [show w1.drew.heap.size = q3 from hq3]
      try rw [hq3]
      have HQ3 := Lib.hid hq3
      clear hwS hq3 d hr
      refine wpAnyH_mix (n := 0) (by kernel_rfl) (NP _) [8, 10] (pickL [8, 10] _) _ _ _ (pickL_map (by kernel_rfl)) (by kernel_rfl) (MK.out _ (Blk.later HH.out.blk bS)) ?_
      simp only [pickL, List.filterMap_cons, List.filterMap_nil, List.getElem?_cons_zero, List.getElem?_cons_succ]
      refine mix_lone (by rfl) (by rfl) (fun KK hK => ?_)
      try go_simp
      refine (FL.out _ bS).mono ?_; rintro e w2 ⟨lab2, bv2, ar2, f2, rfl, le2, lk2, ex2, hol2, row2, arm2, rng2, ff2, rlt2⟩
      try go_wp2_with fail
      have HB2 := HXD.out _ w2 bS ff2
      refine hK.out _ w2 (MK.out _ HB2) (fun _ => ?_)
      clear hK KK
      try simp only [Act.put, List.setIfInBounds_toArray, List.set_cons_zero, List.set_cons_succ]
      have szw := B1.out.size
      have z3 : labNew lab w 0 q3 = 0 := labNew_new (by have := HQ3.out; omega)
      have KF2 := KF.foot ff2 (by rw [z3]; intro e; have := e.1; omega)
      refine mix_lone (by rfl) (by rfl) (fun KK hK => ?_)
      have dF := KF2.at5
      have hr3 := Below.refl w2.heap.size w2
      try go_simp
      have f4 := foot_set5 (F := fun i => i = q3) (Foot.refl _ w2) rfl (.bool T.isHit) (.bool T.isFull) (.int .i64 0) (.int .i64 T.gone) (.int .i64 T.read)
      have KF4 := blk_set5' KF2 (.bool T.isHit) (.bool T.isFull) (.int .i64 0) (.int .i64 T.gone) (.int .i64 T.read)
      have hxq : b.x ≠ q3 := by have := HX.out; have := HQ3.out; omega
      refine hK.out _ _ (MK.out _ (Blk.foot HB2 f4 hxq)) (fun _ => ?_)
      clear hK KK
      refine mix_end (fun _ => any_done (by kernel_rfl) ?_)
      try simp only [Act.put, List.setIfInBounds_toArray, List.set_cons_zero, List.set_cons_succ]
      go_wp2_with fail
      go_meet
      have lc := K3.out.lt
      exact ⟨_, rfl, Lib.hid (LkJ.mk (HH.out.later bS) hp (B1.out.up bS) HQ.out (Blk.later K1.out bS) (Blk.later K2.out bS) (Blk.later K3.out bS) le2 lk2 ex2 hol2 (fun e => by cases e) arm2 rng2 ff2 rlt2 f4 KF4 (by have := HQ3.out; omega) (fun h => (le2 q3 KF.lt).trans z3))⟩
  case rest =>
  obtain ⟨q3, rfl, HJ⟩ := hcut
  obtain ⟨lab3, b3, ex3, H3, le3, f3k, KA, KB, KC, KF, hz, hq3, hq⟩ := HJ.out
  have f3 : Foot (fun i => isD (lab i)) w wc := f3k.mono fun i e => ⟨e.1, by have := e.2; omega⟩
  have F3K := Lib.hid f3k
  clear f3k
  have dA := KA.at6
  have dF := KF.at5
  have hr := Below.refl wc.heap.size wc
  rw [HHH.out.1] at dF
  have H3 := Lib.hid H3
  have KB := Lib.hid KB
  have HQQ := Lib.hid (And.intro hq3 hq)
  have LE3 := Lib.hid le3
  have F3 := Lib.hid f3
  have HZ3 : Hid (¬ isD (lab3 q3)) := Lib.hid (hz q3 (by omega) KF.lt (.inr (.inr (.inr rfl))))
  have HZQ := Lib.hid hz
  have EX3 := Lib.hid ex3
  clear HJ le3 f3 hz hq3 hq ex3 FL MK HXD K1 K2 K3
  have K4 := KA.set_ 4 (.int .i64 T.read)
  have f4 : Foot (fun i => i = q ∨ i = q + 1 + 1) wc (wc.setCell ⟨q, 4, none⟩ (.int .i64 T.read)) := foot_set (fun i => i = q ∨ i = q + 1 + 1) (Foot.refl _ wc) q 4 (.inl rfl) _
  have KF4 := KF.foot f4 (by have := HQQ.out; omega)
  have KC4 := KC.far (p := ⟨q, 4, none⟩) (by show q + 1 + 1 ≠ q; omega) (.int .i64 T.read)
  have K4' : Blk (wc.setCell ⟨q, 4, none⟩ (.int .i64 T.read)) q 67 #[.int .i64 s.tick, .int .i64 s.at_, .int .i64 s.what, .int .i64 s.arm, .int .i64 T.read, .int .i64 s.st] := by simpa using K4
  have H4 := H3.out.foot f4 (fun i hi e => by
    have := HQQ.out
    have hl := KA.lt
    have hl2 := KC.lt
    rcases e with e | e
    · rw [e] at hi; exact HZQ.out q (by omega) hl (.inl rfl) hi
    · rw [e] at hi; exact HZQ.out (q + 1 + 1) (by omega) hl2 (.inr (.inr (.inl rfl))) hi)
  have HB4 : DiB (wc.setCell ⟨q, 4, none⟩ (.int .i64 T.read)) b.x _ := EX3.out ▸ H4.blk
  obtain ⟨w4, hw4⟩ : ∃ w4, w4 = wc.setCell ⟨q, 4, none⟩ (.int .i64 T.read) := ⟨_, rfl⟩
  rw [← hw4] at K4' f4 KF4 KC4 H4 HB4
  have HW4 := Lib.hid hw4
  clear hw4 K4
  obtain ⟨rfl, rfl⟩ := HAO.out
  go_upto_region 4 with fail
  rw [← HW4.out]
  clear dA dF hr
  have dA := K4'.at6
  have dF := KF4.at5
  have hr := Below.refl w4.heap.size w4
  rw [HHH.out.1] at dF
  go_upto_region 5 with fail
  have KF5 := KF4.drew
  have KX1 := KF5.far (p := ⟨q, 2, none⟩) (by have := HQQ.out; show q3 ≠ q; omega) (.int .i64 2)
  have KX2 := KX1.far (p := ⟨q, 3, none⟩) (by have := HQQ.out; show q3 ≠ q; omega) (.int .i64 0)
  have HB1 := Lib.hid (And.intro (KX1.cell 2) (KX1.cell 3))
  have HB2 := Lib.hid (And.intro (KX2.cell 2) (KX2.cell 3))
  refine wp_region_ordL (S := fun w' => w'.cell? ⟨q3, 2, none⟩ = some (.int .i64 0) ∧ w'.cell? ⟨q3, 3, none⟩ = some (.int .i64 T.gone)) [0, 1, 2, 3, 4, 5, 6, 7, 8, 9] 9 (by kernel_rfl) (by kernel_rfl) (by kernel_rfl) (by kernel_rfl) (by kernel_rfl) (by kernel_rfl) ⟨KF5.cell 2, KF5.cell 3⟩ ?_
  simp only [pickL, List.filterMap_cons, List.filterMap_nil, List.getElem?_cons_zero, List.getElem?_cons_succ]
  repeat (refine ordL_take (v := ?_) (by rfl) (by rfl) ?_ ?_; rotate_left; (focus (intro w hSw; (try dsimp only at hSw); go_simp; (try with_reducible rfl))); simp only [Act.put, List.setIfInBounds_toArray, List.set_cons_zero, List.set_cons_succ])
  refine ordL_lone (by rfl) (by rfl) (fun KK hK => ?_)
  try go_simp
  refine hK.out _ _ (.inr HB1.out) ?_
  clear hK KK
  try simp only [Act.put, List.setIfInBounds_toArray, List.set_cons_zero, List.set_cons_succ]
  repeat (refine ordL_take (v := ?_) (by rfl) (by rfl) ?_ ?_; rotate_left; (focus (intro w hSw; (try dsimp only at hSw); go_simp; (try with_reducible rfl))); simp only [Act.put, List.setIfInBounds_toArray, List.set_cons_zero, List.set_cons_succ])
  refine ordL_lone (by rfl) (by rfl) (fun KK hK => ?_)
  try go_simp
  refine hK.out _ _ (.inr HB2.out) ?_
  clear hK KK
  try simp only [Act.put, List.setIfInBounds_toArray, List.set_cons_zero, List.set_cons_succ]
  repeat (refine ordL_take (v := ?_) (by rfl) (by rfl) ?_ ?_; rotate_left; (focus (intro w hSw; (try dsimp only at hSw); go_simp; (try with_reducible rfl))); simp only [Act.put, List.setIfInBounds_toArray, List.set_cons_zero, List.set_cons_succ])
  refine ordL_lone (by rfl) (by rfl) (fun KK hK => ?_)
  try go_simp
  refine hK.out _ _ (.inl (by trivial)) ?_
  clear hK KK
  try simp only [Act.put, List.setIfInBounds_toArray, List.set_cons_zero, List.set_cons_succ]
  refine ordL_done ?_
  have f5 : Foot (fun i => i = q ∨ i = q + 1 + 1) w4 (((w4.setCell ⟨q, 2, none⟩ (.int .i64 2)).setCell ⟨q, 3, none⟩ (.int .i64 0)).setCell ⟨q, 4, none⟩ (.int .i64 T.gone)).drew := (foot_set (fun i => i = q ∨ i = q + 1 + 1) (foot_set (fun i => i = q ∨ i = q + 1 + 1) (foot_set (fun i => i = q ∨ i = q + 1 + 1) (Foot.refl _ w4) q 2 (.inl rfl) _) q 3 (.inl rfl) _) q 4 (.inl rfl) _).up (Below.refl _ _).drew
  have K5 : Blk (((w4.setCell ⟨q, 2, none⟩ (.int .i64 2)).setCell ⟨q, 3, none⟩ (.int .i64 0)).setCell ⟨q, 4, none⟩ (.int .i64 T.gone)).drew q 67 #[.int .i64 s.tick, .int .i64 s.at_, .int .i64 2, .int .i64 0, .int .i64 T.gone, .int .i64 s.st] := by
    have := (((K4'.set_ 2 (.int .i64 2)).set_ 3 (.int .i64 0)).set_ 4 (.int .i64 T.gone)).drew
    simpa using this
  have KC5 := (((KC4.far (p := ⟨q, 2, none⟩) (by show q + 1 + 1 ≠ q; omega) (.int .i64 2)).far (p := ⟨q, 3, none⟩) (by show q + 1 + 1 ≠ q; omega) (.int .i64 0)).far (p := ⟨q, 4, none⟩) (by show q + 1 + 1 ≠ q; omega) (.int .i64 T.gone)).drew
  obtain ⟨w5, hw5⟩ : ∃ w5, w5 = (((w4.setCell ⟨q, 2, none⟩ (.int .i64 2)).setCell ⟨q, 3, none⟩ (.int .i64 0)).setCell ⟨q, 4, none⟩ (.int .i64 T.gone)).drew := ⟨_, rfl⟩
  rw [← hw5] at f5 K5 KC5
  rw [← hw5]
  have KB5 := (KB.out.foot f4 (by omega)).foot f5 (by omega)
  have KF6 := KF4.foot f5 (by have := HQQ.out; omega)
  have NZ : ∀ i, i = q ∨ i = q + 1 + 1 → ¬ isD (lab3 i) := fun i e => by
    have := HQQ.out
    have hl := KA.lt
    have hl2 := KC.lt
    rcases e with e | e
    · rw [e]; exact HZQ.out q (by omega) hl (.inl rfl)
    · rw [e]; exact HZQ.out (q + 1 + 1) (by omega) hl2 (.inr (.inr (.inl rfl)))
  have H5 := H4.foot f5 (fun i hi e => NZ i e hi)
  have hcag : w5.cell? ⟨ag, 1, none⟩ = some (.int .i64 2) := by
    have h1 := F3K.out.block ag HAG.out.1.1 HAG.out.2
    have h2 := (f4.trans f5).block ag (Nat.lt_of_lt_of_le HAG.out.1.1 F3.out.size) (by have := HQQ.out; have := HAG.out.1.1; omega)
    exact (cell_same (h2.trans h1)).trans HAG.out.1.2
  have dag : ∀ w', Below w5.heap.size w5 w' → w'.cell? ⟨ag, 1, none⟩ = some (.int .i64 2) := fun w' hw => (hw.cell (p := ⟨ag, 1, none⟩) (block_lt hcag)).trans hcag
  have F5 := Lib.hid (f4.trans f5)
  have H5 := Lib.hid H5
  have NZ := Lib.hid NZ
  have K5 := Lib.hid K5
  have KC5 := Lib.hid KC5
  clear hw5 dA dF hr KX1 KX2 HB1 HB2 KF5 hcag f5 f4 H4 HB4 KC4
  have dA := K5.out.at6
  have dB := KB5.at7
  have dF := KF6.at5
  have hr := Below.refl w5.heap.size w5
  go_upto_region 6 with fail
  refine wp_region_later_tail w5.heap.size 9 (by kernel_rfl) (by kernel_rfl) ?_
  simp only [List.take_succ_cons, List.take_zero, List.drop_succ_cons, List.drop_zero]
  have hu : ∀ u : Later w5.heap.size w5, Below w5.heap.size w5 u.world := Later.below
  repeat (go_big_quiet_step ((fail)))
  refine wpQuiet_nil ?_
  intro w6 b6
  have H6 := H5.out.later b6
  have KA6 := K5.out.later b6
  have KC6 := KC5.out.later b6
  have FJ : Hid (Calls Tryz.prog 155 #[.pointer (some ⟨b.x, 0, none⟩), .agg #[.int .i64 s.tick, .int .i64 s.at_, .int .i64 2, .int .i64 0, .int .i64 T.gone, .int .i64 s.st], .int .i64 2] w6 fun e w' => ∃ lab' b', e = .returned (.agg #[.int .i64 s.tick, .int .i64 s.at_, .int .i64 2, .int .i64 0, .int .i64 T.gone, .int .i64 s.st]) ∧ LabEq lab3 lab' w6 ∧ DiaR w' lab' b' c (comeT c { t with inb := T.s, win := T.l, pat := some T.p, lv := false, ju := t.ju + 1 } 2) ∧ b'.x = b.x ∧ Foot (fun i => isD (lab3 i)) w6 w') := Lib.hid <| by
    have := diJump2 H6 HHH.out.2 ⟨s.tick, s.at_, 2, 0, T.gone, s.st⟩
    rw [EX3.out] at this
    exact this
  clear dA dB dF dag hr hu
  go_wp2_with fail
  refine FJ.out.mono ?_; rintro e w7 ⟨lab7, b7, rfl, le7, h7, ex7, f7⟩
  have KC7 := KC6.foot f7 (NZ.out _ (.inr rfl))
  have dC := KC7.at6
  have hr := Below.refl w7.heap.size w7
  go_wp2_with fail
  have ff := foot_set6 (F := fun i => i = q + 1 + 1) (Foot.refl _ w7) rfl (.int .i64 s.tick) (.int .i64 s.at_) (.int .i64 2) (.int .i64 0) (.int .i64 T.gone) (.int .i64 s.st)
  have sz6 := b6.size
  have sz5 := F5.out.size
  have sz3 := F3.out.size
  (try simp only [Exit.inBlock, Exit.then])
  refine bodyPost_ret (v := .agg #[.int .i64 s.tick, .int .i64 s.at_, .int .i64 2, .int .i64 0, .int .i64 T.gone, .int .i64 s.st]) ?_ rfl ⟨lab7, b7, rfl, fun i hi => (le7 i (by omega)).trans (LE3.out i hi), ?_, ex7, ?_⟩
  · rw [results_cell_one rfl]
    go_simp
  · refine h7.foot ff (fun i hi e => ?_)
    rw [e, le7 (q + 1 + 1) KC6.lt] at hi
    exact NZ.out _ (.inr rfl) hi
  · have := HQQ.out
    refine (((F3.out.then F5.out (fun i hi e => by omega)).up b6).then f7 (fun i hi e => ?_)).then ff (fun i hi e => by omega)
    rw [LE3.out i hi] at e
    exact e
end Go.Proofs.YtbhgmccaecmpjaaGreat
