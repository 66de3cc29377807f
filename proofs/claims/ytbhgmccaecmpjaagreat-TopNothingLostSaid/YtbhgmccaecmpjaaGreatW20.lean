/-
  Contracts of package dial: one comes to an op.
  Conditions: the blocks are known; what is waited for are no patterns, or one of plain bytes.
-/
import Derived.Test.YtbhgmccaecmpjaaGreatW19
namespace Go.Proofs.YtbhgmccaecmpjaaGreat
set_option linter.unusedVariables false
set_option linter.unusedSimpArgs false
open Go.RowKit

def patOf : Option (ByteArray × Nat) → Pat
  | none => .no
  | some (p, _) => .at (tabP p.data.toList) (startT (tabP p.data.toList))
/-- One who comes to op k. -/
def comeT (c : ScT) (t : DT) (k : Nat) : DT :=
  match (if k = 0 then some c.o0 else if k = 1 then some c.o1 else none : Option OpT) with
  | none => { t with at_ := k, un := nev }
  | some (.send u) => { t with at_ := k, un := nev, tx := u, sd := 0, ld := 0, tr := 0 }
  | some (.expect n a) => { t with at_ := k, un := behT t.now n, pat := some (patOf a) }
  | some (.pause n) => { t with at_ := k, un := behT t.now n }
section
variable {w w' : World} {lab : Nat → Nat} {b : DB} {c : ScT} {t t' : DT}
theorem lab_inj {i j m k : Nat} (hi : lab i = m) (hj : lab j = k) (e : i = j) : m = k := hi.symm.trans ((congrArg lab e).trans hj)
/-- Its own block alone has turned. -/
theorem DiaR.own (h : DiaR w lab b c t) (k : Foot (fun i => i = b.x) w w') (hb : DiB w' b.x (t'.dc c b 0)) (e1 : t'.inb = t.inb) (e2 : t'.win = t.win) (e3 : t'.pat = t.pat) (e4 : t'.tx = t.tx ∧ t'.sd = t.sd ∧ t'.ld = t.ld ∧ t'.tr = t.tr) (e5 : t'.lv = true → t.lv = true) : DiaR w' lab b c t' := by
  have n := h.lab
  have ne : ∀ i m, lab i = m → m ≠ 27 → ¬ i = b.x := fun i m hi hm e => hm (lab_inj hi n.x e)
  obtain ⟨f1, f2, f3, f4⟩ := e4
  refine ⟨hb, by rw [e1]; exact h.rng.foot k (ne _ _ n.rx (by omega)) (ne _ _ n.ra (by omega)), by rw [e2, e3]; exact h.hol.foot k (ne _ _ n.hx (by omega)), fun e => by rw [e2]; exact (h.row (e5 e)).foot k (fun i hi => ne _ _ (n.row i hi) (by omega)), fun g hg => Nat.lt_of_lt_of_le (h.rowLt g hg) k.size, fun p e => ?_, by rw [f1, f2, f3, f4]; exact Blk.foot h.pnd k (ne _ _ n.px (by omega)), by rw [f1, f2, f3]; exact h.pb, h.scr.foot k (fun i hi => ne _ _ (n.scr i hi) (by omega)), by rw [e3]; exact n, h.ok⟩
  rw [e3] at e
  exact (h.arm p e).foot k (fun i hi => ne _ _ (n.arms (by rw [e]; rfl) i hi) (by omega))
/-- .. and its writer. -/
theorem DiaR.ownP (h : DiaR w lab b c t) (k : Foot (fun i => i = b.x ∨ i = b.px) w w') (hb : DiB w' b.x (t'.dc c b 0)) (hp : Pnd w' b.px c.o t'.tx t'.sd t'.ld t'.tr) (hpb : t'.sd ≤ t'.ld ∧ t'.ld ≤ t'.tx.size ∧ t'.tx.size ≤ 1000000) (e1 : t'.inb = t.inb) (e2 : t'.win = t.win) (e3 : t'.pat = t.pat) (e5 : t'.lv = true → t.lv = true) : DiaR w' lab b c t' := by
  have n := h.lab
  have ne : ∀ i m, lab i = m → m ≠ 27 → m ≠ 25 → ¬ (i = b.x ∨ i = b.px) := fun i m hi hm hm2 e => e.elim (fun e => hm (lab_inj hi n.x e)) (fun e => hm2 (lab_inj hi n.px e))
  refine ⟨hb, by rw [e1]; exact h.rng.foot k (ne _ _ n.rx (by omega) (by omega)) (ne _ _ n.ra (by omega) (by omega)), by rw [e2, e3]; exact h.hol.foot k (ne _ _ n.hx (by omega) (by omega)), fun e => by rw [e2]; exact (h.row (e5 e)).foot k (fun i hi => ne _ _ (n.row i hi) (by omega) (by omega)), fun g hg => Nat.lt_of_lt_of_le (h.rowLt g hg) k.size, fun p e => ?_, hp, hpb, h.scr.foot k (fun i hi => ne _ _ (n.scr i hi) (by omega) (by omega)), by rw [e3]; exact n, h.ok⟩
  rw [e3] at e
  exact (h.arm p e).foot k (fun i hi => ne _ _ (n.arms (by rw [e]; rfl) i hi) (by omega) (by omega))
/-- .. and its window, which waits for new patterns. -/
theorem DiaR.ownH {ar : AB} {p : Pat} (h : DiaR w lab b c t) (h0 : t.win = []) (k : Foot (fun i => i = b.x ∨ i = b.hx) w w') (hb : DiB w' b.x (t'.dc c b 0)) (hh : HolR w' b.hx b.bv c.n [] 0 (.pointer (some ⟨ar.x, 0, none⟩))) (ha : ArmS w' ar p) (hn : ∀ i, ar.in_ i → w.heap.size ≤ i) (e1 : t'.inb = t.inb) (e2 : t'.win = t.win) (e3 : t'.pat = some p) (e4 : t'.tx = t.tx ∧ t'.sd = t.sd ∧ t'.ld = t.ld ∧ t'.tr = t.tr) (e5 : t'.lv = true → t.lv = true) :
    ∃ lab', LabEq lab lab' w ∧ DiaR w' lab' { b with ar := ar } c t' := by
  have n := h.lab
  have ne : ∀ i m, lab i = m → m ≠ 27 → m ≠ 22 → ¬ (i = b.x ∨ i = b.hx) := fun i m hi hm hm2 e => e.elim (fun e => hm (lab_inj hi n.x e)) (fun e => hm2 (lab_inj hi n.hx e))
  obtain ⟨f1, f2, f3, f4⟩ := e4
  obtain ⟨l1, l2, l3, l4, l5, l6, l7⟩ := h.lt
  refine ⟨labNew lab w 24, labNew_eq _ _ _, hb, by rw [e1]; exact h.rng.foot k (ne _ _ n.rx (by omega) (by omega)) (ne _ _ n.ra (by omega) (by omega)), by rw [e2, e3, h0]; exact hh.v, fun _ => by rw [e2, h0]; exact hh.row, fun g hg => Nat.lt_of_lt_of_le (h.rowLt g hg) k.size, fun p' e => ?_, by rw [f1, f2, f3, f4]; exact Blk.foot h.pnd k (ne _ _ n.px (by omega) (by omega)), by rw [f1, f2, f3]; exact h.pb, h.scr.foot k (fun i hi => ne _ _ (n.scr i hi) (by omega) (by omega)), ⟨(labNew_old l1).trans n.x, (labNew_old l4).trans n.hx, fun g hg => (labNew_old (h.rowLt g hg)).trans (n.row g hg), fun _ i hi => labNew_new (hn i hi), (labNew_old l2).trans n.rx, (labNew_old l3).trans n.ra, (labNew_old l5).trans n.px, fun i hi => (labNew_old (l7 i hi)).trans (n.scr i hi)⟩, h.ok⟩
  rw [e3] at e
  cases e
  exact ha
end

set_option maxRecDepth 100000 in
set_option maxHeartbeats 8000000 in
theorem coPause0 {w : World} {lab : Nat → Nat} {b : DB} {c : ScT} {t : DT} (h : DiaR w lab b c t) {n : Int} (ho : c.o0 = .pause n) (hlv : t.lv = true) (hi : i64 t.now ∧ i64 n) : Calls Tryz.prog 79 #[.pointer (some ⟨b.x, 0, none⟩), .int .i64 0] w fun e w' => ∃ lab' b', e = .returned (.tuple #[]) ∧ LabEq lab lab' w ∧ DiaR w' lab' b' c (comeT c t 0) ∧ b'.x = b.x ∧ Foot (fun i => isD (lab i)) w w' := by
  have HH := Lib.hid h
  have hb := h.blk
  have d : ∀ w', Below w.heap.size w w' → (∀ i, w'.frozen? ⟨b.x, i, none⟩ = false) ∧ w'.cell? ⟨b.x, 10, none⟩ = some (.int .i64 t.at_) := fun w' hw => ⟨fun i => (Blk.later hb hw).frozen i, (Blk.later hb hw).cell 10⟩
  have hr := Below.refl w.heap.size w
  have h1 := hb.setAt 0
  have f1 : Foot (fun i => i = b.x) w (w.setCell ⟨b.x, 10, none⟩ (.int .i64 0)) := foot_set (fun i => i = b.x) (Foot.refl _ w) b.x 10 rfl _
  obtain ⟨w1, hw1⟩ : ∃ w1, w1 = w.setCell ⟨b.x, 10, none⟩ (.int .i64 0) := ⟨_, rfl⟩
  rw [← hw1] at h1 f1
  have HW1 := Lib.hid hw1
  have FR : Hid (∀ w, Calls Tryz.prog 118 #[.agg #[.int .i64 t.un, .int .i64 t.li, .int .i64 t.cu]] w fun e w' => e = .returned (.agg #[.int .i64 9223372036854775807, .int .i64 t.li, .int .i64 t.cu]) ∧ Below w.heap.size w w') := Lib.hid fun w => dRest t.un t.li t.cu w
  clear hw1 hb h
  go_enter Tryz.func79, Tryz.ntmps79
  go_upto_region 1 with fail
  rw [← HW1.out]
  clear d hr
  have d : ∀ w', Below w1.heap.size w1 w' → w'.cell? ⟨b.x, 13, none⟩ = some (.int .i64 t.un) ∧ w'.cell? ⟨b.x, 14, none⟩ = some (.int .i64 t.li) ∧ w'.cell? ⟨b.x, 15, none⟩ = some (.int .i64 t.cu) := fun w' hw => ⟨(Blk.later h1 hw).cell 13, (Blk.later h1 hw).cell 14, (Blk.later h1 hw).cell 15⟩
  have hr := Below.refl w1.heap.size w1
  go_wp2_with fail
  refine (FR.out _).mono ?_; rintro e w2 ⟨rfl, b2⟩
  have h2 : DiB w2 b.x { t.dc c b 0 with at_ := 0 } := Blk.later h1 b2
  have f2 := f1.up b2
  clear d hr FR
  have d : ∀ w', Below w2.heap.size w2 w' → (∀ i, w'.frozen? ⟨b.x, i, none⟩ = false) ∧ w'.cell? ⟨b.x, 13, none⟩ = some (.int .i64 t.un) ∧ w'.cell? ⟨b.x, 14, none⟩ = some (.int .i64 t.li) ∧ w'.cell? ⟨b.x, 15, none⟩ = some (.int .i64 t.cu) := fun w' hw => ⟨fun i => (Blk.later h2 hw).frozen i, (Blk.later h2 hw).cell 13, (Blk.later h2 hw).cell 14, (Blk.later h2 hw).cell 15⟩
  have hr := Below.refl w2.heap.size w2
  have h3 : DiB _ b.x (({ t with at_ := 0, un := nev } : DT).dc c b 0) := h2.setDue 9223372036854775807 t.li t.cu
  have f3 : Foot (fun i => i = b.x) w (((w2.setCell ⟨b.x, 13, none⟩ (.int .i64 9223372036854775807)).setCell ⟨b.x, 14, none⟩ (.int .i64 t.li)).setCell ⟨b.x, 15, none⟩ (.int .i64 t.cu)) := foot_set (fun i => i = b.x) (foot_set (fun i => i = b.x) (foot_set (fun i => i = b.x) f2 b.x 13 rfl _) b.x 14 rfl _) b.x 15 rfl _
  obtain ⟨w3, hw3⟩ : ∃ w3, w3 = ((w2.setCell ⟨b.x, 13, none⟩ (.int .i64 9223372036854775807)).setCell ⟨b.x, 14, none⟩ (.int .i64 t.li)).setCell ⟨b.x, 15, none⟩ (.int .i64 t.cu) := ⟨_, rfl⟩
  rw [← hw3] at h3 f3
  have HW3 := Lib.hid hw3
  have H3 := Lib.hid (HH.out.own (t' := { t with at_ := 0, un := nev }) f3 h3 rfl rfl rfl ⟨rfl, rfl, rfl, rfl⟩ (fun e => e))
  have FO : Calls Tryz.prog 98 #[.pointer (some ⟨b.x, 0, none⟩)] w3 fun e w' => e = .returned (.agg #[.int .i64 4, .string ⟨#[]⟩, .int .i64 n, .int .i64 0, .slice none 0 0, .int .i64 0, .int .i64 0]) ∧ Below w3.heap.size w3 w' := by
    have := diOpB (b := b) (c := c) (t := { t with at_ := 0, un := nev }) h3 rfl rfl H3.out.scr (by show 0 ≤ 2; omega)
    unfold opVal at this; rw [if_pos rfl, ho] at this; exact this
  have FO := Lib.hid FO
  have F3 := Lib.hid f3
  clear hw3 h1 h2 h3 f1 f2 f3 b2
  go_upto_region 2 with fail
  rw [← HW3.out]
  clear d hr
  go_wp2_with fail
  refine FO.out.mono ?_; rintro e w4 ⟨rfl, b4⟩
  obtain ⟨q, hq⟩ : ∃ q, w4.heap.size = q := ⟨_, rfl⟩
  obtain ⟨w5, hw5⟩ : ∃ w5, w5 = w4.alloc (.cells #[.int .i64 4, .string ⟨#[]⟩, .int .i64 n, .int .i64 0, .slice none 0 0, .int .i64 0, .int .i64 0] 29) := ⟨_, rfl⟩
  have b5 : Below w4.heap.size w4 w5 := by rw [hw5]; exact Below.alloc (Below.refl _ _) (Nat.le_refl _) _
  have KQ : Blk w5 q 29 #[.int .i64 4, .string ⟨#[]⟩, .int .i64 n, .int .i64 0, .slice none 0 0, .int .i64 0, .int .i64 0] := by rw [hw5, ← hq]; exact Blk.new _ _ _
  have HW5 := Lib.hid hw5
  have HQ := Lib.hid hq
  have NQ : Hid (b.x < q ∧ b.hx < q) := Lib.hid (by obtain ⟨l1, l2, l3, l4, _⟩ := (H3.out.later b4).lt; omega)
  have H5 := Lib.hid (H3.out.later (b4.up b5))
  have F5 := Lib.hid (F3.out.up (b4.up b5))
  clear hw5 hq b4 b5 FO H3 F3
  go_upto_region 3 with fail
  rw [← HW5.out, HQ.out]
  have dq := KQ.at7
  have hr := Below.refl w5.heap.size w5
  have HI : Hid (i64 t.now ∧ i64 n) := Lib.hid hi
  have FW : Hid (∀ w, Calls Tryz.prog 121 #[.agg #[.int .i64 9223372036854775807, .int .i64 t.li, .int .i64 t.cu], .int .i64 t.now, .int .i64 n] w fun e w' => e = .returned (.agg #[.int .i64 (behT t.now n), .int .i64 t.li, .int .i64 t.cu]) ∧ Below w.heap.size w w') := Lib.hid fun w => dWait _ t.li t.cu t.now n w HI.out.1 HI.out.2
  clear hi
  have hd := H5.out.blk
  have d : ∀ w', Below w5.heap.size w5 w' → w'.cell? ⟨b.x, 13, none⟩ = some (.int .i64 9223372036854775807) ∧ w'.cell? ⟨b.x, 14, none⟩ = some (.int .i64 t.li) ∧ w'.cell? ⟨b.x, 15, none⟩ = some (.int .i64 t.cu) ∧ w'.cell? ⟨b.x, 20, none⟩ = some (.int .i64 t.now) := fun w' hw => ⟨(Blk.later hd hw).cell 13, (Blk.later hd hw).cell 14, (Blk.later hd hw).cell 15, (Blk.later hd hw).cell 20⟩
  go_upto_region 16 with fail
  refine wp_region_later_tail w5.heap.size 14 (by kernel_rfl) (by kernel_rfl) ?_
  simp only [List.take_succ_cons, List.take_zero, List.drop_succ_cons, List.drop_zero]
  have hu : ∀ u : Later w5.heap.size w5, Below w5.heap.size w5 u.world := Later.below
  repeat (go_big_quiet_step ((first | (go_at_call 121; exact later_below (Nat.le_refl _) (FW.out _)))))
  refine wpQuiet_nil ?_
  intro w8 b8
  clear d dq hr hu
  have hb8 : DiB w8 b.x _ := Blk.later hd b8
  have d : ∀ w', Below w8.heap.size w8 w' → (∀ i, w'.frozen? ⟨b.x, i, none⟩ = false) ∧ w'.cell? ⟨b.x, 13, none⟩ = some (.int .i64 9223372036854775807) ∧ w'.cell? ⟨b.x, 14, none⟩ = some (.int .i64 t.li) ∧ w'.cell? ⟨b.x, 15, none⟩ = some (.int .i64 t.cu) := fun w' hw => ⟨fun i => (Blk.later hb8 hw).frozen i, (Blk.later hb8 hw).cell 13, (Blk.later hb8 hw).cell 14, (Blk.later hb8 hw).cell 15⟩
  have hr := Below.refl w8.heap.size w8
  go_wp2_with fail
  go_end0
  have fx : Foot (fun i => i = b.x) w5 (((w8.setCell ⟨b.x, 13, none⟩ (.int .i64 (behT t.now n))).setCell ⟨b.x, 14, none⟩ (.int .i64 t.li)).setCell ⟨b.x, 15, none⟩ (.int .i64 t.cu)) := foot_set (fun i => i = b.x) (foot_set (fun i => i = b.x) (foot_set (fun i => i = b.x) (Foot.later b8) b.x 13 rfl _) b.x 14 rfl _) b.x 15 rfl _
  refine ⟨lab, b, rfl, LabEq.refl _ _, ?_, rfl, (F5.out.trans fx).mono fun i hi => by rw [hi, HH.out.lab.x]; exact ⟨by omega, by omega⟩⟩
  unfold comeT
  rw [if_pos rfl, ho]
  exact H5.out.own fx (hb8.setDue (behT t.now n) t.li t.cu) rfl rfl rfl ⟨rfl, rfl, rfl, rfl⟩ (fun e => e)

set_option maxRecDepth 100000 in
set_option maxHeartbeats 8000000 in
theorem coSend0 {w : World} {lab : Nat → Nat} {b : DB} {c : ScT} {t : DT} (h : DiaR w lab b c t) {u : ByteArray} (ho : c.o0 = .send u) (hlv : t.lv = true) (hu : u.size ≤ 1000000) : Calls Tryz.prog 79 #[.pointer (some ⟨b.x, 0, none⟩), .int .i64 0] w fun e w' => ∃ lab' b', e = .returned (.tuple #[]) ∧ LabEq lab lab' w ∧ DiaR w' lab' b' c (comeT c t 0) ∧ b'.x = b.x ∧ Foot (fun i => isD (lab i)) w w' := by
  have HH := Lib.hid h
  have hb := h.blk
  have d : ∀ w', Below w.heap.size w w' → (∀ i, w'.frozen? ⟨b.x, i, none⟩ = false) ∧ w'.cell? ⟨b.x, 10, none⟩ = some (.int .i64 t.at_) := fun w' hw => ⟨fun i => (Blk.later hb hw).frozen i, (Blk.later hb hw).cell 10⟩
  have hr := Below.refl w.heap.size w
  have h1 := hb.setAt 0
  have f1 : Foot (fun i => i = b.x) w (w.setCell ⟨b.x, 10, none⟩ (.int .i64 0)) := foot_set (fun i => i = b.x) (Foot.refl _ w) b.x 10 rfl _
  obtain ⟨w1, hw1⟩ : ∃ w1, w1 = w.setCell ⟨b.x, 10, none⟩ (.int .i64 0) := ⟨_, rfl⟩
  rw [← hw1] at h1 f1
  have HW1 := Lib.hid hw1
  have FR : Hid (∀ w, Calls Tryz.prog 118 #[.agg #[.int .i64 t.un, .int .i64 t.li, .int .i64 t.cu]] w fun e w' => e = .returned (.agg #[.int .i64 9223372036854775807, .int .i64 t.li, .int .i64 t.cu]) ∧ Below w.heap.size w w') := Lib.hid fun w => dRest t.un t.li t.cu w
  clear hw1 hb h
  go_enter Tryz.func79, Tryz.ntmps79
  go_upto_region 1 with fail
  rw [← HW1.out]
  clear d hr
  have d : ∀ w', Below w1.heap.size w1 w' → w'.cell? ⟨b.x, 13, none⟩ = some (.int .i64 t.un) ∧ w'.cell? ⟨b.x, 14, none⟩ = some (.int .i64 t.li) ∧ w'.cell? ⟨b.x, 15, none⟩ = some (.int .i64 t.cu) := fun w' hw => ⟨(Blk.later h1 hw).cell 13, (Blk.later h1 hw).cell 14, (Blk.later h1 hw).cell 15⟩
  have hr := Below.refl w1.heap.size w1
  go_wp2_with fail
  refine (FR.out _).mono ?_; rintro e w2 ⟨rfl, b2⟩
  have h2 : DiB w2 b.x { t.dc c b 0 with at_ := 0 } := Blk.later h1 b2
  have f2 := f1.up b2
  clear d hr FR
  have d : ∀ w', Below w2.heap.size w2 w' → (∀ i, w'.frozen? ⟨b.x, i, none⟩ = false) ∧ w'.cell? ⟨b.x, 13, none⟩ = some (.int .i64 t.un) ∧ w'.cell? ⟨b.x, 14, none⟩ = some (.int .i64 t.li) ∧ w'.cell? ⟨b.x, 15, none⟩ = some (.int .i64 t.cu) := fun w' hw => ⟨fun i => (Blk.later h2 hw).frozen i, (Blk.later h2 hw).cell 13, (Blk.later h2 hw).cell 14, (Blk.later h2 hw).cell 15⟩
  have hr := Below.refl w2.heap.size w2
  have h3 : DiB _ b.x (({ t with at_ := 0, un := nev } : DT).dc c b 0) := h2.setDue 9223372036854775807 t.li t.cu
  have f3 : Foot (fun i => i = b.x) w (((w2.setCell ⟨b.x, 13, none⟩ (.int .i64 9223372036854775807)).setCell ⟨b.x, 14, none⟩ (.int .i64 t.li)).setCell ⟨b.x, 15, none⟩ (.int .i64 t.cu)) := foot_set (fun i => i = b.x) (foot_set (fun i => i = b.x) (foot_set (fun i => i = b.x) f2 b.x 13 rfl _) b.x 14 rfl _) b.x 15 rfl _
  obtain ⟨w3, hw3⟩ : ∃ w3, w3 = ((w2.setCell ⟨b.x, 13, none⟩ (.int .i64 9223372036854775807)).setCell ⟨b.x, 14, none⟩ (.int .i64 t.li)).setCell ⟨b.x, 15, none⟩ (.int .i64 t.cu) := ⟨_, rfl⟩
  rw [← hw3] at h3 f3
  have HW3 := Lib.hid hw3
  have H3 := Lib.hid (HH.out.own (t' := { t with at_ := 0, un := nev }) f3 h3 rfl rfl rfl ⟨rfl, rfl, rfl, rfl⟩ (fun e => e))
  have FO : Calls Tryz.prog 98 #[.pointer (some ⟨b.x, 0, none⟩)] w3 fun e w' => e = .returned (.agg #[.int .i64 1, .string u, .int .i64 0, .int .i64 0, .slice none 0 0, .int .i64 0, .int .i64 0]) ∧ Below w3.heap.size w3 w' := by
    have := diOpB (b := b) (c := c) (t := { t with at_ := 0, un := nev }) h3 rfl rfl H3.out.scr (by show 0 ≤ 2; omega)
    unfold opVal at this; rw [if_pos rfl, ho] at this; exact this
  have FO := Lib.hid FO
  have F3 := Lib.hid f3
  clear hw3 h1 h2 h3 f1 f2 f3 b2
  go_upto_region 2 with fail
  rw [← HW3.out]
  clear d hr
  go_wp2_with fail
  refine FO.out.mono ?_; rintro e w4 ⟨rfl, b4⟩
  obtain ⟨q, hq⟩ : ∃ q, w4.heap.size = q := ⟨_, rfl⟩
  obtain ⟨w5, hw5⟩ : ∃ w5, w5 = w4.alloc (.cells #[.int .i64 1, .string u, .int .i64 0, .int .i64 0, .slice none 0 0, .int .i64 0, .int .i64 0] 29) := ⟨_, rfl⟩
  have b5 : Below w4.heap.size w4 w5 := by rw [hw5]; exact Below.alloc (Below.refl _ _) (Nat.le_refl _) _
  have KQ : Blk w5 q 29 #[.int .i64 1, .string u, .int .i64 0, .int .i64 0, .slice none 0 0, .int .i64 0, .int .i64 0] := by rw [hw5, ← hq]; exact Blk.new _ _ _
  have HW5 := Lib.hid hw5
  have HQ := Lib.hid hq
  have NQ : Hid (b.x < q ∧ b.hx < q) := Lib.hid (by obtain ⟨l1, l2, l3, l4, _⟩ := (H3.out.later b4).lt; omega)
  have H5 := Lib.hid (H3.out.later (b4.up b5))
  have F5 := Lib.hid (F3.out.up (b4.up b5))
  clear hw5 hq b4 b5 FO H3 F3
  go_upto_region 3 with fail
  rw [← HW5.out, HQ.out]
  have dq := KQ.at7
  have hr := Below.refl w5.heap.size w5
  have hd := H5.out.blk
  have FB := Lib.hid (pBegin b.px c.o t.tr t.tx u t.sd t.ld w5.drew (Blk.drew H5.out.pnd))
  have hdx : w5.cell? ⟨b.x, 18, none⟩ = some (.pointer (some ⟨b.px, 0, none⟩)) := Blk.cell hd 18
  have hqx : w5.cell? ⟨q, 1, none⟩ = some (.string u) := KQ.cell 1
  go_upto_region 5 with fail
  clear dq hr
  refine wp_region_ordL (S := fun w' => w'.cell? ⟨b.x, 18, none⟩ = some (.pointer (some ⟨b.px, 0, none⟩)) ∧ w'.cell? ⟨q, 1, none⟩ = some (.string u)) [0, 1, 2, 3, 4, 5, 6] 6 (by kernel_rfl) (by kernel_rfl) (by kernel_rfl) (by kernel_rfl) (by kernel_rfl) (by kernel_rfl) ⟨hdx, hqx⟩ ?_
  simp only [pickL, List.filterMap_cons, List.filterMap_nil, List.getElem?_cons_zero, List.getElem?_cons_succ]
  repeat (refine ordL_take (v := ?_) (by rfl) (by rfl) ?_ ?_; rotate_left; (focus (intro w hSw; (try dsimp only at hSw); go_simp; (try with_reducible rfl))); simp only [Act.put, List.setIfInBounds_toArray, List.set_cons_zero, List.set_cons_succ])
  refine ordL_lone (by rfl) (by rfl) (fun KK hK => ?_)
  try go_simp
  refine FB.out.mono ?_; rintro e w6 ⟨rfl, p6, g6⟩
  try go_wp2_with fail
  refine hK.out _ _ (.inl (by trivial)) ?_
  clear hK KK
  try simp only [Act.put, List.setIfInBounds_toArray, List.set_cons_zero, List.set_cons_succ]
  refine ordL_done ?_
  go_wp2_with fail
  go_end0
  have f6 : Foot (fun i => i = b.px) w5 w6 := (Foot.later (Below.refl _ _).drew).trans (Foot.grown g6 (fun g hg => by cases hg; rfl))
  refine ⟨lab, b, rfl, LabEq.refl _ _, ?_, rfl, ((F5.out.mono (G := fun i => i = b.x ∨ i = b.px) fun i hi => .inl hi).trans (f6.mono fun i hi => .inr hi)).mono fun i hi => ?_⟩
  · unfold comeT
    rw [if_pos rfl, ho]
    exact H5.out.ownP (t' := { t with at_ := 0, un := nev, tx := u, sd := 0, ld := 0, tr := 0 }) (f6.mono fun i hi => .inr hi) (Blk.foot hd f6 (fun e => by have h1 := lab_inj HH.out.lab.x HH.out.lab.px e; omega)) p6 ⟨Nat.le_refl _, Nat.zero_le _, hu⟩ rfl rfl rfl (fun e => e)
  · rcases hi with rfl | rfl
    · rw [HH.out.lab.x]; exact ⟨by omega, by omega⟩
    · rw [HH.out.lab.px]; exact ⟨by omega, by omega⟩

set_option maxRecDepth 100000 in
set_option maxHeartbeats 8000000 in
theorem coEnd2 {w : World} {lab : Nat → Nat} {b : DB} {c : ScT} {t : DT} (h : DiaR w lab b c t) : Calls Tryz.prog 79 #[.pointer (some ⟨b.x, 0, none⟩), .int .i64 2] w fun e w' => ∃ lab' b', e = .returned (.tuple #[]) ∧ LabEq lab lab' w ∧ DiaR w' lab' b' c (comeT c t 2) ∧ b'.x = b.x ∧ Foot (fun i => isD (lab i)) w w' := by
  have HH := Lib.hid h
  have hb := h.blk
  have d : ∀ w', Below w.heap.size w w' → (∀ i, w'.frozen? ⟨b.x, i, none⟩ = false) ∧ w'.cell? ⟨b.x, 10, none⟩ = some (.int .i64 t.at_) := fun w' hw => ⟨fun i => (Blk.later hb hw).frozen i, (Blk.later hb hw).cell 10⟩
  have hr := Below.refl w.heap.size w
  have h1 := hb.setAt 2
  have f1 : Foot (fun i => i = b.x) w (w.setCell ⟨b.x, 10, none⟩ (.int .i64 2)) := foot_set (fun i => i = b.x) (Foot.refl _ w) b.x 10 rfl _
  obtain ⟨w1, hw1⟩ : ∃ w1, w1 = w.setCell ⟨b.x, 10, none⟩ (.int .i64 2) := ⟨_, rfl⟩
  rw [← hw1] at h1 f1
  have HW1 := Lib.hid hw1
  have FR : Hid (∀ w, Calls Tryz.prog 118 #[.agg #[.int .i64 t.un, .int .i64 t.li, .int .i64 t.cu]] w fun e w' => e = .returned (.agg #[.int .i64 9223372036854775807, .int .i64 t.li, .int .i64 t.cu]) ∧ Below w.heap.size w w') := Lib.hid fun w => dRest t.un t.li t.cu w
  clear hw1 hb h
  go_enter Tryz.func79, Tryz.ntmps79
  go_upto_region 1 with fail
  rw [← HW1.out]
  clear d hr
  have d : ∀ w', Below w1.heap.size w1 w' → w'.cell? ⟨b.x, 13, none⟩ = some (.int .i64 t.un) ∧ w'.cell? ⟨b.x, 14, none⟩ = some (.int .i64 t.li) ∧ w'.cell? ⟨b.x, 15, none⟩ = some (.int .i64 t.cu) := fun w' hw => ⟨(Blk.later h1 hw).cell 13, (Blk.later h1 hw).cell 14, (Blk.later h1 hw).cell 15⟩
  have hr := Below.refl w1.heap.size w1
  go_wp2_with fail
  refine (FR.out _).mono ?_; rintro e w2 ⟨rfl, b2⟩
  have h2 : DiB w2 b.x { t.dc c b 0 with at_ := 2 } := Blk.later h1 b2
  have f2 := f1.up b2
  clear d hr FR
  have d : ∀ w', Below w2.heap.size w2 w' → (∀ i, w'.frozen? ⟨b.x, i, none⟩ = false) ∧ w'.cell? ⟨b.x, 13, none⟩ = some (.int .i64 t.un) ∧ w'.cell? ⟨b.x, 14, none⟩ = some (.int .i64 t.li) ∧ w'.cell? ⟨b.x, 15, none⟩ = some (.int .i64 t.cu) := fun w' hw => ⟨fun i => (Blk.later h2 hw).frozen i, (Blk.later h2 hw).cell 13, (Blk.later h2 hw).cell 14, (Blk.later h2 hw).cell 15⟩
  have hr := Below.refl w2.heap.size w2
  have h3 : DiB _ b.x (({ t with at_ := 2, un := nev } : DT).dc c b 0) := h2.setDue 9223372036854775807 t.li t.cu
  have f3 : Foot (fun i => i = b.x) w (((w2.setCell ⟨b.x, 13, none⟩ (.int .i64 9223372036854775807)).setCell ⟨b.x, 14, none⟩ (.int .i64 t.li)).setCell ⟨b.x, 15, none⟩ (.int .i64 t.cu)) := foot_set (fun i => i = b.x) (foot_set (fun i => i = b.x) (foot_set (fun i => i = b.x) f2 b.x 13 rfl _) b.x 14 rfl _) b.x 15 rfl _
  obtain ⟨w3, hw3⟩ : ∃ w3, w3 = ((w2.setCell ⟨b.x, 13, none⟩ (.int .i64 9223372036854775807)).setCell ⟨b.x, 14, none⟩ (.int .i64 t.li)).setCell ⟨b.x, 15, none⟩ (.int .i64 t.cu) := ⟨_, rfl⟩
  rw [← hw3] at h3 f3
  have HW3 := Lib.hid hw3
  have H3 := Lib.hid (HH.out.own (t' := { t with at_ := 2, un := nev }) f3 h3 rfl rfl rfl ⟨rfl, rfl, rfl, rfl⟩ (fun e => e))
  have FO : Calls Tryz.prog 98 #[.pointer (some ⟨b.x, 0, none⟩)] w3 fun e w' => e = .returned (.agg #[.int .i64 0, .string ⟨#[]⟩, .int .i64 0, .int .i64 0, .slice none 0 0, .int .i64 0, .int .i64 0]) ∧ Below w3.heap.size w3 w' := by
    have := diOpB (b := b) (c := c) (t := { t with at_ := 2, un := nev }) h3 rfl rfl H3.out.scr (by show 2 ≤ 2; omega)
    unfold opVal at this; rw [if_neg (by show ¬ (2 = 0); omega), if_neg (by show ¬ (2 = 1); omega)] at this; exact this
  have FO := Lib.hid FO
  have F3 := Lib.hid f3
  clear hw3 h1 h2 h3 f1 f2 f3 b2
  go_upto_region 2 with fail
  rw [← HW3.out]
  clear d hr
  go_wp2_with fail
  refine FO.out.mono ?_; rintro e w4 ⟨rfl, b4⟩
  obtain ⟨q, hq⟩ : ∃ q, w4.heap.size = q := ⟨_, rfl⟩
  obtain ⟨w5, hw5⟩ : ∃ w5, w5 = w4.alloc (.cells #[.int .i64 0, .string ⟨#[]⟩, .int .i64 0, .int .i64 0, .slice none 0 0, .int .i64 0, .int .i64 0] 29) := ⟨_, rfl⟩
  have b5 : Below w4.heap.size w4 w5 := by rw [hw5]; exact Below.alloc (Below.refl _ _) (Nat.le_refl _) _
  have KQ : Blk w5 q 29 #[.int .i64 0, .string ⟨#[]⟩, .int .i64 0, .int .i64 0, .slice none 0 0, .int .i64 0, .int .i64 0] := by rw [hw5, ← hq]; exact Blk.new _ _ _
  have HW5 := Lib.hid hw5
  have HQ := Lib.hid hq
  have NQ : Hid (b.x < q ∧ b.hx < q) := Lib.hid (by obtain ⟨l1, l2, l3, l4, _⟩ := (H3.out.later b4).lt; omega)
  have H5 := Lib.hid (H3.out.later (b4.up b5))
  have F5 := Lib.hid (F3.out.up (b4.up b5))
  clear hw5 hq b4 b5 FO H3 F3
  go_upto_region 3 with fail
  rw [← HW5.out, HQ.out]
  have dq := KQ.at7
  have hr := Below.refl w5.heap.size w5
  go_wp2_with fail
  go_end0
  refine ⟨lab, b, rfl, LabEq.refl _ _, ?_, rfl, F5.out.mono fun i hi => by rw [hi, HH.out.lab.x]; exact ⟨by omega, by omega⟩⟩
  unfold comeT
  rw [if_neg (by omega), if_neg (by omega)]
  exact H5.out

set_option maxRecDepth 100000 in
set_option maxHeartbeats 8000000 in
theorem coExp0 {w : World} {lab : Nat → Nat} {b : DB} {c : ScT} {t : DT} (h : DiaR w lab b c t) {n : Int} (ho : c.o1 = .expect n none) (hlv : t.lv = true) (hwin : t.win = []) (hi : i64 t.now ∧ i64 n) : Calls Tryz.prog 79 #[.pointer (some ⟨b.x, 0, none⟩), .int .i64 1] w fun e w' => ∃ lab' b', e = .returned (.tuple #[]) ∧ LabEq lab lab' w ∧ DiaR w' lab' b' c (comeT c t 1) ∧ b'.x = b.x ∧ Foot (fun i => isD (lab i)) w w' := by
  have HH := Lib.hid h
  have hb := h.blk
  have d : ∀ w', Below w.heap.size w w' → (∀ i, w'.frozen? ⟨b.x, i, none⟩ = false) ∧ w'.cell? ⟨b.x, 10, none⟩ = some (.int .i64 t.at_) := fun w' hw => ⟨fun i => (Blk.later hb hw).frozen i, (Blk.later hb hw).cell 10⟩
  have hr := Below.refl w.heap.size w
  have h1 := hb.setAt 1
  have f1 : Foot (fun i => i = b.x) w (w.setCell ⟨b.x, 10, none⟩ (.int .i64 1)) := foot_set (fun i => i = b.x) (Foot.refl _ w) b.x 10 rfl _
  obtain ⟨w1, hw1⟩ : ∃ w1, w1 = w.setCell ⟨b.x, 10, none⟩ (.int .i64 1) := ⟨_, rfl⟩
  rw [← hw1] at h1 f1
  have HW1 := Lib.hid hw1
  have FR : Hid (∀ w, Calls Tryz.prog 118 #[.agg #[.int .i64 t.un, .int .i64 t.li, .int .i64 t.cu]] w fun e w' => e = .returned (.agg #[.int .i64 9223372036854775807, .int .i64 t.li, .int .i64 t.cu]) ∧ Below w.heap.size w w') := Lib.hid fun w => dRest t.un t.li t.cu w
  clear hw1 hb h
  go_enter Tryz.func79, Tryz.ntmps79
  go_upto_region 1 with fail
  rw [← HW1.out]
  clear d hr
  have d : ∀ w', Below w1.heap.size w1 w' → w'.cell? ⟨b.x, 13, none⟩ = some (.int .i64 t.un) ∧ w'.cell? ⟨b.x, 14, none⟩ = some (.int .i64 t.li) ∧ w'.cell? ⟨b.x, 15, none⟩ = some (.int .i64 t.cu) := fun w' hw => ⟨(Blk.later h1 hw).cell 13, (Blk.later h1 hw).cell 14, (Blk.later h1 hw).cell 15⟩
  have hr := Below.refl w1.heap.size w1
  go_wp2_with fail
  refine (FR.out _).mono ?_; rintro e w2 ⟨rfl, b2⟩
  have h2 : DiB w2 b.x { t.dc c b 0 with at_ := 1 } := Blk.later h1 b2
  have f2 := f1.up b2
  clear d hr FR
  have d : ∀ w', Below w2.heap.size w2 w' → (∀ i, w'.frozen? ⟨b.x, i, none⟩ = false) ∧ w'.cell? ⟨b.x, 13, none⟩ = some (.int .i64 t.un) ∧ w'.cell? ⟨b.x, 14, none⟩ = some (.int .i64 t.li) ∧ w'.cell? ⟨b.x, 15, none⟩ = some (.int .i64 t.cu) := fun w' hw => ⟨fun i => (Blk.later h2 hw).frozen i, (Blk.later h2 hw).cell 13, (Blk.later h2 hw).cell 14, (Blk.later h2 hw).cell 15⟩
  have hr := Below.refl w2.heap.size w2
  have h3 : DiB _ b.x (({ t with at_ := 1, un := nev } : DT).dc c b 0) := h2.setDue 9223372036854775807 t.li t.cu
  have f3 : Foot (fun i => i = b.x) w (((w2.setCell ⟨b.x, 13, none⟩ (.int .i64 9223372036854775807)).setCell ⟨b.x, 14, none⟩ (.int .i64 t.li)).setCell ⟨b.x, 15, none⟩ (.int .i64 t.cu)) := foot_set (fun i => i = b.x) (foot_set (fun i => i = b.x) (foot_set (fun i => i = b.x) f2 b.x 13 rfl _) b.x 14 rfl _) b.x 15 rfl _
  obtain ⟨w3, hw3⟩ : ∃ w3, w3 = ((w2.setCell ⟨b.x, 13, none⟩ (.int .i64 9223372036854775807)).setCell ⟨b.x, 14, none⟩ (.int .i64 t.li)).setCell ⟨b.x, 15, none⟩ (.int .i64 t.cu) := ⟨_, rfl⟩
  rw [← hw3] at h3 f3
  have HW3 := Lib.hid hw3
  have H3 := Lib.hid (HH.out.own (t' := { t with at_ := 1, un := nev }) f3 h3 rfl rfl rfl ⟨rfl, rfl, rfl, rfl⟩ (fun e => e))
  have FO : Calls Tryz.prog 98 #[.pointer (some ⟨b.x, 0, none⟩)] w3 fun e w' => e = .returned (.agg #[.int .i64 2, .string ⟨#[]⟩, .int .i64 n, .int .i64 0, .slice none 0 0, .int .i64 (-1), .int .i64 (-1)]) ∧ Below w3.heap.size w3 w' := by
    have := diOpB (b := b) (c := c) (t := { t with at_ := 1, un := nev }) h3 rfl rfl H3.out.scr (by show 1 ≤ 2; omega)
    unfold opVal at this; rw [if_neg (by show ¬ (1 = 0); omega), if_pos rfl, ho] at this; exact this
  have FO := Lib.hid FO
  have F3 := Lib.hid f3
  clear hw3 h1 h2 h3 f1 f2 f3 b2
  go_upto_region 2 with fail
  rw [← HW3.out]
  clear d hr
  go_wp2_with fail
  refine FO.out.mono ?_; rintro e w4 ⟨rfl, b4⟩
  obtain ⟨q, hq⟩ : ∃ q, w4.heap.size = q := ⟨_, rfl⟩
  obtain ⟨w5, hw5⟩ : ∃ w5, w5 = w4.alloc (.cells #[.int .i64 2, .string ⟨#[]⟩, .int .i64 n, .int .i64 0, .slice none 0 0, .int .i64 (-1), .int .i64 (-1)] 29) := ⟨_, rfl⟩
  have b5 : Below w4.heap.size w4 w5 := by rw [hw5]; exact Below.alloc (Below.refl _ _) (Nat.le_refl _) _
  have KQ : Blk w5 q 29 #[.int .i64 2, .string ⟨#[]⟩, .int .i64 n, .int .i64 0, .slice none 0 0, .int .i64 (-1), .int .i64 (-1)] := by rw [hw5, ← hq]; exact Blk.new _ _ _
  have HW5 := Lib.hid hw5
  have HQ := Lib.hid hq
  have NQ : Hid (b.x < q ∧ b.hx < q) := Lib.hid (by obtain ⟨l1, l2, l3, l4, _⟩ := (H3.out.later b4).lt; omega)
  have H5 := Lib.hid (H3.out.later (b4.up b5))
  have F5 := Lib.hid (F3.out.up (b4.up b5))
  clear hw5 hq b4 b5 FO H3 F3
  go_upto_region 3 with fail
  rw [← HW5.out, HQ.out]
  have dq := KQ.at7
  have hr := Below.refl w5.heap.size w5
  have HI : Hid (i64 t.now ∧ i64 n) := Lib.hid hi
  have FW : Hid (∀ w, Calls Tryz.prog 121 #[.agg #[.int .i64 9223372036854775807, .int .i64 t.li, .int .i64 t.cu], .int .i64 t.now, .int .i64 n] w fun e w' => e = .returned (.agg #[.int .i64 (behT t.now n), .int .i64 t.li, .int .i64 t.cu]) ∧ Below w.heap.size w w') := Lib.hid fun w => dWait _ t.li t.cu t.now n w HI.out.1 HI.out.2
  clear hi
  have hd := H5.out.blk
  have hol5 : HolR w5 b.hx b.bv c.n [] 0 (b.ap t.pat) := ⟨by have := H5.out.hol; rw [hwin] at this; exact this, by have := H5.out.row hlv; rw [hwin] at this; exact this, fun e => by have h1 := lab_inj (HH.out.lab.row _ e) HH.out.lab.hx rfl; omega⟩
  have FG := Lib.hid (hoBegin0 hol5)
  have d : ∀ w', Below w5.heap.size w5 w' → w'.cell? ⟨b.x, 17, none⟩ = some (.pointer (some ⟨b.hx, 0, none⟩)) := fun w' hw => (Blk.later hd hw).cell 17
  clear hol5
  go_wp2_with fail
  refine wp_loop_rounds 1 ?_
  rw [rounds_succ]
  go_wp2_with fail
  refine FG.out.mono ?_; rintro e w7 ⟨ar, rfl, h7, a7, n7, f7⟩
  have KQ7 := KQ.foot f7 (by have := NQ.out; omega)
  have h7x : DiB w7 b.x (({ t with at_ := 1, un := nev } : DT).dc c b 0) := Blk.foot H5.out.blk f7 (fun e => by have h1 := lab_inj HH.out.lab.x HH.out.lab.hx e; omega)
  obtain ⟨lab', le7, H7⟩ := H5.out.ownH (t' := { t with at_ := 1, un := nev, pat := some Pat.no }) hwin (f7.mono fun i hi => .inr hi) h7x h7 a7 n7 rfl rfl rfl ⟨rfl, rfl, rfl, rfl⟩ (fun e => e)
  have H7 := Lib.hid H7
  have LE7 := Lib.hid le7
  clear le7 h7 a7 n7 dq hr FG
  have hr := Below.refl w7.heap.size w7
  clear d
  have dq := KQ7.at7
  have d : ∀ w', Below w7.heap.size w7 w' → w'.cell? ⟨b.x, 13, none⟩ = some (.int .i64 9223372036854775807) ∧ w'.cell? ⟨b.x, 14, none⟩ = some (.int .i64 t.li) ∧ w'.cell? ⟨b.x, 15, none⟩ = some (.int .i64 t.cu) ∧ w'.cell? ⟨b.x, 20, none⟩ = some (.int .i64 t.now) := fun w' hw => ⟨(Blk.later h7x hw).cell 13, (Blk.later h7x hw).cell 14, (Blk.later h7x hw).cell 15, (Blk.later h7x hw).cell 20⟩
  go_upto_region 14 with fail
  refine wp_region_later_tail w7.heap.size 14 (by kernel_rfl) (by kernel_rfl) ?_
  simp only [List.take_succ_cons, List.take_zero, List.drop_succ_cons, List.drop_zero]
  have hu : ∀ u : Later w7.heap.size w7, Below w7.heap.size w7 u.world := Later.below
  repeat (go_big_quiet_step ((first | (go_at_call 121; exact later_below (Nat.le_refl _) (FW.out _)))))
  refine wpQuiet_nil ?_
  intro w8 b8
  clear d dq hr hu
  have hb8 : DiB w8 b.x _ := Blk.later h7x b8
  have d : ∀ w', Below w8.heap.size w8 w' → (∀ i, w'.frozen? ⟨b.x, i, none⟩ = false) ∧ w'.cell? ⟨b.x, 13, none⟩ = some (.int .i64 9223372036854775807) ∧ w'.cell? ⟨b.x, 14, none⟩ = some (.int .i64 t.li) ∧ w'.cell? ⟨b.x, 15, none⟩ = some (.int .i64 t.cu) := fun w' hw => ⟨fun i => (Blk.later hb8 hw).frozen i, (Blk.later hb8 hw).cell 13, (Blk.later hb8 hw).cell 14, (Blk.later hb8 hw).cell 15⟩
  have hr := Below.refl w8.heap.size w8
  go_wp2_with fail
  go_end0
  have fx : Foot (fun i => i = b.x) w7 (((w8.setCell ⟨b.x, 13, none⟩ (.int .i64 (behT t.now n))).setCell ⟨b.x, 14, none⟩ (.int .i64 t.li)).setCell ⟨b.x, 15, none⟩ (.int .i64 t.cu)) := foot_set (fun i => i = b.x) (foot_set (fun i => i = b.x) (foot_set (fun i => i = b.x) (Foot.later b8) b.x 13 rfl _) b.x 14 rfl _) b.x 15 rfl _
  refine ⟨lab', { b with ar := ar }, rfl, fun i hi => (LE7.out i (Nat.lt_of_lt_of_le hi F5.out.size)), ?_, rfl, ?_⟩
  · unfold comeT
    rw [if_neg (by omega), if_pos rfl, ho]
    exact H7.out.own fx (hb8.setDue (behT t.now n) t.li t.cu) rfl rfl rfl ⟨rfl, rfl, rfl, rfl⟩ (fun e => e)
  · have n1 := HH.out.lab.x
    have n2 := HH.out.lab.hx
    refine ((F5.out.mono (G := fun i => i = b.x ∨ i = b.hx) fun i hi => .inl hi).trans ((f7.mono fun i hi => .inr hi).trans (fx.mono fun i hi => .inl hi))).mono fun i hi => ?_
    rcases hi with rfl | rfl
    · rw [n1]; exact ⟨by omega, by omega⟩
    · rw [n2]; exact ⟨by omega, by omega⟩

set_option maxRecDepth 100000 in
set_option maxHeartbeats 8000000 in
theorem coExp1 {w : World} {lab : Nat → Nat} {b : DB} {c : ScT} {t : DT} (h : DiaR w lab b c t) {n : Int} {p : ByteArray} {k : Nat} (ho : c.o1 = .expect n (some (p, k))) (hp : PlainS p) (hp0 : 0 < p.size) (hlv : t.lv = true) (hwin : t.win = []) (hi : i64 t.now ∧ i64 n) : Calls Tryz.prog 79 #[.pointer (some ⟨b.x, 0, none⟩), .int .i64 1] w fun e w' => ∃ lab' b', e = .returned (.tuple #[]) ∧ LabEq lab lab' w ∧ DiaR w' lab' b' c (comeT c t 1) ∧ b'.x = b.x ∧ Foot (fun i => isD (lab i)) w w' := by
  have HH := Lib.hid h
  have hb := h.blk
  have d : ∀ w', Below w.heap.size w w' → (∀ i, w'.frozen? ⟨b.x, i, none⟩ = false) ∧ w'.cell? ⟨b.x, 10, none⟩ = some (.int .i64 t.at_) := fun w' hw => ⟨fun i => (Blk.later hb hw).frozen i, (Blk.later hb hw).cell 10⟩
  have hr := Below.refl w.heap.size w
  have h1 := hb.setAt 1
  have f1 : Foot (fun i => i = b.x) w (w.setCell ⟨b.x, 10, none⟩ (.int .i64 1)) := foot_set (fun i => i = b.x) (Foot.refl _ w) b.x 10 rfl _
  obtain ⟨w1, hw1⟩ : ∃ w1, w1 = w.setCell ⟨b.x, 10, none⟩ (.int .i64 1) := ⟨_, rfl⟩
  rw [← hw1] at h1 f1
  have HW1 := Lib.hid hw1
  have FR : Hid (∀ w, Calls Tryz.prog 118 #[.agg #[.int .i64 t.un, .int .i64 t.li, .int .i64 t.cu]] w fun e w' => e = .returned (.agg #[.int .i64 9223372036854775807, .int .i64 t.li, .int .i64 t.cu]) ∧ Below w.heap.size w w') := Lib.hid fun w => dRest t.un t.li t.cu w
  clear hw1 hb h
  go_enter Tryz.func79, Tryz.ntmps79
  go_upto_region 1 with fail
  rw [← HW1.out]
  clear d hr
  have d : ∀ w', Below w1.heap.size w1 w' → w'.cell? ⟨b.x, 13, none⟩ = some (.int .i64 t.un) ∧ w'.cell? ⟨b.x, 14, none⟩ = some (.int .i64 t.li) ∧ w'.cell? ⟨b.x, 15, none⟩ = some (.int .i64 t.cu) := fun w' hw => ⟨(Blk.later h1 hw).cell 13, (Blk.later h1 hw).cell 14, (Blk.later h1 hw).cell 15⟩
  have hr := Below.refl w1.heap.size w1
  go_wp2_with fail
  refine (FR.out _).mono ?_; rintro e w2 ⟨rfl, b2⟩
  have h2 : DiB w2 b.x { t.dc c b 0 with at_ := 1 } := Blk.later h1 b2
  have f2 := f1.up b2
  clear d hr FR
  have d : ∀ w', Below w2.heap.size w2 w' → (∀ i, w'.frozen? ⟨b.x, i, none⟩ = false) ∧ w'.cell? ⟨b.x, 13, none⟩ = some (.int .i64 t.un) ∧ w'.cell? ⟨b.x, 14, none⟩ = some (.int .i64 t.li) ∧ w'.cell? ⟨b.x, 15, none⟩ = some (.int .i64 t.cu) := fun w' hw => ⟨fun i => (Blk.later h2 hw).frozen i, (Blk.later h2 hw).cell 13, (Blk.later h2 hw).cell 14, (Blk.later h2 hw).cell 15⟩
  have hr := Below.refl w2.heap.size w2
  have h3 : DiB _ b.x (({ t with at_ := 1, un := nev } : DT).dc c b 0) := h2.setDue 9223372036854775807 t.li t.cu
  have f3 : Foot (fun i => i = b.x) w (((w2.setCell ⟨b.x, 13, none⟩ (.int .i64 9223372036854775807)).setCell ⟨b.x, 14, none⟩ (.int .i64 t.li)).setCell ⟨b.x, 15, none⟩ (.int .i64 t.cu)) := foot_set (fun i => i = b.x) (foot_set (fun i => i = b.x) (foot_set (fun i => i = b.x) f2 b.x 13 rfl _) b.x 14 rfl _) b.x 15 rfl _
  obtain ⟨w3, hw3⟩ : ∃ w3, w3 = ((w2.setCell ⟨b.x, 13, none⟩ (.int .i64 9223372036854775807)).setCell ⟨b.x, 14, none⟩ (.int .i64 t.li)).setCell ⟨b.x, 15, none⟩ (.int .i64 t.cu) := ⟨_, rfl⟩
  rw [← hw3] at h3 f3
  have HW3 := Lib.hid hw3
  have H3 := Lib.hid (HH.out.own (t' := { t with at_ := 1, un := nev }) f3 h3 rfl rfl rfl ⟨rfl, rfl, rfl, rfl⟩ (fun e => e))
  have FO : Calls Tryz.prog 98 #[.pointer (some ⟨b.x, 0, none⟩)] w3 fun e w' => e = .returned (.agg #[.int .i64 2, .string ⟨#[]⟩, .int .i64 n, .int .i64 0, .slice (some ⟨b.s.a1, 0, none⟩) 1 b.s.c1, .int .i64 (-1), .int .i64 (-1)]) ∧ Below w3.heap.size w3 w' := by
    have := diOpB (b := b) (c := c) (t := { t with at_ := 1, un := nev }) h3 rfl rfl H3.out.scr (by show 1 ≤ 2; omega)
    unfold opVal at this; rw [if_neg (by show ¬ (1 = 0); omega), if_pos rfl, ho] at this; exact this
  have FO := Lib.hid FO
  have F3 := Lib.hid f3
  clear hw3 h1 h2 h3 f1 f2 f3 b2
  go_upto_region 2 with fail
  rw [← HW3.out]
  clear d hr
  go_wp2_with fail
  refine FO.out.mono ?_; rintro e w4 ⟨rfl, b4⟩
  obtain ⟨q, hq⟩ : ∃ q, w4.heap.size = q := ⟨_, rfl⟩
  obtain ⟨w5, hw5⟩ : ∃ w5, w5 = w4.alloc (.cells #[.int .i64 2, .string ⟨#[]⟩, .int .i64 n, .int .i64 0, .slice (some ⟨b.s.a1, 0, none⟩) 1 b.s.c1, .int .i64 (-1), .int .i64 (-1)] 29) := ⟨_, rfl⟩
  have b5 : Below w4.heap.size w4 w5 := by rw [hw5]; exact Below.alloc (Below.refl _ _) (Nat.le_refl _) _
  have KQ : Blk w5 q 29 #[.int .i64 2, .string ⟨#[]⟩, .int .i64 n, .int .i64 0, .slice (some ⟨b.s.a1, 0, none⟩) 1 b.s.c1, .int .i64 (-1), .int .i64 (-1)] := by rw [hw5, ← hq]; exact Blk.new _ _ _
  have HW5 := Lib.hid hw5
  have HQ := Lib.hid hq
  have NQ : Hid (b.x < q ∧ b.hx < q) := Lib.hid (by obtain ⟨l1, l2, l3, l4, _⟩ := (H3.out.later b4).lt; omega)
  have H5 := Lib.hid (H3.out.later (b4.up b5))
  have F5 := Lib.hid (F3.out.up (b4.up b5))
  clear hw5 hq b4 b5 FO H3 F3
  go_upto_region 3 with fail
  rw [← HW5.out, HQ.out]
  have dq := KQ.at7
  have hr := Below.refl w5.heap.size w5
  have HI : Hid (i64 t.now ∧ i64 n) := Lib.hid hi
  have FW : Hid (∀ w, Calls Tryz.prog 121 #[.agg #[.int .i64 9223372036854775807, .int .i64 t.li, .int .i64 t.cu], .int .i64 t.now, .int .i64 n] w fun e w' => e = .returned (.agg #[.int .i64 (behT t.now n), .int .i64 t.li, .int .i64 t.cu]) ∧ Below w.heap.size w w') := Lib.hid fun w => dWait _ t.li t.cu t.now n w HI.out.1 HI.out.2
  clear hi
  have hd := H5.out.blk
  obtain ⟨lag, ha0, ha1⟩ := H5.out.scr.arm1 n p k ho
  have da : ∀ w', Below w5.heap.size w5 w' → w'.cell? ⟨b.s.a1, 0, none⟩ = some (.string p) ∧ w'.cell? ⟨b.s.a1, 1, none⟩ = some (.int .i64 (k : Nat)) := fun w' hw => ⟨(cell_same (hw.block _ lag)).trans ha0, (cell_same (hw.block _ lag)).trans ha1⟩
  have HPP := Lib.hid (And.intro hp hp0)
  clear ha0 ha1 lag hp hp0
  obtain ⟨m, hm⟩ : ∃ m, w5.heap.size = m := ⟨_, rfl⟩
  obtain ⟨w6, hw6⟩ : ∃ w6, w6 = w5.alloc (.cells #[.string p, .int .i64 (k : Nat)] 65) := ⟨_, rfl⟩
  have b6 : Below w5.heap.size w5 w6 := by rw [hw6]; exact Below.alloc (Below.refl _ _) (Nat.le_refl _) _
  have KM : Blk w6 m 65 #[.string p, .int .i64 (k : Nat)] := by rw [hw6, ← hm]; exact Blk.new _ _ _
  have HW6 := Lib.hid hw6
  have HM := Lib.hid hm
  have B6 := Lib.hid b6
  clear hw6 hm b6
  go_wp2_with fail
  refine wp_loop_rounds 2 ?_
  rw [rounds_succ]
  go_upto_region 11 with fail
  rw [← HW6.out, HM.out]
  clear da dq hr
  have dm := KM.at2
  have hr := Below.refl w6.heap.size w6
  go_wp2_with (at_builtin; refine wpList_append_elem info_Str rfl (by decide) (by decide) Tryz.underlying173 _ rfl _ _ rfl 0 (.slice none 0 0) 0 [] rfl (orow_nil _ _ 0 _) w6.heap.size rfl [.string p] rfl ?ta1 ?ta2 (by omega) ?ta3 ?ta4)
  case ta1 => intro j u hj; exact ((Blk.new w6 9 #[.string p]).cell j).trans (by simpa using hj)
  case ta2 => intro u hu; simp at hu; subst hu; rfl
  case ta3 => simp
  case ta4 =>
  intro ao cap w9 o9 g9
  have b9 : Below w6.heap.size w6 w9 := (Below.alloc (Below.refl _ _) (Nat.le_refl _) _).trans ⟨g9.os, g9.tape, g9.output, g9.size, fun k hk => g9.block k (by simp; omega) (fun e => by cases e)⟩
  obtain ⟨pg, rfl, hpg, hcp⟩ := orow_cell o9 0 (by simp)
  have hcp9 := hcp w9 (Below.refl _ _)
  have b59 := B6.out.up b9
  have H5' := Lib.hid (H5.out.later b59)
  have F5' := Lib.hid (F5.out.up b59)
  have KQ9 := KQ.later b59
  clear dm hr g9 o9 b9 hcp
  have hd := H5'.out.blk
  have hol5 : HolR w9 b.hx b.bv c.n [] 0 (b.ap t.pat) := ⟨by have := H5'.out.hol; rw [hwin] at this; exact this, by have := H5'.out.row hlv; rw [hwin] at this; exact this, fun e => by have h1 := lab_inj (HH.out.lab.row _ e) HH.out.lab.hx rfl; omega⟩
  have FG := Lib.hid (hoBegin1 hol5 p HPP.out.1 HPP.out.2 pg cap (by simpa using hcp9))
  have d : ∀ w', Below w9.heap.size w9 w' → w'.cell? ⟨b.x, 17, none⟩ = some (.pointer (some ⟨b.hx, 0, none⟩)) := fun w' hw => (Blk.later hd hw).cell 17
  clear hol5 hcp9 H5 F5 KQ
  have hr := Below.refl w9.heap.size w9
  go_wp2_with fail
  rw [rounds_succ]
  go_wp2_with fail
  refine FG.out.mono ?_; rintro e w7 ⟨ar, rfl, h7, a7, n7, f7⟩
  have KQ7 := KQ9.foot f7 (by have := NQ.out; omega)
  have H5 := H5'
  have F5 := F5'
  have dq := KQ7.at7
  clear d
  have h7x : DiB w7 b.x (({ t with at_ := 1, un := nev } : DT).dc c b 0) := Blk.foot H5.out.blk f7 (fun e => by have h1 := lab_inj HH.out.lab.x HH.out.lab.hx e; omega)
  obtain ⟨lab', le7, H7⟩ := H5.out.ownH (t' := { t with at_ := 1, un := nev, pat := some (Pat.at (tabP p.data.toList) (startT (tabP p.data.toList))) }) hwin (f7.mono fun i hi => .inr hi) h7x h7 a7 n7 rfl rfl rfl ⟨rfl, rfl, rfl, rfl⟩ (fun e => e)
  have H7 := Lib.hid H7
  have LE7 := Lib.hid le7
  clear le7 h7 a7 n7 dq hr FG
  have hr := Below.refl w7.heap.size w7
  have dq := KQ7.at7
  have d : ∀ w', Below w7.heap.size w7 w' → w'.cell? ⟨b.x, 13, none⟩ = some (.int .i64 9223372036854775807) ∧ w'.cell? ⟨b.x, 14, none⟩ = some (.int .i64 t.li) ∧ w'.cell? ⟨b.x, 15, none⟩ = some (.int .i64 t.cu) ∧ w'.cell? ⟨b.x, 20, none⟩ = some (.int .i64 t.now) := fun w' hw => ⟨(Blk.later h7x hw).cell 13, (Blk.later h7x hw).cell 14, (Blk.later h7x hw).cell 15, (Blk.later h7x hw).cell 20⟩
  go_upto_region 14 with fail
  refine wp_region_later_tail w7.heap.size 14 (by kernel_rfl) (by kernel_rfl) ?_
  simp only [List.take_succ_cons, List.take_zero, List.drop_succ_cons, List.drop_zero]
  have hu : ∀ u : Later w7.heap.size w7, Below w7.heap.size w7 u.world := Later.below
  repeat (go_big_quiet_step ((first | (go_at_call 121; exact later_below (Nat.le_refl _) (FW.out _)))))
  refine wpQuiet_nil ?_
  intro w8 b8
  clear d dq hr hu
  have hb8 : DiB w8 b.x _ := Blk.later h7x b8
  have d : ∀ w', Below w8.heap.size w8 w' → (∀ i, w'.frozen? ⟨b.x, i, none⟩ = false) ∧ w'.cell? ⟨b.x, 13, none⟩ = some (.int .i64 9223372036854775807) ∧ w'.cell? ⟨b.x, 14, none⟩ = some (.int .i64 t.li) ∧ w'.cell? ⟨b.x, 15, none⟩ = some (.int .i64 t.cu) := fun w' hw => ⟨fun i => (Blk.later hb8 hw).frozen i, (Blk.later hb8 hw).cell 13, (Blk.later hb8 hw).cell 14, (Blk.later hb8 hw).cell 15⟩
  have hr := Below.refl w8.heap.size w8
  go_wp2_with fail
  go_end0
  have fx : Foot (fun i => i = b.x) w7 (((w8.setCell ⟨b.x, 13, none⟩ (.int .i64 (behT t.now n))).setCell ⟨b.x, 14, none⟩ (.int .i64 t.li)).setCell ⟨b.x, 15, none⟩ (.int .i64 t.cu)) := foot_set (fun i => i = b.x) (foot_set (fun i => i = b.x) (foot_set (fun i => i = b.x) (Foot.later b8) b.x 13 rfl _) b.x 14 rfl _) b.x 15 rfl _
  refine ⟨lab', { b with ar := ar }, rfl, fun i hi => (LE7.out i (Nat.lt_of_lt_of_le hi F5.out.size)), ?_, rfl, ?_⟩
  · unfold comeT
    rw [if_neg (by omega), if_pos rfl, ho]
    exact H7.out.own fx (hb8.setDue (behT t.now n) t.li t.cu) rfl rfl rfl ⟨rfl, rfl, rfl, rfl⟩ (fun e => e)
  · have n1 := HH.out.lab.x
    have n2 := HH.out.lab.hx
    refine ((F5.out.mono (G := fun i => i = b.x ∨ i = b.hx) fun i hi => .inl hi).trans ((f7.mono fun i hi => .inr hi).trans (fx.mono fun i hi => .inl hi))).mono fun i hi => ?_
    rcases hi with rfl | rfl
    · rw [n1]; exact ⟨by omega, by omega⟩
    · rw [n2]; exact ⟨by omega, by omega⟩
end Go.Proofs.YtbhgmccaecmpjaaGreat
