/-
  Contracts of package dial that only look, second part: Ready, Price, Next, Room, Status.
  Conditions: the blocks are known; no deadline ends the script.
-/
import Derived.Test.YtbhgmccaecmpjaaGreatW21
namespace Go.Proofs.YtbhgmccaecmpjaaGreat
set_option linter.unusedVariables false
set_option linter.unusedSimpArgs false
open Go.RowKit

theorem ScT.ok.good {c : ScT} (h : c.ok) : goodB c.l c.r c.n c.o c.q c.v = true := by
  have := h.l; have := h.r; have := h.n; have := h.o; have := h.q; have := h.v
  rw [goodB_iff]; omega
set_option maxRecDepth 100000 in
set_option maxHeartbeats 4000000 in
theorem diReady {w : World} {lab : Nat → Nat} {b : DB} {c : ScT} {t : DT} (h : DiaR w lab b c t) (h2 : t.at_ ≤ 2) (now : Int) (hn : t.now ≤ now) (ho : overN t.li t.cu now = 0) : Calls Tryz.prog 60 #[.pointer (some ⟨b.x, 0, none⟩), .int .i64 now] w fun e w' => e = .returned (.bool (readyT c t now)) ∧ Below w.heap.size w w' := by
  have FR := Lib.hid (diRuns (b := true) h.blk rfl)
  have FI := Lib.hid (diReadyI h h2 now ho)
  have d : ∀ w', Below w.heap.size w w' → w'.cell? ⟨b.x, 20, none⟩ = some (.int .i64 t.now) := fun w' hw => (Blk.later h.blk hw).cell 20
  have hr := Below.refl w.heap.size w
  have hm : max now t.now = now := by omega
  generalize readyT c t now = rb at *
  clear h ho
  go_enter Tryz.func60, Tryz.ntmps60
  go_wp2_with fail
  refine FR.out.mono ?_; rintro e w1 ⟨rfl, rfl⟩
  go_wp2_with fail
  refine FI.out.mono ?_; rintro e w2 ⟨rfl, b2⟩
  go_wp2_with fail
  go_ret
  exact ⟨rfl, b2⟩
def kindT (c : ScT) (t : DT) : Int := match opAt c t with | none => 0 | some o => o.kind
/-- What the next step costs. -/
def priceT (c : ScT) (t : DT) : Int := priceS c.l c.r c.n c.o c.q c.v (kindT c t) 0 (if kindT c t = 1 then ((t.tx.size - t.ld : Nat) : Int) else (t.inb.length : Int))
set_option maxRecDepth 100000 in
set_option maxHeartbeats 4000000 in
theorem diPrice {w : World} {lab : Nat → Nat} {b : DB} {c : ScT} {t : DT} (h : DiaR w lab b c t) (h2 : t.at_ ≤ 2) : Calls Tryz.prog 62 #[.pointer (some ⟨b.x, 0, none⟩)] w fun e w' => e = .returned (.int .i64 (priceT c t)) ∧ Below w.heap.size w w' := by
  have HH := Lib.hid h
  have FR := Lib.hid (diRuns (b := true) h.blk rfl)
  have FL := Lib.hid (riLen h.rng)
  have hpb := h.pb
  have FX : Hid (∀ w', Below w.heap.size w w' → Calls Tryz.prog 99 #[.pointer (some ⟨b.px, 0, none⟩)] w' fun e w'' => e = .returned (.int .i64 ((t.tx.size - t.ld : Nat) : Int)) ∧ Below w'.heap.size w' w'') := Lib.hid fun w' hb => pRest b.px c.o t.tr t.tx t.sd t.ld w' (Blk.later h.pnd hb) hpb.1 hpb.2.1 (by have := hpb.2.2; omega)
  have FF : Hid (∀ w', Below w.heap.size w w' → Calls Tryz.prog 101 #[.pointer (some ⟨b.hx, 0, none⟩)] w' fun e w'' => e = .returned (.int .i64 0) ∧ Below w'.heap.size w' w'') := Lib.hid fun w' hb => hoFresh (h.hol.later hb)
  obtain ⟨kd, s, n, ao, m, cc, e, he, hkd⟩ := opVal_form c b t
  have FP : Hid (Calls Tryz.prog 98 #[.pointer (some ⟨b.x, 0, none⟩)] w fun e' w'' => e' = .returned (.agg #[.int .i64 kd, .string s, .int .i64 n, .int .i64 0, .slice ao m cc, .int .i64 e, .int .i64 e]) ∧ Below w.heap.size w w'') := Lib.hid <| by
    have := diOpB (b := b) (c := c) (t := t) h.blk rfl rfl h.scr h2
    rwa [he] at this
  have d : ∀ w', Below w.heap.size w w' → w'.cell? ⟨b.x, 0, none⟩ = some (.int .i64 c.l) ∧ w'.cell? ⟨b.x, 1, none⟩ = some (.int .i64 c.r) ∧ w'.cell? ⟨b.x, 2, none⟩ = some (.int .i64 c.n) ∧ w'.cell? ⟨b.x, 3, none⟩ = some (.int .i64 c.o) ∧ w'.cell? ⟨b.x, 4, none⟩ = some (.int .i64 c.q) ∧ w'.cell? ⟨b.x, 5, none⟩ = some (.int .i64 c.v) ∧ w'.cell? ⟨b.x, 18, none⟩ = some (.pointer (some ⟨b.px, 0, none⟩)) ∧ w'.cell? ⟨b.x, 17, none⟩ = some (.pointer (some ⟨b.hx, 0, none⟩)) ∧ w'.cell? ⟨b.x, 16, none⟩ = some (.pointer (some ⟨b.rx, 0, none⟩)) := fun w' hw => by
    have k := Blk.later h.blk hw
    exact ⟨k.cell 0, k.cell 1, k.cell 2, k.cell 3, k.cell 4, k.cell 5, k.cell 18, k.cell 17, k.cell 16⟩
  have D := Lib.hid d
  have hr := Below.refl w.heap.size w
  have hkT : kindT c t = kd := hkd.symm
  unfold priceT
  rw [hkT]
  clear h he hpb
  obtain ⟨z, hz⟩ : ∃ z, t.tx.size - t.ld = z := ⟨_, rfl⟩
  rw [hz] at FX ⊢
  obtain ⟨y, hy⟩ : ∃ y, t.inb.length = y := ⟨_, rfl⟩
  rw [hy] at FL ⊢
  by_cases k1 : kd = 1
  · subst k1
    rw [if_pos rfl]
    have FC : Hid (∀ w, Calls Tryz.prog 100 #[.agg #[.int .i64 c.l, .int .i64 c.r, .int .i64 c.n, .int .i64 c.o, .int .i64 c.q, .int .i64 c.v], .int .i64 1, .int .i64 0, .int .i64 z] w fun e w' => e = .returned (.int .i64 (priceS c.l c.r c.n c.o c.q c.v 1 0 z)) ∧ Below w.heap.size w w') := Lib.hid fun w => cPrice _ _ _ _ _ _ _ _ _ w
    generalize priceS c.l c.r c.n c.o c.q c.v 1 0 z = pr at *
    clear hkd hkT
    go_enter Tryz.func62, Tryz.ntmps62
    go_wp2_with fail
    refine FR.out.mono ?_; rintro e w1 ⟨rfl, rfl⟩
    go_wp2_with fail
    refine FL.out.mono ?_; rintro e w1 ⟨rfl, rfl⟩
    go_wp2_with fail
    refine FP.out.mono ?_; rintro e w2 ⟨rfl, b2⟩
    obtain ⟨q, hq⟩ : ∃ q, w2.heap.size = q := ⟨_, rfl⟩
    obtain ⟨w3, hw3⟩ : ∃ w3, w3 = w2.alloc (.cells #[.int .i64 1, .string s, .int .i64 n, .int .i64 0, .slice ao m cc, .int .i64 e, .int .i64 e] 29) := ⟨_, rfl⟩
    have b3 : Below w2.heap.size w2 w3 := by rw [hw3]; exact Below.alloc (Below.refl _ _) (Nat.le_refl _) _
    have KQ : Blk w3 q 29 #[.int .i64 1, .string s, .int .i64 n, .int .i64 0, .slice ao m cc, .int .i64 e, .int .i64 e] := by rw [hw3, ← hq]; exact Blk.new _ _ _
    have B3 := Lib.hid (b2.up b3)
    have HW3 := Lib.hid hw3
    have HQ := Lib.hid hq
    clear hw3 hq b2 b3
    go_upto_region 5 with fail
    rw [← HW3.out, HQ.out]
    clear d hr
    have d := D.out w3 B3.out
    have dq := KQ.at7
    have hr := Below.refl w3.heap.size w3
    have FX3 := Lib.hid (FX.out w3 B3.out)
    go_wp2_with fail
    refine FX3.out.mono ?_; rintro e w4 ⟨rfl, b4⟩
    have b34 := B3.out.up b4
    have KQ4 := KQ.later b4
    clear d dq hr
    have d := fun w' (hb : Below w4.heap.size w4 w') => D.out w' (b34.up hb)
    have dq := KQ4.at7
    have hr := Below.refl w4.heap.size w4
    go_upto_region 7 with fail
    refine wp_region_later w4.heap.size (by kernel_rfl) (by kernel_rfl) ?_
    have hu : ∀ u : Later w4.heap.size w4, Below w4.heap.size w4 u.world := Later.below
    repeat (go_big_quiet_step ((first | (go_at_call 100; exact later_below (Nat.le_refl _) (FC.out _)) | (go_at_call 101; exact later_below (Nat.le_refl _) (FF.out _ (b34.up (hu _)))))))
    refine wpQuiet_nil ?_
    intro w5 b5
    go_wp2_with fail
    go_ret
    exact ⟨rfl, b34.up b5⟩
  · have ek : (kd == 1) = false := ne_b k1
    rw [if_neg k1]
    have FC : Hid (∀ w, Calls Tryz.prog 100 #[.agg #[.int .i64 c.l, .int .i64 c.r, .int .i64 c.n, .int .i64 c.o, .int .i64 c.q, .int .i64 c.v], .int .i64 kd, .int .i64 0, .int .i64 y] w fun e w' => e = .returned (.int .i64 (priceS c.l c.r c.n c.o c.q c.v kd 0 y)) ∧ Below w.heap.size w w') := Lib.hid fun w => cPrice _ _ _ _ _ _ _ _ _ w
    generalize priceS c.l c.r c.n c.o c.q c.v kd 0 y = pr at *
    clear k1 hkd hkT
    go_enter Tryz.func62, Tryz.ntmps62
    go_wp2_with fail
    refine FR.out.mono ?_; rintro e w1 ⟨rfl, rfl⟩
    go_wp2_with fail
    refine FL.out.mono ?_; rintro e w1 ⟨rfl, rfl⟩
    go_wp2_with fail
    refine FP.out.mono ?_; rintro e w2 ⟨rfl, b2⟩
    obtain ⟨q, hq⟩ : ∃ q, w2.heap.size = q := ⟨_, rfl⟩
    obtain ⟨w3, hw3⟩ : ∃ w3, w3 = w2.alloc (.cells #[.int .i64 kd, .string s, .int .i64 n, .int .i64 0, .slice ao m cc, .int .i64 e, .int .i64 e] 29) := ⟨_, rfl⟩
    have b3 : Below w2.heap.size w2 w3 := by rw [hw3]; exact Below.alloc (Below.refl _ _) (Nat.le_refl _) _
    have KQ : Blk w3 q 29 #[.int .i64 kd, .string s, .int .i64 n, .int .i64 0, .slice ao m cc, .int .i64 e, .int .i64 e] := by rw [hw3, ← hq]; exact Blk.new _ _ _
    have B3 := Lib.hid (b2.up b3)
    have HW3 := Lib.hid hw3
    have HQ := Lib.hid hq
    clear hw3 hq b2 b3
    go_upto_region 5 with fail
    rw [← HW3.out, HQ.out]
    clear d hr
    have d := fun w' (hb : Below w3.heap.size w3 w') => D.out w' (B3.out.up hb)
    have dq := KQ.at7
    have hr := Below.refl w3.heap.size w3
    go_upto_region 7 with fail
    refine wp_region_later w3.heap.size (by kernel_rfl) (by kernel_rfl) ?_
    have hu : ∀ u : Later w3.heap.size w3, Below w3.heap.size w3 u.world := Later.below
    repeat (go_big_quiet_step ((first | (go_at_call 100; exact later_below (Nat.le_refl _) (FC.out _)) | (go_at_call 101; exact later_below (Nat.le_refl _) (FF.out _ (B3.out.up (hu _)))))))
    refine wpQuiet_nil ?_
    intro w5 b5
    go_wp2_with fail
    go_ret
    exact ⟨rfl, B3.out.up b5⟩
/-- The first deadline. -/
def nextT (t : DT) : Int := leastT [t.un, t.li, t.cu]
set_option maxRecDepth 100000 in
theorem diNext {w : World} {lab : Nat → Nat} {b : DB} {c : ScT} {t : DT} (h : DiaR w lab b c t) : Calls Tryz.prog 66 #[.pointer (some ⟨b.x, 0, none⟩)] w fun e w' => e = .returned (.int .i64 (nextT t)) ∧ Below w.heap.size w w' := by
  have FR := Lib.hid (diRuns (b := true) h.blk rfl)
  have FF := Lib.hid (dFirst t.un t.li t.cu w)
  have d : ∀ w', Below w.heap.size w w' → w'.cell? ⟨b.x, 13, none⟩ = some (.int .i64 t.un) ∧ w'.cell? ⟨b.x, 14, none⟩ = some (.int .i64 t.li) ∧ w'.cell? ⟨b.x, 15, none⟩ = some (.int .i64 t.cu) := fun w' hw => by
    have k := Blk.later h.blk hw
    exact ⟨k.cell 13, k.cell 14, k.cell 15⟩
  have hr := Below.refl w.heap.size w
  unfold nextT
  generalize leastT [t.un, t.li, t.cu] = z at *
  clear h
  go_enter Tryz.func66, Tryz.ntmps66
  go_wp2_with fail
  refine FR.out.mono ?_; rintro e w1 ⟨rfl, rfl⟩
  go_wp2_with fail
  refine FF.out.mono ?_; rintro e w2 ⟨rfl, b2⟩
  go_wp2_with fail
  go_ret
  exact ⟨rfl, b2⟩
set_option maxRecDepth 100000 in
theorem diRoom {w : World} {lab : Nat → Nat} {b : DB} {c : ScT} {t : DT} (h : DiaR w lab b c t) : Calls Tryz.prog 83 #[.pointer (some ⟨b.x, 0, none⟩)] w fun e w' => e = .returned (.int .i64 ((c.r - t.inb.length : Nat) : Int)) ∧ Below w.heap.size w w' := by
  have FR := Lib.hid (diRuns (b := true) h.blk rfl)
  have FF := Lib.hid (riRoom h.rng)
  have d : ∀ w', Below w.heap.size w w' → w'.cell? ⟨b.x, 16, none⟩ = some (.pointer (some ⟨b.rx, 0, none⟩)) ∧ w'.cell? ⟨b.x, 19, none⟩ = some (.bool false) := fun w' hw => by
    have k := Blk.later h.blk hw
    exact ⟨k.cell 16, k.cell 19⟩
  have hr := Below.refl w.heap.size w
  generalize c.r - t.inb.length = z at *
  clear h
  go_enter Tryz.func83, Tryz.ntmps83
  go_wp2_with fail
  refine FR.out.mono ?_; rintro e w1 ⟨rfl, rfl⟩
  go_wp2_with fail
  refine FF.out.mono ?_; rintro e w2 ⟨rfl, b2⟩
  go_wp2_with fail
  go_ret
  exact ⟨rfl, b2⟩
theorem diStatus {w : World} {x : Nat} {d : DC} (h : DiB w x d) : Calls Tryz.prog 103 #[.pointer (some ⟨x, 0, none⟩)] w fun e w' => e = .returned (.int .i64 d.st) ∧ w = w' := by
  have h0 : ∀ w', Below w.heap.size w w' → w'.cell? ⟨x, 11, none⟩ = some (.int .i64 d.st) := fun w' hb => (Blk.later h hb).cell 11
  have hr := Below.refl w.heap.size w
  clear h
  go_enter Tryz.func103, Tryz.ntmps103
  go_wp2_with fail
  go_ret
  exact ⟨rfl, rfl⟩
end Go.Proofs.YtbhgmccaecmpjaaGreat

namespace Go.Proofs.YtbhgmccaecmpjaaGreat
set_option linter.unusedVariables false
set_option linter.unusedSimpArgs false
open Go.RowKit

set_option maxRecDepth 100000 in
set_option maxHeartbeats 4000000 in
theorem diPut {w : World} {lab : Nat → Nat} {b : DB} {c : ScT} {t : DT} (h : DiaR w lab b c t) (s : ByteArray) (hs : s.size ≤ c.r - t.inb.length) : Calls Tryz.prog 85 #[.pointer (some ⟨b.x, 0, none⟩), .string s] w fun e w' => e = .returned (.int .i64 (s.size : Nat)) ∧ DiaR w' lab b c { t with inb := t.inb ++ s.data.toList } ∧ Foot (fun i => isD (lab i)) w w' := by
  have HH := Lib.hid h
  have n := h.lab
  have hn := h.rng.nN
  have FR := Lib.hid (diRuns (b := true) h.blk rfl)
  have FF : Hid (Calls Tryz.prog 126 #[.pointer (some ⟨b.rx, 0, none⟩), .string s] w fun e w' => e = .returned (.int .i64 (s.size : Nat)) ∧ Rng w' b.rx b.ra c.r b.f (t.inb ++ s.data.toList) ∧ Foot (fun i => i = b.rx ∨ i = b.ra) w w') := Lib.hid <| by
    have := riPut h.rng (fun e => by have := lab_inj n.rx n.ra e; omega) s (by omega)
    rw [Nat.min_eq_left hs, List.take_of_length_le (show s.data.toList.length ≤ s.size from Nat.le_refl _)] at this
    exact this
  have d : ∀ w', Below w.heap.size w w' → w'.cell? ⟨b.x, 16, none⟩ = some (.pointer (some ⟨b.rx, 0, none⟩)) ∧ w'.cell? ⟨b.x, 19, none⟩ = some (.bool false) := fun w' hw => by
    have k := Blk.later h.blk hw
    exact ⟨k.cell 16, k.cell 19⟩
  have hr := Below.refl w.heap.size w
  clear h hn hs
  go_enter Tryz.func85, Tryz.ntmps85
  go_wp2_with fail
  refine FR.out.mono ?_; rintro e w1 ⟨rfl, rfl⟩
  go_wp2_with fail
  refine FF.out.mono ?_; rintro e w2 ⟨rfl, r2, f2⟩
  go_wp2_with fail
  go_ret
  have h := HH.out
  have ne : ∀ i m, lab i = m → m ≠ 21 → m ≠ 20 → ¬ (i = b.rx ∨ i = b.ra) := fun i m hi hm hm2 e => e.elim (fun e => hm (lab_inj hi n.rx e)) (fun e => hm2 (lab_inj hi n.ra e))
  refine ⟨rfl, ⟨Blk.foot h.blk f2 (ne _ _ n.x (by omega) (by omega)), r2, h.hol.foot f2 (ne _ _ n.hx (by omega) (by omega)), fun e => (h.row e).foot f2 (fun i hi => ne _ _ (n.row i hi) (by omega) (by omega)), fun g hg => Nat.lt_of_lt_of_le (h.rowLt g hg) f2.size, fun p e => (h.arm p e).foot f2 (fun i hi => ne _ _ (n.arms (by have e' : t.pat = some p := e; rw [e']; rfl) i hi) (by omega) (by omega)), Blk.foot h.pnd f2 (ne _ _ n.px (by omega) (by omega)), h.pb, h.scr.foot f2 (fun i hi => ne _ _ (n.scr i hi) (by omega) (by omega)), n, h.ok⟩, f2.mono fun i hi => ?_⟩
  rcases hi with rfl | rfl
  · rw [n.rx]; exact ⟨by omega, by omega⟩
  · rw [n.ra]; exact ⟨by omega, by omega⟩
set_option maxRecDepth 100000 in
set_option maxHeartbeats 4000000 in
theorem diTake {w : World} {lab : Nat → Nat} {b : DB} {c : ScT} {t : DT} (h : DiaR w lab b c t) (n : Int) : Calls Tryz.prog 88 #[.pointer (some ⟨b.x, 0, none⟩), .int .i64 n] w fun e w' => ∃ tr', e = .returned (.string (t.tx.extract t.sd (t.sd + takeT n t.sd t.ld))) ∧ DiaR w' lab b c { t with sd := t.sd + takeT n t.sd t.ld, tr := tr' } ∧ Foot (fun i => isD (lab i)) w w' := by
  have HH := Lib.hid h
  have nn := h.lab
  have hpb := h.pb
  have FR := Lib.hid (diRuns (b := true) h.blk rfl)
  have FF := Lib.hid (pTake b.px n c.o t.tr t.tx t.sd t.ld w h.pnd hpb.1 hpb.2.1 (by have := hpb.2.2; omega))
  have d : ∀ w', Below w.heap.size w w' → w'.cell? ⟨b.x, 18, none⟩ = some (.pointer (some ⟨b.px, 0, none⟩)) := fun w' hw => by
    have k := Blk.later h.blk hw
    exact k.cell 18
  have hr := Below.refl w.heap.size w
  have hle := takeT_le n hpb.1
  have HP := Lib.hid hpb
  clear h hpb
  generalize takeT n t.sd t.ld = tk at *
  generalize (if t.sd = t.ld then t.tr else tryT n t.sd t.ld t.tr) = tr' at *
  go_enter Tryz.func88, Tryz.ntmps88
  go_wp2_with fail
  refine FR.out.mono ?_; rintro e w1 ⟨rfl, rfl⟩
  go_wp2_with fail
  refine FF.out.mono ?_; rintro e w2 ⟨rfl, p2, g2⟩
  go_wp2_with fail
  go_ret
  have h := HH.out
  have f2 : Foot (fun i => i = b.px) w w2 := Foot.grown g2 (fun g hg => by cases hg; rfl)
  refine ⟨tr', rfl, h.ownP (t' := { t with sd := t.sd + tk, tr := tr' }) (f2.mono fun i hi => .inr hi) (Blk.foot h.blk f2 (fun e => by have := lab_inj nn.x nn.px e; omega)) (by show Pnd w2 b.px c.o t.tx ((t.sd + tk : Nat) : Int) t.ld tr'; rw [Int.natCast_add]; exact p2) ⟨hle, HP.out.2⟩ rfl rfl rfl (fun e => e), f2.mono fun i hi => by rw [hi, nn.px]; exact ⟨by omega, by omega⟩⟩
/-- One who has ended. -/
def DiE (w : World) (x : Nat) (st : Int) : Prop := ∃ d, DiB w x d ∧ d.st = st
set_option maxRecDepth 100000 in
set_option maxHeartbeats 8000000 in
theorem diStop {w : World} {x : Nat} {d : DC} (h : DiB w x d) {r n o : Nat} (hd : d.r = r ∧ d.n = n ∧ d.o = o) (hr : 1 ≤ r ∧ r ≤ 4096) (hn : 1 ≤ n ∧ n ≤ 4096) (st : Int) : Calls Tryz.prog 152 #[.pointer (some ⟨x, 0, none⟩), .int .i64 st] w fun e w' => e = .returned (.tuple #[]) ∧ DiE w' x st ∧ Foot (fun i => i = x) w w' := by
  have FA : Hid (∀ w, Calls Tryz.prog 76 #[.int .i64 r] w fun e w' => ∃ y, e = .returned (.pointer (some ⟨y, 0, none⟩)) ∧ Below w.heap.size w w') := Lib.hid fun w => (riNew w r hr).mono fun e w' ⟨y, a, h1, h2, h3, h4, h5⟩ => ⟨y, h1, h5⟩
  have FB : Hid (∀ w, Calls Tryz.prog 77 #[.int .i64 n] w fun e w' => ∃ y, e = .returned (.pointer (some ⟨y, 0, none⟩)) ∧ Below w.heap.size w w') := Lib.hid fun w => (hoNew w n hn).mono fun e w' ⟨h1, h2, h3⟩ => ⟨_, h1, h3⟩
  have FC : Hid (∀ w, Calls Tryz.prog 78 #[.int .i64 o] w fun e w' => ∃ y, e = .returned (.pointer (some ⟨y, 0, none⟩)) ∧ Below w.heap.size w w') := Lib.hid fun w => (pNew o w).mono fun e w' ⟨h1, h2, h3⟩ => ⟨_, h1, h3⟩
  have hr0 := Below.refl w.heap.size w
  have d0 : ∀ w', Below w.heap.size w w' → w'.cell? ⟨x, 11, none⟩ = some (.int .i64 d.st) ∧ ∀ i, w'.frozen? ⟨x, i, none⟩ = false := fun w' hw => ⟨(Blk.later h hw).cell 11, fun i => (Blk.later h hw).frozen i⟩
  have K1 := h.setSt st
  have f1 : Foot (fun i => i = x) w (w.setCell ⟨x, 11, none⟩ (.int .i64 st)) := foot_set (fun i => i = x) (Foot.refl _ w) x 11 rfl _
  obtain ⟨w1, hw1⟩ : ∃ w1, w1 = w.setCell ⟨x, 11, none⟩ (.int .i64 st) := ⟨_, rfl⟩
  rw [← hw1] at K1 f1
  have HW1 := Lib.hid hw1
  obtain ⟨d1, hd1, hd1s, hdr, hdn, hdo⟩ : ∃ d1 : DC, d1 = { d with st := st } ∧ d1.st = st ∧ d1.r = r ∧ d1.n = n ∧ d1.o = o := ⟨_, rfl, rfl, hd.1, hd.2.1, hd.2.2⟩
  rw [← hd1] at K1
  have HS := Lib.hid hd1s
  have MK : Hid (∀ w' d', DiB w' x d' → d'.r = r ∧ d'.n = n ∧ d'.o = o → w'.cell? ⟨x, 1, none⟩ = some (.int .i64 r) ∧ w'.cell? ⟨x, 2, none⟩ = some (.int .i64 n) ∧ w'.cell? ⟨x, 3, none⟩ = some (.int .i64 o)) := Lib.hid fun w' d' hk hh => ⟨(Blk.cell hk 1).trans (by show some (Value.int IntKind.i64 d'.r) = _; rw [hh.1]), (Blk.cell hk 2).trans (by show some (Value.int IntKind.i64 d'.n) = _; rw [hh.2.1]), (Blk.cell hk 3).trans (by show some (Value.int IntKind.i64 d'.o) = _; rw [hh.2.2])⟩
  have HDD := Lib.hid (And.intro hdr (And.intro hdn hdo))
  clear hw1 h hd hd1 hd1s hdr hdn hdo
  go_enter Tryz.func152, Tryz.ntmps152
  go_upto_region 1 with fail
  rw [← HW1.out]
  clear d0 hr0
  have K1d : DiB w1.drew x d1 := Blk.drew K1
  refine wp_region_ordL (S := fun w' => w'.cell? ⟨x, 1, none⟩ = some (.int .i64 r) ∧ w'.cell? ⟨x, 2, none⟩ = some (.int .i64 n) ∧ w'.cell? ⟨x, 3, none⟩ = some (.int .i64 o)) [0, 1, 2, 3, 4, 5, 6, 7, 9, 10, 11, 12, 13, 15, 16, 17, 18, 19, 8, 14, 20, 21, 22, 23, 24, 25, 26, 27, 28, 29] 29 (by kernel_rfl) (by kernel_rfl) (by kernel_rfl) (by kernel_rfl) (by kernel_rfl) (by kernel_rfl) (MK.out _ _ K1d HDD.out) ?_
  simp only [pickL, List.filterMap_cons, List.filterMap_nil, List.getElem?_cons_zero, List.getElem?_cons_succ]
  repeat (refine ordL_take (v := ?_) (by rfl) (by rfl) ?_ ?_; rotate_left; (focus (intro w hSw; (try dsimp only at hSw); go_simp; (try with_reducible rfl))); simp only [Act.put, List.setIfInBounds_toArray, List.set_cons_zero, List.set_cons_succ])
  refine ordL_lone (by rfl) (by rfl) (fun KK hK => ?_)
  try go_simp
  refine (FA.out _).mono ?_; rintro e w2 ⟨y1, rfl, b2⟩
  try go_wp2_with fail
  have K2 : DiB w2 x d1 := Blk.later K1d b2
  refine hK.out _ _ (.inr (MK.out _ _ K2 HDD.out)) ?_
  clear hK KK
  try simp only [Act.put, List.setIfInBounds_toArray, List.set_cons_zero, List.set_cons_succ]
  refine ordL_lone (by rfl) (by rfl) (fun KK hK => ?_)
  try go_simp
  refine (FB.out _).mono ?_; rintro e w3 ⟨y2, rfl, b3⟩
  try go_wp2_with fail
  have K3 : DiB w3 x d1 := Blk.later K2 b3
  refine hK.out _ _ (.inr (MK.out _ _ K3 HDD.out)) ?_
  clear hK KK
  try simp only [Act.put, List.setIfInBounds_toArray, List.set_cons_zero, List.set_cons_succ]
  refine ordL_lone (by rfl) (by rfl) (fun KK hK => ?_)
  try go_simp
  refine (FC.out _).mono ?_; rintro e w4 ⟨y3, rfl, b4⟩
  try go_wp2_with fail
  have K4 : DiB w4 x d1 := Blk.later K3 b4
  refine hK.out _ _ (.inr (MK.out _ _ K4 HDD.out)) ?_
  clear hK KK
  try simp only [Act.put, List.setIfInBounds_toArray, List.set_cons_zero, List.set_cons_succ]
  have f4 := ((f1.up (Below.refl _ _).drew).up b2).up (b3.up b4)
  have K5 := DiB.setIn K4 y1
  have K6 := DiB.setWin K5 y2
  have K7 := DiB.setOut K6 y3
  have H5 := Lib.hid (MK.out _ _ K5 HDD.out)
  have H6 := Lib.hid (MK.out _ _ K6 HDD.out)
  have dx : ∀ w', Below w4.heap.size w4 w' → w'.cell? ⟨x, 16, none⟩ = some (.pointer (some ⟨d1.rx, 0, none⟩)) ∧ w'.cell? ⟨x, 17, none⟩ = some (.pointer (some ⟨d1.hx, 0, none⟩)) ∧ w'.cell? ⟨x, 18, none⟩ = some (.pointer (some ⟨d1.px, 0, none⟩)) ∧ ∀ i, w'.frozen? ⟨x, i, none⟩ = false := fun w' hw => ⟨(Blk.later K4 hw).cell 16, (Blk.later K4 hw).cell 17, (Blk.later K4 hw).cell 18, fun i => (Blk.later K4 hw).frozen i⟩
  have hr := Below.refl w4.heap.size w4
  repeat (refine ordL_take (v := ?_) (by rfl) (by rfl) ?_ ?_; rotate_left; (focus (intro w hSw; (try dsimp only at hSw); go_simp; (try with_reducible rfl))); simp only [Act.put, List.setIfInBounds_toArray, List.set_cons_zero, List.set_cons_succ])
  refine ordL_lone (by rfl) (by rfl) (fun KK hK => ?_)
  try go_simp
  refine hK.out _ _ (.inr H5.out) ?_
  clear hK KK
  try simp only [Act.put, List.setIfInBounds_toArray, List.set_cons_zero, List.set_cons_succ]
  repeat (refine ordL_take (v := ?_) (by rfl) (by rfl) ?_ ?_; rotate_left; (focus (intro w hSw; (try dsimp only at hSw); go_simp; (try with_reducible rfl))); simp only [Act.put, List.setIfInBounds_toArray, List.set_cons_zero, List.set_cons_succ])
  refine ordL_lone (by rfl) (by rfl) (fun KK hK => ?_)
  try go_simp
  refine hK.out _ _ (.inr H6.out) ?_
  clear hK KK
  try simp only [Act.put, List.setIfInBounds_toArray, List.set_cons_zero, List.set_cons_succ]
  repeat (refine ordL_take (v := ?_) (by rfl) (by rfl) ?_ ?_; rotate_left; (focus (intro w hSw; (try dsimp only at hSw); go_simp; (try with_reducible rfl))); simp only [Act.put, List.setIfInBounds_toArray, List.set_cons_zero, List.set_cons_succ])
  refine ordL_lone (by rfl) (by rfl) (fun KK hK => ?_)
  try go_simp
  refine hK.out _ _ (.inl (by trivial)) ?_
  clear hK KK
  try simp only [Act.put, List.setIfInBounds_toArray, List.set_cons_zero, List.set_cons_succ]
  refine ordL_done ?_
  go_wp2_with fail
  go_end0
  exact ⟨rfl, ⟨_, K7, HS.out⟩, foot_set (fun i => i = x) (foot_set (fun i => i = x) (foot_set (fun i => i = x) f4 x 16 rfl _) x 17 rfl _) x 18 rfl _⟩
end Go.Proofs.YtbhgmccaecmpjaaGreat
