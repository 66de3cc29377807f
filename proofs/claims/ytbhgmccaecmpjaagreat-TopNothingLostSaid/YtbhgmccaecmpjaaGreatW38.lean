/-
  engine.Engine: step, whatever the names of what is new; a turn as plain words.
  Conditions: the blocks are known; no deadline has come.
-/
import Derived.Test.YtbhgmccaecmpjaaGreatW37
import Derived.Test.YtbhgmccaecmpjaaGreatW06
namespace Go.Proofs.YtbhgmccaecmpjaaGreat
set_option linter.unusedVariables false
set_option linter.unusedSimpArgs false
open Go.RowKit

/-- One who goes on by himself: no deadline is near. -/
structure OkD (c : ScT) (clock : Int) (t : DT) : Prop where
  fit : DT.fit c { t with now := clock }
  calm : Calm { t with now := clock }
  now : t.now ≤ clock
  nx : nextT t = nev ∨ 0 ≤ nextT t
theorem enStep {w : World} {lab : Nat → Nat} {eb : EB} {c : ScT} {E : ET} (h : EngR w lab eb c E) {t : DT} (hd : E.d = some t) (hc : c.fit) (hk : OkD c E.clock t) (hr : readyT c t E.clock = true) (hl : E.out.length ≤ 1000000) (hfin : ∀ st, (dstepT c { t with now := E.clock }).out = .fin st → st ≠ 0 ∧ (Lit.int IntKind.i64 st).wf = true) (htu : E.waits = false ∧ E.turn = true) :
    Calls Tryz.prog 63 #[.pointer (some ⟨eb.x, 0, none⟩), .int .i64 0] w fun e w' => ∃ lab' eb', e = .returned (.bool (dstepT c { t with now := E.clock }).out.isRun) ∧ LabEq lab lab' w ∧ EngR w' lab' eb' c (stepE E t (dstepT c { t with now := E.clock })) ∧ (eb'.x = eb.x ∧ eb'.se = eb.se ∧ eb'.tb = eb.tb) ∧ Foot (fun i => isE (lab i)) w w' := by
  have e0 := labNew_eq lab w 0
  exact (enStepA (h.relab e0) (fun i hi => labNew_new hi) hd hc hk.now hk.fit hk.calm hr hl rfl hfin htu).mono fun e w' ⟨lab', eb', h1, h2, h3, h4, h5⟩ =>
    ⟨lab', eb', h1, fun i hi => (h2 i hi).trans (e0 i hi), h3, h4, (Foot.refl _ w).then h5 (fun i hi hf => by rw [e0 i hi] at hf; exact hf)⟩
/-- A turn's steps: n at the most. -/
def turnN (c : ScT) : Nat → ET → ET
  | 0, E => E
  | n + 1, E => match E.d with
    | none => E
    | some t => if readyT c t E.clock = true ∧ priceT c t ≤ E.p then turnN c n (stepE { E with p := E.p - priceT c t } t (dstepT c { t with now := E.clock })) else E
end Go.Proofs.YtbhgmccaecmpjaaGreat

namespace Go.Proofs.YtbhgmccaecmpjaaGreat
set_option linter.unusedVariables false
set_option linter.unusedSimpArgs false
open Go.RowKit

def purAt (w : World) (a : Nat) : Nat := match w.cell? ⟨a, 0, none⟩ with
  | some v => (intOf v).toNat
  | none => 0
theorem purAt_of {w : World} {t : TB} {n k : Nat} {q p : Int} {W T : Bool} (h : Tur w t n q W T p k) : purAt w t.pa = p.toNat := by
  have := (h.prs.arr.at_ w (Below.refl _ _)).1
  unfold purAt
  rw [this]
  rfl
def tuB (c : ScT) (E : ET) : ET := { E with waits := false, turn := true, p := min (E.p + c.q) 2000000000, k := E.k + 1 }
/-- What holds of every state of a turn. -/
structure TurnI (c : ScT) (I : ET → Prop) : Prop where
  ok : ∀ E t, I E → E.d = some t → OkD c E.clock t ∧ E.out.length ≤ 1000000 ∧ 1 ≤ priceT c t ∧ E.waits = false ∧ E.turn = true ∧ ∀ st, (dstepT c { t with now := E.clock }).out = .fin st → st ≠ 0 ∧ (Lit.int IntKind.i64 st).wf = true
  step : ∀ E t, I E → E.d = some t → readyT c t E.clock = true → priceT c t ≤ E.p → I (stepE { E with p := E.p - priceT c t } t (dstepT c { t with now := E.clock }))
def turnD (c : ScT) (E : ET) (t : DT) : ET := { E with waits := readyT c t E.clock, turn := false, p := if readyT c t E.clock = true then E.p else 0, tm := tmT (nextT t) }
/-- A turn comes to this. -/
def TurnTo (c : ScT) (E E' : ET) : Prop := ∃ n E2, (∀ m, turnN c (m + n) E = turnN c m E2) ∧ ((E2.d = none ∧ E' = E2) ∨ ∃ t, E2.d = some t ∧ ¬ (readyT c t E2.clock = true ∧ priceT c t ≤ E2.p) ∧ E' = turnD c E2 t)
theorem tuEndB {w : World} {t : TB} {n : Nat} {q p : Int} {k : Nat} (b : Bool) (h : Tur w t n q false true p k) (ht : t.ok) : Calls Tryz.prog 64 #[.pointer (some ⟨t.x, 0, none⟩), .bool b] w fun e w' => e = .returned (.bool true) ∧ Tur w' t n q b false (if b = true then p else 0) k ∧ Foot t.in_ w w' := by
  cases b with
  | true => exact tuEndAgain h ht
  | false => exact tuEnd h ht
structure TuI (c : ScT) (I : ET → Prop) (w wr : World) (lab lab' : Nat → Nat) (eb eb' : EB) (E0 E : ET) (t : DT) : Prop where
  e : LabEq lab lab' w
  h : EngR wr lab' eb' c E
  b : eb'.x = eb.x ∧ eb'.se = eb.se ∧ eb'.tb = eb.tb
  f : Foot (fun i => isE (lab i)) w wr
  d : E.d = some t
  i : I E
  n : ∃ n, ∀ m, turnN c (m + n) E0 = turnN c m E
theorem turnN_step {c : ScT} {E : ET} {t : DT} (hd : E.d = some t) (hr : readyT c t E.clock = true) (hp : priceT c t ≤ E.p) (m : Nat) : turnN c (m + 1) E = turnN c m (stepE { E with p := E.p - priceT c t } t (dstepT c { t with now := E.clock })) := by
  rw [turnN, hd]
  simp only
  rw [if_pos ⟨hr, hp⟩]
theorem stepE_run {E : ET} {t : DT} {r : SRes} (h : r.out.isRun = true) : ∃ t1, (stepE E t r).d = some t1 ∧ (stepE E t r).p = E.p := by
  unfold stepE
  cases ho : r.out with
  | run t1 => exact ⟨t1, rfl, rfl⟩
  | fin st => rw [ho] at h; cases h
theorem stepE_fin {E : ET} {t : DT} {r : SRes} (h : r.out.isRun = false) : (stepE E t r).d = none := by
  unfold stepE
  cases ho : r.out with
  | run t1 => rw [ho] at h; cases h
  | fin st => rfl
theorem enTurnNo {w : World} {lab : Nat → Nat} {eb : EB} {c : ScT} {E : ET} (h : EngR w lab eb c E) (hw : E.waits = false ∧ E.turn = false) : Calls Tryz.prog 37 #[.pointer (some ⟨eb.x, 0, none⟩)] w fun e w' => e = .returned (.bool false) ∧ Below w.heap.size w w' := by
  have d1 := h.at_ (by simp)
  have hr := Below.refl w.heap.size w
  have FB : Hid (∀ w', Below w.heap.size w w' → Calls Tryz.prog 59 #[.pointer (some ⟨eb.tb.x, 0, none⟩)] w' fun e w'' => e = .returned (.tuple #[.int .i64 0, .bool false]) ∧ w' = w'') := Lib.hid fun w' hb => by
    have := (h.later hb).tur (by simp)
    rw [hw.1, hw.2] at this
    exact tuBeginNo this
  clear h hw
  go_enter Tryz.func37, Tryz.ntmps37
  go_wp2_with fail
  refine (FB.out _ (by (repeat' (first | exact Below.refl _ _ | assumption | exact And.left (by assumption) | apply bel_alloc | apply Below.drew)))).mono ?_; rintro r w1 ⟨rfl, rfl⟩
  go_wp2_with fail
  go_ret
  exact ⟨rfl, by (repeat' (first | exact Below.refl _ _ | assumption | apply Below.drew | apply below_drewN | refine Below.setCell ?_ (by first | assumption | (simp; done) | (simp <;> omega)) _ | refine Below.alloc ?_ (by first | exact Nat.le_refl _ | assumption | (simp; done) | (simp <;> omega)) _))⟩
set_option maxRecDepth 100000 in
set_option maxHeartbeats 8000000 in
theorem enTurn {w : World} {lab : Nat → Nat} {eb : EB} {c : ScT} {E : ET} (h : EngR w lab eb c E) {t : DT} (hd : E.d = some t) (hc : c.fit) (hw : E.waits = true ∧ E.turn = false) (hk : E.k ≤ 1000000) {I : ET → Prop} (hI : TurnI c I) (hi : I (tuB c E)) :
    Calls Tryz.prog 37 #[.pointer (some ⟨eb.x, 0, none⟩)] w fun e w' => ∃ lab' eb' E', e = .returned (.bool true) ∧ LabEq lab lab' w ∧ EngR w' lab' eb' c E' ∧ TurnTo c (tuB c E) E' ∧ eb'.x = eb.x ∧ Foot (fun i => isE (lab i)) w w' := by
  have hs : E.d.isSome = true := by rw [hd]; rfl
  have d1 := h.at_ (by simp)
  have hr := Below.refl w.heap.size w
  have HH := Lib.hid h
  have hl0 : 0 < c.l := h.ok.l.1
  have hl1 : (0 : Int) < (c.l : Int) := by omega
  have FB : Hid (∀ w', Below w.heap.size w w' → Calls Tryz.prog 59 #[.pointer (some ⟨eb.tb.x, 0, none⟩)] w' fun e w'' => e = .returned (.tuple #[.int .i64 0, .bool true]) ∧ Tur w'' eb.tb c.l c.q false true (min (E.p + c.q) 2000000000) (E.k + 1) ∧ Foot eb.tb.in_ w' w'') := Lib.hid fun w' hb => by
    have := (h.later hb).tur (by simp)
    rw [hw.1, hw.2] at this
    exact tuBegin this h.tok hk
  have HC := Lib.hid (And.intro hd (And.intro hs (And.intro hc (And.intro hI hi))))
  clear h hd hs hc hw hk hI hi
  go_enter Tryz.func37, Tryz.ntmps37
  go_wp2_with fail
  refine (FB.out _ (by (repeat' (first | exact Below.refl _ _ | assumption | exact And.left (by assumption) | apply bel_alloc | apply Below.drew)))).mono ?_; rintro r w1 ⟨rfl, t1, f1⟩
  have f1' : Foot eb.tb.in_ w w1 := by first | exact f1 | exact (Foot.later (Below.refl _ _).drew).trans f1
  have T1 : EngR w1 lab eb c (tuB c E) := HH.out.turned f1' t1
  have F1 : Hid (Foot (fun i => isE (lab i)) w w1) := Lib.hid (f1'.mono (fun i hi => by rw [(HH.out.lb.tb i hi).1]; unfold isE; omega))
  have H1 : Hid (TuI c I w w1 lab lab eb eb (tuB c E) (tuB c E) t) := Lib.hid ⟨LabEq.refl _ _, T1, ⟨rfl, rfl, rfl⟩, F1.out, HC.out.1, HC.out.2.2.2.2, 0, fun m => rfl⟩
  clear d1 hr FB t1 f1 f1'
  have d1 := T1.at_ (by simp)
  have d9 := T1.atS (by simp) (by simp) HC.out.2.1
  have hr := Below.refl w1.heap.size w1
  clear T1
  go_wp2_with fail
  clear d1 d9 hr
  go_loopw [] (fun wr => ∃ lab' eb' E' t', Hid (TuI c I w wr lab lab' eb eb' (tuB c E) E' t')) (fun wr => purAt wr eb.tb.pa)
  case atStart => exact ⟨_, _, _, _, H1⟩
  case round =>
    clear H1 F1
    obtain ⟨lab2, eb2, E2, t2, H2⟩ := hrel
    have J := H2.out
    obtain ⟨hok, hlen, hpr, hwt, htn, hfin⟩ := HC.out.2.2.2.1.ok E2 t2 J.i J.d
    have hs2 : E2.d.isSome = true := by rw [J.d]; rfl
    obtain ⟨bx, bse, btb⟩ := J.b
    have MK : Hid (∀ w' lab' E', EngR w' lab' eb2 c E' → E'.clock = E2.clock → E'.d.isSome = true → w'.cell? ⟨eb.x, 9, none⟩ = some (.pointer (some ⟨eb.tb.x, 0, none⟩)) ∧ w'.cell? ⟨eb.x, 12, none⟩ = some (.int .i64 E2.clock) ∧ w'.cell? ⟨eb.se, 1, none⟩ = some (.pointer (some ⟨eb2.db.x, 0, none⟩))) := Lib.hid fun w' lab' E' h1 h2 h3 => by
      have d1 := h1.at_ (by simp) w' (Below.refl _ _)
      have d9 := h1.atS (by simp) (by simp) h3 w' (Below.refl _ _)
      rw [← bx, ← bse, ← btb, ← h2]
      exact ⟨d1.2.2.2.2.2.2.2.2.2.1, d1.2.2.2.2.2.2.2.2.2.2.2.2.1, d9.2.2.1⟩
    have FRd : Hid (∀ w', Below wr.heap.size wr w' → Calls Tryz.prog 60 #[.pointer (some ⟨eb2.db.x, 0, none⟩), .int .i64 E2.clock] w' fun e w'' => e = .returned (.bool (readyT c t2 E2.clock)) ∧ Below w'.heap.size w' w'') := Lib.hid fun w' hb => diReady ((J.h.later hb).dia (by simp) t2 J.d) hok.fit.a E2.clock hok.now hok.calm.1
    have HO := Lib.hid (And.intro hok (And.intro hlen (And.intro hpr (And.intro hwt (And.intro htn hfin)))))
    have HB := Lib.hid (And.intro bx (And.intro bse btb))
    have hs0 := MK.out _ _ _ (J.h.later (Below.refl wr.heap.size wr).drew) rfl hs2
    have HS2 := Lib.hid hs2
    clear hok hlen hpr hwt htn hfin hs2 bx bse btb J
    go_upto_region 5 with fail
    refine wp_region_ordL (S := fun w' => w'.cell? ⟨eb.x, 9, none⟩ = some (.pointer (some ⟨eb.tb.x, 0, none⟩)) ∧ w'.cell? ⟨eb.x, 12, none⟩ = some (.int .i64 E2.clock) ∧ w'.cell? ⟨eb.se, 1, none⟩ = some (.pointer (some ⟨eb2.db.x, 0, none⟩))) [0, 1, 2, 3, 4, 5, 6, 7, 8, 9, 10, 11, 12, 13, 14, 15, 16, 17, 18, 19, 20] 20 (by kernel_rfl) (by kernel_rfl) (by kernel_rfl) (by kernel_rfl) (by kernel_rfl) (by kernel_rfl) (hs0) ?_
    simp only [pickL, List.filterMap_cons, List.filterMap_nil, List.getElem?_cons_zero, List.getElem?_cons_succ]
    repeat (refine ordL_take (v := ?_) (by rfl) (by rfl) ?_ ?_; rotate_left; (focus (intro w hSw; (try dsimp only at hSw); go_simp; (try with_reducible rfl))); simp only [Act.put, List.setIfInBounds_toArray, List.set_cons_zero, List.set_cons_succ])
    clear hs0
    refine ordL_lone (by rfl) (by rfl) (fun KK hK => ?_)
    try go_simp
    refine (FRd.out _ (Below.refl _ _).drew).mono ?_; rintro r w2 ⟨rfl, b2⟩
    have b2' : Below wr.heap.size wr w2 := (Below.refl _ _).drew.up b2
    have h2 := H2.out.h.later b2'
    refine hK.out _ _ (.inr (MK.out _ _ _ h2 rfl HS2.out)) ?_
    clear hK KK b2
    cases hq : readyT c t2 E2.clock
    · have HQ := Lib.hid hq
      clear hq
      try simp only [Act.put, List.setIfInBounds_toArray, List.set_cons_zero, List.set_cons_succ]
      refine ordL_take (v := .bool false) (by rfl) (by rfl) (fun w hSw => by rfl) ?_
      try simp only [Act.put, List.setIfInBounds_toArray, List.set_cons_zero, List.set_cons_succ]
      repeat (refine ordL_skip (by rfl) ?_; simp only [Act.put, List.setIfInBounds_toArray, List.set_cons_zero, List.set_cons_succ])
      repeat (refine ordL_take (v := ?_) (by rfl) (by rfl) ?_ ?_; rotate_left; (focus (intro w hSw; (try dsimp only at hSw); go_simp; (try with_reducible rfl))); simp only [Act.put, List.setIfInBounds_toArray, List.set_cons_zero, List.set_cons_succ])
      refine ordL_done ?_
      go_wp2_with fail
      have HX := Lib.hid h2
      have FX : Hid (Foot (fun i => isE (lab i)) w w2) := Lib.hid (H2.out.f.up b2')
      have s8 := MK.out _ _ _ (h2.later (Below.refl w2.heap.size w2).drew) rfl HS2.out
      have FR8 : Hid (∀ w', Below w2.heap.size w2 w' → Calls Tryz.prog 60 #[.pointer (some ⟨eb2.db.x, 0, none⟩), .int .i64 E2.clock] w' fun e w'' => e = .returned (.bool (readyT c t2 E2.clock)) ∧ Below w'.heap.size w' w'') := Lib.hid fun w' hb => diReady ((h2.later hb).dia (by simp) t2 H2.out.d) HO.out.1.fit.a E2.clock HO.out.1.now HO.out.1.calm.1
      have FE : Hid (∀ w', Below w2.heap.size w2 w' → Calls Tryz.prog 64 #[.pointer (some ⟨eb.tb.x, 0, none⟩), .bool (readyT c t2 E2.clock)] w' fun e w'' => e = .returned (.bool true) ∧ Tur w'' eb2.tb c.l c.q (readyT c t2 E2.clock) false (if readyT c t2 E2.clock = true then E2.p else 0) E2.k ∧ Foot eb2.tb.in_ w' w'') := Lib.hid fun w' hb => by
        have := (h2.later hb).tur (by simp)
        rw [HO.out.2.2.2.1, HO.out.2.2.2.2.1] at this
        have := tuEndB (readyT c t2 E2.clock) this h2.tok
        rw [HB.out.2.2] at this ⊢
        exact this
      clear h2 b2'
      go_upto_region 8 with fail
      refine wp_region_ordL (S := fun w' => w'.cell? ⟨eb.x, 9, none⟩ = some (.pointer (some ⟨eb.tb.x, 0, none⟩)) ∧ w'.cell? ⟨eb.x, 12, none⟩ = some (.int .i64 E2.clock) ∧ w'.cell? ⟨eb.se, 1, none⟩ = some (.pointer (some ⟨eb2.db.x, 0, none⟩))) [0, 1, 2, 3, 4, 5, 6, 7, 8, 9, 10, 11, 12, 13] 13 (by kernel_rfl) (by kernel_rfl) (by kernel_rfl) (by kernel_rfl) (by kernel_rfl) (by kernel_rfl) (s8) ?_
      simp only [pickL, List.filterMap_cons, List.filterMap_nil, List.getElem?_cons_zero, List.getElem?_cons_succ]
      repeat (refine ordL_take (v := ?_) (by rfl) (by rfl) ?_ ?_; rotate_left; (focus (intro w hSw; (try dsimp only at hSw); go_simp; (try with_reducible rfl))); simp only [Act.put, List.setIfInBounds_toArray, List.set_cons_zero, List.set_cons_succ])
      clear s8
      refine ordL_lone (by rfl) (by rfl) (fun KK hK => ?_)
      try go_simp
      refine (FR8.out _ (Below.refl _ _).drew).mono ?_; rintro r w3 ⟨rfl, b3⟩
      have b3' : Below w2.heap.size w2 w3 := (Below.refl _ _).drew.up b3
      refine hK.out _ _ (.inr (MK.out _ _ _ (HX.out.later b3') rfl HS2.out)) ?_
      clear hK KK b3
      try simp only [Act.put, List.setIfInBounds_toArray, List.set_cons_zero, List.set_cons_succ]
      refine ordL_lone (by rfl) (by rfl) (fun KK hK => ?_)
      try go_simp
      refine (FE.out _ b3').mono ?_; rintro r w4 ⟨rfl, t4, f4⟩
      refine hK.out _ _ (.inl (by trivial)) ?_
      clear hK KK
      try simp only [Act.put, List.setIfInBounds_toArray, List.set_cons_zero, List.set_cons_succ]
      refine ordL_done ?_
      have T4 := (HX.out.later b3').turned f4 t4
      have F4 : Hid (Foot (fun i => isE (lab i)) w w4) := Lib.hid ((FX.out.up b3').then f4 (fun i hi hdd => by
        show isE (lab i)
        rw [HB.out.2.2] at hdd
        rw [(HH.out.lb.tb i hdd).1]; unfold isE; omega))
      have H4 := Lib.hid T4
      clear t4 f4 b3' FR8 FE
      have d1 := T4.at_ (by simp)
      have d9 := T4.atS (by simp) (by simp) HS2.out
      rw [HB.out.1] at d1
      rw [HB.out.2.1] at d9
      have hr := Below.refl w4.heap.size w4
      have FN : Hid (∀ w', Below w4.heap.size w4 w' → Calls Tryz.prog 66 #[.pointer (some ⟨eb2.db.x, 0, none⟩)] w' fun e w'' => e = .returned (.int .i64 (nextT t2)) ∧ Below w'.heap.size w' w'') := Lib.hid fun w' hb => diNext (((H4.out.later hb).dia (by simp)) t2 H2.out.d)
      have FS : Hid (∀ w', Below w4.heap.size w4 w' → Calls Tryz.prog 65 #[.pointer (some ⟨eb2.hx, 0, none⟩), .int .i64 0, .int .i64 (nextT t2)] w' fun e w'' => e = .returned (.bool true) ∧ ∃ lv', Hea w'' eb2.hx eb2.hw lv' c.l (tmT (nextT t2)) ∧ Grew eb2.hl lv' w' ∧ Foot (heF eb2.hx eb2.hw eb2.hl) w' w'') := Lib.hid fun w' hb => heSet ((H4.out.later hb).hea (by simp)) HO.out.1.nx
      clear T4
      go_upto_region 9 with fail
      refine wp_region_ordL (S := fun w' => Below w4.heap.size w4 w') [0, 1, 2, 3, 4, 5, 6, 7, 8, 9, 10] 10 (by kernel_rfl) (by kernel_rfl) (by kernel_rfl) (by kernel_rfl) (by kernel_rfl) (by kernel_rfl) (by (repeat' (first | exact Below.refl _ _ | assumption | exact And.left (by assumption) | apply bel_alloc | apply Below.drew))) ?_
      simp only [pickL, List.filterMap_cons, List.filterMap_nil, List.getElem?_cons_zero, List.getElem?_cons_succ]
      repeat (refine ordL_take (v := ?_) (by rfl) (by rfl) ?_ ?_; rotate_left; (focus (intro w hSw; (try dsimp only at hSw); go_simp; (try with_reducible rfl))); simp only [Act.put, List.setIfInBounds_toArray, List.set_cons_zero, List.set_cons_succ])
      refine ordL_lone (by rfl) (by rfl) (fun KK hK => ?_)
      try go_simp
      refine (FN.out _ (by (repeat' (first | exact Below.refl _ _ | assumption | exact And.left (by assumption) | apply bel_alloc | apply Below.drew)))).mono ?_; rintro r w5 ⟨rfl, b5⟩
      have b5' : Below w4.heap.size w4 w5 := (Below.refl w4.heap.size w4).drew.up b5
      refine hK.out _ _ (.inr (b5')) ?_
      clear hK KK
      try simp only [Act.put, List.setIfInBounds_toArray, List.set_cons_zero, List.set_cons_succ]
      repeat (refine ordL_take (v := ?_) (by rfl) (by rfl) ?_ ?_; rotate_left; (focus (intro w hSw; (try dsimp only at hSw); go_simp; (try with_reducible rfl))); simp only [Act.put, List.setIfInBounds_toArray, List.set_cons_zero, List.set_cons_succ])
      refine ordL_lone (by rfl) (by rfl) (fun KK hK => ?_)
      try go_simp
      refine (FS.out _ b5').mono ?_; rintro r w6 ⟨rfl, lv, hh, hg, hf⟩
      refine hK.out _ _ (.inl (by trivial)) ?_
      clear hK KK
      try simp only [Act.put, List.setIfInBounds_toArray, List.set_cons_zero, List.set_cons_succ]
      refine ordL_done ?_
      have T6 := Lib.hid ((H4.out.later b5').timed hf hh hg)
      have F6 : Hid (Foot (fun i => isE (lab i)) w w6) := Lib.hid ((F4.out.up b5').then hf (fun i hi hdd => by
        show isE (lab i)
        have h1 := (H4.out.lb.he i hdd).1
        rw [H2.out.e i hi] at h1
        rw [h1]; unfold isE; omega))
      have E6 : Hid (LabEq lab (labNew lab2 w5 5) w) := Lib.hid fun i hi => (labNew_old (Nat.lt_of_lt_of_le hi (F4.out.up b5').size)).trans (H2.out.e i hi)
      clear d1 d9 hr hh hg hf b5 b5' FN FS
      go_wp2_with fail
      go_ret
      obtain ⟨n0, hn0⟩ := H2.out.n
      refine ⟨rfl, _, E6.out, { eb2 with hl := lv }, turnD c E2 t2, T6.out, ⟨n0, E2, hn0, .inr ⟨t2, H2.out.d, fun h => by rw [HQ.out] at h; exact absurd h.1 (by decide), rfl⟩⟩, HB.out.1, F6.out⟩
    · have HQ := Lib.hid hq
      clear hq
      try simp only [Act.put, List.setIfInBounds_toArray, List.set_cons_zero, List.set_cons_succ]
      repeat (refine ordL_take (v := ?_) (by rfl) (by rfl) ?_ ?_; rotate_left; (focus (intro w hSw; (try dsimp only at hSw); go_simp; (try with_reducible rfl))); simp only [Act.put, List.setIfInBounds_toArray, List.set_cons_zero, List.set_cons_succ])
      refine ordL_lone (by rfl) (by rfl) (fun KK hK => ?_)
      try go_simp
      have FP : Calls Tryz.prog 62 #[.pointer (some ⟨eb2.db.x, 0, none⟩)] w2 fun e w'' => e = .returned (.int .i64 (priceT c t2)) ∧ Below w2.heap.size w2 w'' := diPrice (h2.dia (by simp) t2 H2.out.d) HO.out.1.fit.a
      refine FP.mono ?_; rintro r w3 ⟨rfl, b3⟩
      have h3 := h2.later b3
      refine hK.out _ _ (.inr (MK.out _ _ _ h3 rfl HS2.out)) ?_
      have b3' : Below wr.heap.size wr w3 := b2'.up b3
      clear hK KK FP b3 h2 b2'
      try simp only [Act.put, List.setIfInBounds_toArray, List.set_cons_zero, List.set_cons_succ]
      have ht3 := h3.tur (by simp)
      rw [HO.out.2.2.2.1, HO.out.2.2.2.2.1] at ht3
      by_cases hp : priceT c t2 ≤ E2.p
      · have FPy : Hid (Calls Tryz.prog 61 #[.pointer (some ⟨eb.tb.x, 0, none⟩), .int .i64 (priceT c t2)] w3 fun e w'' => e = .returned (.bool true) ∧ Tur w'' eb2.tb c.l c.q false true (E2.p - priceT c t2) E2.k ∧ Foot eb2.tb.in_ w3 w'') := Lib.hid (by
          have := tuPay ht3 h3.tok (by have := HO.out.2.2.1; omega) hp
          rw [HB.out.2.2] at this ⊢
          exact this)
        have HP := Lib.hid hp
        have HH3 := Lib.hid h3
        have HPA := Lib.hid (purAt_of ht3)
        clear hp ht3
        refine ordL_lone (by rfl) (by rfl) (fun KK hK => ?_)
        try go_simp
        refine FPy.out.mono ?_; rintro r w4 ⟨rfl, t4, f4⟩
        have T4 := h3.turned f4 t4
        refine hK.out _ _ (.inr (MK.out _ _ _ T4 rfl HS2.out)) ?_
        clear hK KK FPy h3
        try simp only [Act.put, List.setIfInBounds_toArray, List.set_cons_zero, List.set_cons_succ]
        repeat (refine ordL_take (v := ?_) (by rfl) (by rfl) ?_ ?_; rotate_left; (focus (intro w hSw; (try dsimp only at hSw); go_simp; (try with_reducible rfl))); simp only [Act.put, List.setIfInBounds_toArray, List.set_cons_zero, List.set_cons_succ])
        refine ordL_done ?_
        have F4 : Hid (Foot (fun i => isE (lab i)) w w4) := Lib.hid ((H2.out.f.up b3').then f4 (fun i hi hdd => by
          show isE (lab i)
          rw [HB.out.2.2] at hdd
          rw [(HH.out.lb.tb i hdd).1]; unfold isE; omega))
        have H4 := Lib.hid T4
        clear t4 f4
        have FSt : Hid (∀ w', Below w4.heap.size w4 w' → Calls Tryz.prog 63 #[.pointer (some ⟨eb.x, 0, none⟩), .int .i64 0] w' fun e w'' => e = .returned (.bool (dstepT c { t2 with now := E2.clock }).out.isRun) ∧ ∃ lab' eb', LabEq lab2 lab' w' ∧ EngR w'' lab' eb' c (stepE { E2 with p := E2.p - priceT c t2 } t2 (dstepT c { t2 with now := E2.clock })) ∧ (eb'.x = eb2.x ∧ eb'.se = eb2.se ∧ eb'.tb = eb2.tb) ∧ Foot (fun i => isE (lab2 i)) w' w'') := Lib.hid fun w' hb => by
          have hst := H4.out.later hb
          have hst' : EngR w' lab2 eb2 c { E2 with p := E2.p - priceT c t2 } := by
            have e : ({ E2 with waits := false, turn := true, p := E2.p - priceT c t2, k := E2.k } : ET) = { E2 with p := E2.p - priceT c t2 } := by rw [← HO.out.2.2.2.1, ← HO.out.2.2.2.2.1]
            rw [← e]; exact hst
          have := enStep hst' (t := t2) H2.out.d HC.out.2.2.1 HO.out.1 HQ.out HO.out.2.1 HO.out.2.2.2.2.2 ⟨HO.out.2.2.2.1, HO.out.2.2.2.2.1⟩
          rw [HB.out.1] at this
          exact this.mono fun e w'' ⟨lab', eb', h1, h2, h3, h4, h5⟩ => ⟨h1, lab', eb', h2, h3, ⟨h4.1.trans HB.out.1.symm, h4.2⟩, h5⟩
        clear T4
        have hr := Below.refl w4.heap.size w4
        go_wp2_with fail
        refine (FSt.out _ (by (repeat' (first | exact Below.refl _ _ | assumption | exact And.left (by assumption) | apply bel_alloc | apply Below.drew)))).mono ?_; rintro r w5 ⟨rfl, lab5, eb5, e5, h5, hb5, f5⟩
        have f5' : Foot (fun i => isE (lab2 i)) w4 w5 := by first | exact f5 | exact (Foot.later (Below.refl _ _).drew).trans f5
        have e5' : LabEq lab2 lab5 w4 := e5
        obtain ⟨n0, hn0⟩ := H2.out.n
        have N5 : Hid (∀ m, turnN c (m + (n0 + 1)) (tuB c E) = turnN c m (stepE { E2 with p := E2.p - priceT c t2 } t2 (dstepT c { t2 with now := E2.clock }))) := Lib.hid fun m => by
          have h1 := hn0 (m + 1)
          rw [show m + (n0 + 1) = m + 1 + n0 by omega, h1]
          exact turnN_step H2.out.d HQ.out HP.out m
        have E5 : Hid (LabEq lab lab5 w) := Lib.hid fun i hi => (e5' i (Nat.lt_of_lt_of_le hi F4.out.size)).trans (H2.out.e i hi)
        have F5 : Hid (Foot (fun i => isE (lab i)) w w5) := Lib.hid (F4.out.then f5' (fun i hi hf => by rw [H2.out.e i hi] at hf; exact hf))
        have I5 := Lib.hid (HC.out.2.2.2.1.step E2 t2 H2.out.i H2.out.d HQ.out HP.out)
        have H5 := Lib.hid h5
        have HB5 : Hid (eb5.x = eb.x ∧ eb5.se = eb.se ∧ eb5.tb = eb.tb) := Lib.hid ⟨hb5.1.trans HB.out.1, hb5.2.1.trans HB.out.2.1, hb5.2.2.trans HB.out.2.2⟩
        have PW : Hid (purAt wr eb.tb.pa = E2.p.toNat) := Lib.hid (by
          have := purAt_of (H2.out.h.tur (by simp))
          rw [HB.out.2.2] at this
          exact this)
        clear e5 e5' h5 hb5 f5 f5' hn0 hr FSt
        cases hz : (dstepT c { t2 with now := E2.clock }).out.isRun
        · have HZ := Lib.hid hz
          clear hz
          go_wp2_with fail
          go_ret
          exact ⟨_, eb5, _, rfl, E5.out, H5.out, ⟨n0 + 1, _, N5.out, .inl ⟨stepE_fin HZ.out, rfl⟩⟩, HB5.out.1, F5.out⟩
        · obtain ⟨t5, ht5, hp5⟩ := stepE_run (E := { E2 with p := E2.p - priceT c t2 }) (t := t2) hz
          have P5 : Hid (purAt w5 eb.tb.pa = (E2.p - priceT c t2).toNat) := Lib.hid (by
            have := purAt_of (H5.out.tur (by simp))
            rw [HB5.out.2.2, hp5] at this
            exact this)
          have HT5 := Lib.hid ht5
          clear hz ht5 hp5
          go_wp2_with fail
          go_round
          case rel => exact ⟨lab5, eb5, _, t5, Lib.hid ⟨E5.out, H5.out, HB5.out, F5.out, HT5.out, I5.out, n0 + 1, N5.out⟩⟩
          case measure => rw [P5.out, PW.out]; have h1 := HO.out.2.2.1; have h2 := HP.out; omega
      · have FPy : Hid (Calls Tryz.prog 61 #[.pointer (some ⟨eb.tb.x, 0, none⟩), .int .i64 (priceT c t2)] w3 fun e w'' => e = .returned (.bool false) ∧ Below w3.heap.size w3 w'') := Lib.hid (by
          have := tuPayNo ht3 (by have := HO.out.2.2.1; omega) (Int.lt_of_not_ge hp)
          rw [HB.out.2.2] at this
          exact this)
        have HP := Lib.hid hp
        clear hp ht3
        refine ordL_lone (by rfl) (by rfl) (fun KK hK => ?_)
        try go_simp
        refine FPy.out.mono ?_; rintro r wq ⟨rfl, b4⟩
        have h2 := h3.later b4
        have b2' : Below wr.heap.size wr wq := b3'.up b4
        refine hK.out _ _ (.inr (MK.out _ _ _ h2 rfl HS2.out)) ?_
        clear hK KK FPy h3 b4 b3'
        try simp only [Act.put, List.setIfInBounds_toArray, List.set_cons_zero, List.set_cons_succ]
        repeat (refine ordL_take (v := ?_) (by rfl) (by rfl) ?_ ?_; rotate_left; (focus (intro w hSw; (try dsimp only at hSw); go_simp; (try with_reducible rfl))); simp only [Act.put, List.setIfInBounds_toArray, List.set_cons_zero, List.set_cons_succ])
        refine ordL_done ?_
        go_wp2_with fail
        have HX := Lib.hid h2
        have FX : Hid (Foot (fun i => isE (lab i)) w wq) := Lib.hid (H2.out.f.up b2')
        have s8 := MK.out _ _ _ (h2.later (Below.refl wq.heap.size wq).drew) rfl HS2.out
        have FR8 : Hid (∀ w', Below wq.heap.size wq w' → Calls Tryz.prog 60 #[.pointer (some ⟨eb2.db.x, 0, none⟩), .int .i64 E2.clock] w' fun e w'' => e = .returned (.bool (readyT c t2 E2.clock)) ∧ Below w'.heap.size w' w'') := Lib.hid fun w' hb => diReady ((h2.later hb).dia (by simp) t2 H2.out.d) HO.out.1.fit.a E2.clock HO.out.1.now HO.out.1.calm.1
        have FE : Hid (∀ w', Below wq.heap.size wq w' → Calls Tryz.prog 64 #[.pointer (some ⟨eb.tb.x, 0, none⟩), .bool (readyT c t2 E2.clock)] w' fun e w'' => e = .returned (.bool true) ∧ Tur w'' eb2.tb c.l c.q (readyT c t2 E2.clock) false (if readyT c t2 E2.clock = true then E2.p else 0) E2.k ∧ Foot eb2.tb.in_ w' w'') := Lib.hid fun w' hb => by
          have := (h2.later hb).tur (by simp)
          rw [HO.out.2.2.2.1, HO.out.2.2.2.2.1] at this
          have := tuEndB (readyT c t2 E2.clock) this h2.tok
          rw [HB.out.2.2] at this ⊢
          exact this
        clear h2 b2'
        go_upto_region 8 with fail
        refine wp_region_ordL (S := fun w' => w'.cell? ⟨eb.x, 9, none⟩ = some (.pointer (some ⟨eb.tb.x, 0, none⟩)) ∧ w'.cell? ⟨eb.x, 12, none⟩ = some (.int .i64 E2.clock) ∧ w'.cell? ⟨eb.se, 1, none⟩ = some (.pointer (some ⟨eb2.db.x, 0, none⟩))) [0, 1, 2, 3, 4, 5, 6, 7, 8, 9, 10, 11, 12, 13] 13 (by kernel_rfl) (by kernel_rfl) (by kernel_rfl) (by kernel_rfl) (by kernel_rfl) (by kernel_rfl) (s8) ?_
        simp only [pickL, List.filterMap_cons, List.filterMap_nil, List.getElem?_cons_zero, List.getElem?_cons_succ]
        repeat (refine ordL_take (v := ?_) (by rfl) (by rfl) ?_ ?_; rotate_left; (focus (intro w hSw; (try dsimp only at hSw); go_simp; (try with_reducible rfl))); simp only [Act.put, List.setIfInBounds_toArray, List.set_cons_zero, List.set_cons_succ])
        clear s8
        refine ordL_lone (by rfl) (by rfl) (fun KK hK => ?_)
        try go_simp
        refine (FR8.out _ (Below.refl _ _).drew).mono ?_; rintro r w3 ⟨rfl, b3⟩
        have b3' : Below wq.heap.size wq w3 := (Below.refl _ _).drew.up b3
        refine hK.out _ _ (.inr (MK.out _ _ _ (HX.out.later b3') rfl HS2.out)) ?_
        clear hK KK b3
        try simp only [Act.put, List.setIfInBounds_toArray, List.set_cons_zero, List.set_cons_succ]
        refine ordL_lone (by rfl) (by rfl) (fun KK hK => ?_)
        try go_simp
        refine (FE.out _ b3').mono ?_; rintro r w4 ⟨rfl, t4, f4⟩
        refine hK.out _ _ (.inl (by trivial)) ?_
        clear hK KK
        try simp only [Act.put, List.setIfInBounds_toArray, List.set_cons_zero, List.set_cons_succ]
        refine ordL_done ?_
        have T4 := (HX.out.later b3').turned f4 t4
        have F4 : Hid (Foot (fun i => isE (lab i)) w w4) := Lib.hid ((FX.out.up b3').then f4 (fun i hi hdd => by
          show isE (lab i)
          rw [HB.out.2.2] at hdd
          rw [(HH.out.lb.tb i hdd).1]; unfold isE; omega))
        have H4 := Lib.hid T4
        clear t4 f4 b3' FR8 FE
        have d1 := T4.at_ (by simp)
        have d9 := T4.atS (by simp) (by simp) HS2.out
        rw [HB.out.1] at d1
        rw [HB.out.2.1] at d9
        have hr := Below.refl w4.heap.size w4
        have FN : Hid (∀ w', Below w4.heap.size w4 w' → Calls Tryz.prog 66 #[.pointer (some ⟨eb2.db.x, 0, none⟩)] w' fun e w'' => e = .returned (.int .i64 (nextT t2)) ∧ Below w'.heap.size w' w'') := Lib.hid fun w' hb => diNext (((H4.out.later hb).dia (by simp)) t2 H2.out.d)
        have FS : Hid (∀ w', Below w4.heap.size w4 w' → Calls Tryz.prog 65 #[.pointer (some ⟨eb2.hx, 0, none⟩), .int .i64 0, .int .i64 (nextT t2)] w' fun e w'' => e = .returned (.bool true) ∧ ∃ lv', Hea w'' eb2.hx eb2.hw lv' c.l (tmT (nextT t2)) ∧ Grew eb2.hl lv' w' ∧ Foot (heF eb2.hx eb2.hw eb2.hl) w' w'') := Lib.hid fun w' hb => heSet ((H4.out.later hb).hea (by simp)) HO.out.1.nx
        clear T4
        go_upto_region 9 with fail
        refine wp_region_ordL (S := fun w' => Below w4.heap.size w4 w') [0, 1, 2, 3, 4, 5, 6, 7, 8, 9, 10] 10 (by kernel_rfl) (by kernel_rfl) (by kernel_rfl) (by kernel_rfl) (by kernel_rfl) (by kernel_rfl) (by (repeat' (first | exact Below.refl _ _ | assumption | exact And.left (by assumption) | apply bel_alloc | apply Below.drew))) ?_
        simp only [pickL, List.filterMap_cons, List.filterMap_nil, List.getElem?_cons_zero, List.getElem?_cons_succ]
        repeat (refine ordL_take (v := ?_) (by rfl) (by rfl) ?_ ?_; rotate_left; (focus (intro w hSw; (try dsimp only at hSw); go_simp; (try with_reducible rfl))); simp only [Act.put, List.setIfInBounds_toArray, List.set_cons_zero, List.set_cons_succ])
        refine ordL_lone (by rfl) (by rfl) (fun KK hK => ?_)
        try go_simp
        refine (FN.out _ (by (repeat' (first | exact Below.refl _ _ | assumption | exact And.left (by assumption) | apply bel_alloc | apply Below.drew)))).mono ?_; rintro r w5 ⟨rfl, b5⟩
        have b5' : Below w4.heap.size w4 w5 := (Below.refl w4.heap.size w4).drew.up b5
        refine hK.out _ _ (.inr (b5')) ?_
        clear hK KK
        try simp only [Act.put, List.setIfInBounds_toArray, List.set_cons_zero, List.set_cons_succ]
        repeat (refine ordL_take (v := ?_) (by rfl) (by rfl) ?_ ?_; rotate_left; (focus (intro w hSw; (try dsimp only at hSw); go_simp; (try with_reducible rfl))); simp only [Act.put, List.setIfInBounds_toArray, List.set_cons_zero, List.set_cons_succ])
        refine ordL_lone (by rfl) (by rfl) (fun KK hK => ?_)
        try go_simp
        refine (FS.out _ b5').mono ?_; rintro r w6 ⟨rfl, lv, hh, hg, hf⟩
        refine hK.out _ _ (.inl (by trivial)) ?_
        clear hK KK
        try simp only [Act.put, List.setIfInBounds_toArray, List.set_cons_zero, List.set_cons_succ]
        refine ordL_done ?_
        have T6 := Lib.hid ((H4.out.later b5').timed hf hh hg)
        have F6 : Hid (Foot (fun i => isE (lab i)) w w6) := Lib.hid ((F4.out.up b5').then hf (fun i hi hdd => by
          show isE (lab i)
          have h1 := (H4.out.lb.he i hdd).1
          rw [H2.out.e i hi] at h1
          rw [h1]; unfold isE; omega))
        have E6 : Hid (LabEq lab (labNew lab2 w5 5) w) := Lib.hid fun i hi => (labNew_old (Nat.lt_of_lt_of_le hi (F4.out.up b5').size)).trans (H2.out.e i hi)
        clear d1 d9 hr hh hg hf b5 b5' FN FS
        go_wp2_with fail
        go_ret
        obtain ⟨n0, hn0⟩ := H2.out.n
        refine ⟨rfl, _, E6.out, { eb2 with hl := lv }, turnD c E2 t2, T6.out, ⟨n0, E2, hn0, .inr ⟨t2, H2.out.d, fun h => by have h1 := HP.out; have h2 := h.2; omega, rfl⟩⟩, HB.out.1, F6.out⟩
end Go.Proofs.YtbhgmccaecmpjaaGreat
