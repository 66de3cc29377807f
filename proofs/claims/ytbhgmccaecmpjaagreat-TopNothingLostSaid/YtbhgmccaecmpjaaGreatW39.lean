/-
  engine.Engine: refused.
  Conditions: the blocks are known; nobody is live, the script is good.
-/
import Derived.Test.YtbhgmccaecmpjaaGreatW38
import Derived.Test.YtbhgmccaecmpjaaGreatW36
namespace Go.Proofs.YtbhgmccaecmpjaaGreat
set_option linter.unusedVariables false
set_option linter.unusedSimpArgs false
open Go.RowKit

set_option maxRecDepth 100000 in
set_option maxHeartbeats 8000000 in
theorem enRefused {w : World} {lab : Nat → Nat} {eb : EB} {c : ScT} {E : ET} (h : EngR w lab eb c E) (hd : E.d = none) (hp : PrFit c.nm c.dl c.jm c.o0 c.o1) (hx : E.nx = 0) :
    Calls Tryz.prog 45 #[.pointer (some ⟨eb.x, 0, none⟩), .int .i64 0] w fun e w' => e = .returned (.int .i64 0) ∧ Below w.heap.size w w' := by
  have d1 := h.at_ (by simp)
  have hr := Below.refl w.heap.size w
  have HH := Lib.hid h
  have hl0 : 0 < c.l := h.ok.l.1
  have hl1 : ¬ ((c.l : Int) = 0) := by omega
  have d7 : ∀ w', Below w.heap.size w w' → w'.cell? ⟨eb.sg, 0, none⟩ = some (.string c.nm) ∧ w'.cell? ⟨eb.sg, 1, none⟩ = some (.int .i64 c.dl) ∧ w'.cell? ⟨eb.sg, 2, none⟩ = some (.int .i64 c.jm) ∧ w'.cell? ⟨eb.sg, 3, none⟩ = some (.slice (some ⟨eb.sb.g, 0, none⟩) 2 eb.sb.c) := fun w' hb => ⟨(h.later hb).row 0 _ rfl, (h.later hb).row 1 _ rfl, (h.later hb).row 2 _ rfl, (h.later hb).row 3 _ rfl⟩
  have FG : Hid (∀ w', Below w.heap.size w w' → Calls Tryz.prog 70 #[.agg #[.string c.nm, .int .i64 c.dl, .int .i64 c.jm, .slice (some ⟨eb.sb.g, 0, none⟩) 2 eb.sb.c]] w' fun e w'' => e = .returned (.bool true) ∧ Below w'.heap.size w' w'') := Lib.hid fun w' hb => pgGood c.nm c.dl c.jm eb.sb c.o0 c.o1 hp w' (h.later hb).scr
  have FN : Hid (∀ w', Below w.heap.size w w' → Calls Tryz.prog 71 #[.pointer (some ⟨eb.sl.x, 0, none⟩)] w' fun e w'' => e = .returned (.int .i64 0) ∧ w' = w'') := Lib.hid fun w' hb => by
    have := slNext ((h.later hb).slo (by simp))
    rw [hx] at this
    exact this
  have FF : Hid (∀ w', Below w.heap.size w w' → Calls Tryz.prog 72 #[.pointer (some ⟨eb.sl.x, 0, none⟩)] w' fun e w'' => e = .returned (.int .i64 (c.l : Nat)) ∧ Below w'.heap.size w' w'') := Lib.hid fun w' hb => by
    have := (h.later hb).slo (by simp)
    rw [hd] at this
    exact slFree this
  clear h hd hp hx
  go_enter Tryz.func45, Tryz.ntmps45
  go_wp2_with fail
  refine (FG.out _ (by (repeat' (first | exact Below.refl _ _ | assumption | exact And.left (by assumption) | apply bel_alloc | apply Below.drew)))).mono ?_; rintro r w1 ⟨rfl, b1⟩
  have b1' : Below w.heap.size w w1 := by first | exact b1 | exact (Below.refl w.heap.size w).drew.up b1
  have d1 := (HH.out.later b1').at_ (by simp)
  have hr := Below.refl w1.heap.size w1
  go_wp2_with fail
  refine (FN.out _ (by first | exact b1' | exact b1'.drew)).mono ?_; rintro r w2 ⟨rfl, rfl⟩
  go_wp2_with fail
  refine (FF.out _ (by first | exact b1' | exact b1'.drew | exact b1'.drew.drew)).mono ?_; rintro r w3 ⟨rfl, b3⟩
  go_wp2_with fail
  go_ret
  exact ⟨rfl, by first | exact b1'.up b3 | exact b1'.drew.up b3 | exact b1'.drew.drew.up b3⟩
end Go.Proofs.YtbhgmccaecmpjaaGreat

namespace Go.Proofs.YtbhgmccaecmpjaaGreat
set_option linter.unusedVariables false
set_option linter.unusedSimpArgs false
open Go.RowKit

set_option maxRecDepth 100000 in
set_option maxHeartbeats 4000000 in
theorem enDrain {w : World} (x : Nat) (tk : Int) (o1 o2 o3 : Option Addr) (n1 c1 n2 c2 n3 c3 : Nat) :
    Calls Tryz.prog 31 #[.pointer (some ⟨x, 0, none⟩), .agg #[.int .i64 tk, .slice o1 n1 c1, .slice o2 n2 c2, .slice o3 n3 c3, .int .i64 0, .bool false]] w fun e w' => e = .returned (.tuple #[]) ∧ Below w.heap.size w w' := by
  go_enter Tryz.func31, Tryz.ntmps31
  go_wp2_with fail
  go_end0
  exact ⟨rfl, by (repeat' (first | exact Below.refl _ _ | assumption | apply Below.drew | apply below_drewN | refine Below.setCell ?_ (by first | assumption | (simp; done) | (simp <;> omega)) _ | refine Below.alloc ?_ (by first | exact Nat.le_refl _ | assumption | (simp; done) | (simp <;> omega)) _))⟩
end Go.Proofs.YtbhgmccaecmpjaaGreat

namespace Go.Proofs.YtbhgmccaecmpjaaGreat
set_option linter.unusedVariables false
set_option linter.unusedSimpArgs false
open Go.RowKit

/-- One has come. -/
theorem EngX.come {w : World} {lab : Nat → Nat} {eb : EB} {c : ScT} {E : ET} (h : EngX [3, 2] w lab eb c E) {se wx nx : Nat} {wl : Value} {db : DB} {t : DT} (hs : Slo w eb.sl c.l true nx) (ha : Arr w eb.sa 130 c.l (.pointer (some ⟨se, 0, none⟩)))
    (hb : Blk w se 134 #[.int .i64 0, .pointer (some ⟨db.x, 0, none⟩), .pointer (some ⟨wx, 0, none⟩)]) (hw : ∃ a ps, Wir w wx wl [] 0 0 false a ps) (hd : DiaR w lab db c t) (l1 : lab se = 9) (l2 : lab wx = 10) (l3 : ∀ g, wl.ownBlock = some g → lab g = 10 ∧ g < w.heap.size) :
    EngR w lab { eb with se := se, wx := wx, wl := wl, db := db } c { E with d := some t, nx := nx, wb := [], snt := 0, rd := 0 } := by
  have L := h.lb
  refine ⟨fun _ => h.blk (by simp), fun _ => hs, h.sok, fun _ => ha, fun _ => h.tur (by simp), h.tok, fun _ => h.hea (by simp), fun _ => h.map (by simp), h.row, h.scr, fun _ => h.out (by simp), fun _ _ => hb, fun _ _ => hw, fun _ t' e => (by cases e; exact hd), ⟨L.x, L.sl, L.sa, L.tb, L.he, L.mm, L.sg, L.sb, L.ov, fun _ => ⟨l1, hb.lt⟩, fun _ => ⟨l2, ?_⟩, fun _ => l3, fun _ => ⟨hd.lab.x, Blk.lt hd.blk⟩⟩, h.ok⟩
  obtain ⟨a, ps, hw⟩ := hw
  exact hw.blk.lt
/-- Nobody is live: a dialogue's names may be taken off. -/
def offD (lab : Nat → Nat) : Nat → Nat := fun i => if 20 ≤ lab i ∧ lab i ≤ 27 then 0 else lab i
theorem offD_low {lab : Nat → Nat} {i n : Nat} (h : lab i = n) (hn : n ≤ 19) : offD lab i = n := by unfold offD; rw [if_neg (by omega), h]
theorem offD_no (lab : Nat → Nat) (i : Nat) : ¬ isD (offD lab i) := by
  unfold offD isD
  split <;> omega
theorem EngX.noD {w : World} {lab : Nat → Nat} {eb : EB} {c : ScT} {E : ET} (h : EngR w lab eb c E) (hd : E.d = none) : EngR w (offD lab) eb c E := by
  have L := h.lb
  have f : ¬ E.d.isSome = true := by rw [hd]; decide
  exact ⟨h.blk, h.slo, h.sok, h.sea, h.tur, h.tok, h.hea, h.map, h.row, h.scr, h.out, h.sat, h.wir, fun _ t e => (by rw [hd] at e; cases e),
    ⟨⟨offD_low L.x.1 (by omega), L.x.2⟩, fun i hi => ⟨offD_low (L.sl i hi).1 (by omega), (L.sl i hi).2⟩, ⟨offD_low L.sa.1 (by omega), L.sa.2⟩, fun i hi => ⟨offD_low (L.tb i hi).1 (by omega), (L.tb i hi).2⟩, fun i hi => ⟨offD_low (L.he i hi).1 (by omega), (L.he i hi).2⟩, ⟨offD_low L.mm.1 (by omega), L.mm.2⟩, ⟨offD_low L.sg.1 (by omega), L.sg.2⟩, fun i hi => ⟨offD_low (L.sb i hi).1 (by omega), (L.sb i hi).2⟩, fun i hi => ⟨offD_low (L.ov i hi).1 (by omega), (L.ov i hi).2⟩, fun e => absurd e f, fun e => absurd e f, fun e => absurd e f, fun e => absurd e f⟩, h.ok⟩
end Go.Proofs.YtbhgmccaecmpjaaGreat

namespace Go.Proofs.YtbhgmccaecmpjaaGreat
set_option linter.unusedVariables false
set_option linter.unusedSimpArgs false
open Go.RowKit

theorem Wir.footQ {w w' : World} {F : Nat → Prop} {b : Nat} {sent rd : Int} {eof : Bool} (h : Wir w b (.slice none 0 0) [] sent rd eof 0 []) (f : Foot F w w') (hb : ¬ F b) : Wir w' b (.slice none 0 0) [] sent rd eof 0 [] :=
  ⟨h.blk.foot f hb, h.pcs.foot f (fun g hg => by cases hg), h.own, h.first, h.none_, h.bytes, h.each⟩
/-- What an open comes to. -/
def openE (c : ScT) (E : ET) : ET := settleT c { E with d := some (comeT c (newT c E.clock) 0), nx := 1, wb := [], snt := 0, rd := 0, st := some 0, out := E.out ++ [⟨2, 0, 0, 0, ⟨#[]⟩, 0, 0, 0, 0, 0, 0, 0⟩] } (comeT c (newT c E.clock) 0)
set_option maxRecDepth 100000 in
set_option maxHeartbeats 8000000 in
theorem enOpenA {w : World} {lab : Nat → Nat} {eb : EB} {c : ScT} {E : ET} (h : EngR w lab eb c E) (hND : ∀ i, i < w.heap.size → ¬ isD (lab i)) (hd : E.d = none) (hp : PrFit c.nm c.dl c.jm c.o0 c.o1) (hx : E.nx = 0) (hck : 0 ≤ E.clock ∧ E.clock ≤ 1000000000000) (h0 : (∃ n, c.o0 = .pause n) ∨ ∃ u, c.o0 = .send u) (hl : E.out.length ≤ 900000) (ht0 : (comeT c (newT c E.clock) 0).at_ ≤ 2 ∧ (comeT c (newT c E.clock) 0).now ≤ E.clock ∧ overN (comeT c (newT c E.clock) 0).li (comeT c (newT c E.clock) 0).cu E.clock = 0 ∧ (nextT (comeT c (newT c E.clock) 0) = nev ∨ 0 ≤ nextT (comeT c (newT c E.clock) 0))) :
    Calls Tryz.prog 28 #[.pointer (some ⟨eb.x, 0, none⟩), .int .i64 0] w fun e w' => ∃ lab' eb', e = .returned (.tuple #[]) ∧ LabEq lab lab' w ∧ EngR w' lab' eb' c (openE c E) ∧ eb'.x = eb.x ∧ Foot (fun i => isE (lab i)) w w' := by
  have HT0 := Lib.hid ht0
  clear ht0
  have FRf := Lib.hid (enRefused h hd hp hx)
  have HH := Lib.hid h
  have HC := Lib.hid (And.intro hd (And.intro hp (And.intro hx (And.intro hck (And.intro h0 (And.intro hl hND))))))
  clear h hND hd hp hx hck h0 hl
  obtain ⟨lab2, hlab2⟩ : ∃ l, l = labNew lab w 0 := ⟨_, rfl⟩
  have e2 : LabEq lab lab2 w := by rw [hlab2]; exact labNew_eq _ _ _
  have n2 : ∀ i, ¬ isD (lab2 i) := fun i => by
    rw [hlab2]
    rcases Nat.lt_or_ge i w.heap.size with h | h
    · rw [labNew_old h]; exact HC.out.2.2.2.2.2.2 i h
    · rw [labNew_new h]; exact isD_zero
  have E2 := Lib.hid e2
  have N2 := Lib.hid n2
  have HL2 := Lib.hid (HH.out.relab e2)
  clear hlab2 e2 n2
  go_enter Tryz.func28, Tryz.ntmps28
  go_wp2_with fail
  refine FRf.out.mono ?_; rintro r w1 ⟨rfl, b1⟩
  have H1 := HL2.out.later b1
  have d1 := H1.at_ (by simp)
  have hr := Below.refl w1.heap.size w1
  have FO : Hid (∀ w', Below w1.heap.size w1 w' → Calls Tryz.prog 47 #[.pointer (some ⟨eb.sl.x, 0, none⟩)] w' fun e w'' => e = .returned (.tuple #[.int .i64 0, .int .i64 0, .bool true]) ∧ Slo w'' eb.sl c.l true 1 ∧ Foot eb.sl.in_ w' w'') := Lib.hid fun w' hb => by
    have := (H1.later hb).slo (by simp)
    rw [HC.out.1] at this
    exact slOpen this H1.sok HC.out.2.2.1
  go_wp2_with fail
  refine (FO.out _ (by (repeat' (first | exact Below.refl _ _ | assumption | exact And.left (by assumption) | apply bel_alloc | apply Below.drew)))).mono ?_; rintro r w2 ⟨rfl, s2, f2⟩
  have f2' : Foot eb.sl.in_ w1 w2 := by first | exact f2 | exact (Foot.later (Below.refl _ _).drew).trans f2
  have T2 : EngX [2] w2 lab2 eb c E := H1.foot f2' [2] (fun i hi => by rw [(H1.lb.sl i hi).1, cls_low (by omega)]; simp) (by simp)
  have F2 : Hid (Foot (fun i => isE (lab i)) w w2) := Lib.hid ((Foot.later b1).then f2' (fun i hi hdd => by
    show isE (lab i)
    rw [(HH.out.lb.sl i hdd).1]; unfold isE; omega))
  have HT2 := Lib.hid T2
  have S2 := Lib.hid s2
  clear d1 hr FO f2 f2' s2 H1 b1 FRf
  have d1 := T2.at_ (by simp)
  have hr := Below.refl w2.heap.size w2
  have d7 : ∀ w', Below w2.heap.size w2 w' → w'.cell? ⟨eb.sg, 0, none⟩ = some (.string c.nm) ∧ w'.cell? ⟨eb.sg, 1, none⟩ = some (.int .i64 c.dl) ∧ w'.cell? ⟨eb.sg, 2, none⟩ = some (.int .i64 c.jm) ∧ w'.cell? ⟨eb.sg, 3, none⟩ = some (.slice (some ⟨eb.sb.g, 0, none⟩) 2 eb.sb.c) := fun w' hb => ⟨(HT2.out.later hb).row 0 _ rfl, (HT2.out.later hb).row 1 _ rfl, (HT2.out.later hb).row 2 _ rfl, (HT2.out.later hb).row 3 _ rfl⟩
  have FN : Hid (∀ w', Below w2.heap.size w2 w' → Calls Tryz.prog 48 #[suV c, prV c.nm c.dl c.jm eb.sb, .int .i64 E.clock] w' fun e w'' => ∃ lab' b, e = .returned (.tuple #[.pointer (some ⟨b.x, 0, none⟩), .int .i64 0]) ∧ LabEq lab2 lab' w' ∧ DiaR w'' lab' b c (comeT c (newT c E.clock) 0) ∧ w'.heap.size ≤ b.x ∧ Below w'.heap.size w' w'') := Lib.hid fun w' hb =>
    diNew c (HT2.out.ok) HC.out.2.1 eb.sb w' (HT2.out.later hb).scr lab2 (fun i _ => N2.out i) E.clock HC.out.2.2.2.1 HC.out.2.2.2.2.1
  unfold suV prV at FN
  clear T2
  go_upto_region 4 with fail
  refine wp_region_ordL (S := fun w' => Below w2.heap.size w2 w') [0, 1, 2, 3, 4, 5, 6, 7, 8, 9, 10, 11, 12, 13, 14, 15, 16, 17, 18, 19, 20] 20 (by kernel_rfl) (by kernel_rfl) (by kernel_rfl) (by kernel_rfl) (by kernel_rfl) (by kernel_rfl) (by (repeat' (first | exact Below.refl _ _ | assumption | exact And.left (by assumption) | apply bel_alloc | apply Below.drew))) ?_
  simp only [pickL, List.filterMap_cons, List.filterMap_nil, List.getElem?_cons_zero, List.getElem?_cons_succ]
  repeat (refine ordL_take (v := ?_) (by rfl) (by rfl) ?_ ?_; rotate_left; (focus (intro w hSw; (try dsimp only at hSw); go_simp; (try with_reducible rfl))); simp only [Act.put, List.setIfInBounds_toArray, List.set_cons_zero, List.set_cons_succ])
  refine ordL_lone (by rfl) (by rfl) (fun KK hK => ?_)
  try go_simp
  refine (FN.out _ (by (repeat' (first | exact Below.refl _ _ | assumption | exact And.left (by assumption) | apply bel_alloc | apply Below.drew)))).mono ?_; rintro r w3 ⟨lab3, b3, rfl, e3, hd3, hx3, bb3⟩
  have b3' : Below w2.heap.size w2 w3 := (Below.refl w2.heap.size w2).drew.up bb3
  refine hK.out _ _ (.inr (b3')) ?_
  clear hK KK
  try simp only [Act.put, List.setIfInBounds_toArray, List.set_cons_zero, List.set_cons_succ]
  repeat (refine ordL_take (v := ?_) (by rfl) (by rfl) ?_ ?_; rotate_left; (focus (intro w hSw; (try dsimp only at hSw); go_simp; (try with_reducible rfl))); simp only [Act.put, List.setIfInBounds_toArray, List.set_cons_zero, List.set_cons_succ])
  refine ordL_done ?_
  have T3 := HT2.out.later b3'
  have A3 := T3.sea (by simp)
  have d1 := T3.at_ (by simp)
  have d9 := A3.at_
  have hr3 := Below.refl w3.heap.size w3
  have hl0 : 0 < c.l := T3.ok.l.1
  have hl1 : (0 : Int) < (c.l : Int) := by omega
  have FWn : Hid (∀ w', Below w3.heap.size w3 w' → Calls Tryz.prog 49 #[] w' fun e w'' => ∃ q, q = w'.heap.size ∧ e = .returned (.pointer (some ⟨q, 0, none⟩)) ∧ Wir w'' q (.slice none 0 0) [] 0 0 false 0 [] ∧ Below w'.heap.size w' w'') := Lib.hid fun w' hb => (wNew w').mono fun e w'' ⟨h1, h2, h3⟩ => ⟨_, rfl, h1, h2, h3⟩
  have HT3 := Lib.hid T3
  have HA3 := Lib.hid A3
  have HD3 := Lib.hid hd3
  clear T3 A3 hd3 FN d7
  go_upto_region 5 with fail
  refine wp_region_ordA (S := fun w' => Below w3.heap.size w3 w') [0, 1, 2, 3, 4, 5, 6, 7, 8, 9, 10, 11] 11 (by kernel_rfl) (by kernel_rfl) (by kernel_rfl) (by kernel_rfl) (by kernel_rfl) (by kernel_rfl) (by (repeat' (first | exact Below.refl _ _ | assumption | exact And.left (by assumption) | apply bel_alloc | apply Below.drew))) ?_
  simp only [pickL, List.filterMap_cons, List.filterMap_nil, List.getElem?_cons_zero, List.getElem?_cons_succ]
  repeat (refine ordA_take (v := ?_) (by rfl) (by rfl) ?_ ?_; rotate_left; (focus (intro w hSw; (try dsimp only at hSw); go_simp; (try with_reducible rfl))); simp only [Act.put, List.setIfInBounds_toArray, List.set_cons_zero, List.set_cons_succ])
  refine ordA_lone (by rfl) (by rfl) (fun KK hK => ?_)
  try go_simp
  refine (FWn.out _ (by (repeat' (first | exact Below.refl _ _ | assumption | exact And.left (by assumption) | apply bel_alloc | apply Below.drew)))).mono ?_; rintro r w4 ⟨wq, hwq, rfl, hw4, b4⟩
  have b34 : Below w3.heap.size w3 w4 := (Below.refl _ _).drew.up b4
  have HWQ := Lib.hid hwq
  clear hwq
  refine hK.out _ _ (.inr b34) ?_
  clear hK KK
  try simp only [Act.put, List.setIfInBounds_toArray, List.set_cons_zero, List.set_cons_succ]
  repeat (refine ordA_take (v := ?_) (by rfl) (by rfl) ?_ ?_; rotate_left; (focus (intro w hSw; (try dsimp only at hSw); go_simp; (try with_reducible rfl))); simp only [Act.put, List.setIfInBounds_toArray, List.set_cons_zero, List.set_cons_succ])
  refine ordA_lone (by rfl) (by rfl) (fun KK hK => ?_)
  try go_simp
  have b45 : Below w4.heap.size w4 (w4.alloc (.cells #[.int .i64 0, .pointer (some ⟨b3.x, 0, none⟩), .pointer (some ⟨wq, 0, none⟩)] 134)) := (Below.refl _ _).alloc (Nat.le_refl _) _
  refine hK.out _ _ (.inr (b34.up b45)) ?_
  clear hK KK
  try simp only [Act.put, List.setIfInBounds_toArray, List.set_cons_zero, List.set_cons_succ]
  obtain ⟨q5, hq5⟩ : ∃ q5, w4.heap.size = q5 := ⟨_, rfl⟩
  obtain ⟨w5, hw5⟩ : ∃ w5, w5 = w4.alloc (.cells #[.int .i64 0, .pointer (some ⟨b3.x, 0, none⟩), .pointer (some ⟨wq, 0, none⟩)] 134) := ⟨_, rfl⟩
  have K5 : Blk w5 q5 134 #[.int .i64 0, .pointer (some ⟨b3.x, 0, none⟩), .pointer (some ⟨wq, 0, none⟩)] := by rw [hw5, ← hq5]; exact Blk.new _ _ _
  rw [← hw5] at b45
  rw [← hw5, hq5]
  have HQ5 := Lib.hid hq5
  clear hw5 hq5
  repeat (refine ordA_take (v := ?_) (by rfl) (by rfl) ?_ ?_; rotate_left; (focus (intro w hSw; (try dsimp only at hSw); go_simp; (try with_reducible rfl))); simp only [Act.put, List.setIfInBounds_toArray, List.set_cons_zero, List.set_cons_succ])
  have b35 := b34.up b45
  have A5 := HA3.out.later b35
  have d5 := A5.at_
  have hr5 := Below.refl w5.heap.size w5
  refine ordA_lone (by rfl) (by rfl) (fun KK hK => ?_)
  try go_simp
  refine hK.out _ _ (.inl (by trivial)) ?_
  clear hK KK
  try simp only [Act.put, List.setIfInBounds_toArray, List.set_cons_zero, List.set_cons_succ]
  refine ordA_done ?_
  have L3 : LabEq lab2 lab3 w2 := e3
  obtain ⟨lab4, hlab4⟩ : ∃ l : Nat → Nat, l = fun i => if i < w3.heap.size then lab3 i else if i = q5 then 9 else if i = wq then 10 else 0 := ⟨_, rfl⟩
  have e34 : LabEq lab3 lab4 w3 := fun i hi => by rw [hlab4]; exact if_pos hi
  have hwq := HWQ.out
  have hq5 := HQ5.out
  have sd : w3.drew.heap.size = w3.heap.size := rfl
  have z4 := hw4.blk.lt
  have l5 : lab4 q5 = 9 := by rw [hlab4]; simp only; rw [if_neg (by omega), if_pos trivial]
  have lq : lab4 wq = 10 := by rw [hlab4]; simp only; rw [if_neg (by omega), if_neg (by omega), if_pos trivial]
  have f6 : Foot (fun i => i = eb.sa) w5 (w5.setCell ⟨eb.sa, 0, none⟩ (.pointer (some ⟨q5, 0, none⟩))) := foot_set (fun i => i = eb.sa) (Foot.refl _ w5) eb.sa 0 rfl _
  have A6 := A5.set (.pointer (some ⟨q5, 0, none⟩))
  have T3 := (((HT2.out.relab L3).later b3').relab e34).later b35
  have lsa := T3.lb.sa
  have S6 := ((S2.out.later b3').later b35).foot f6 (fun i hi e => by have h1 := (T3.lb.sl i hi).1; rw [e, lsa.1] at h1; omega)
  have T6 := T3.foot f6 [3] (fun i hi => by rw [hi, lsa.1, cls_low (by omega)]; simp) (by simp)
  have K6 := K5.far (p := ⟨eb.sa, 0, none⟩) (by show q5 ≠ eb.sa; intro e; rw [e, lsa.1] at l5; omega) (.pointer (some ⟨q5, 0, none⟩))
  have D6 := (((HD3.out.relab e34).later b35)).foot f6 (fun i hi e => by rw [e, lsa.1] at hi; exact absurd hi (by unfold isD; omega))
  have W6 := Wir.footQ (hw4.later b45) f6 (by show ¬ wq = eb.sa; intro e; rw [e, lsa.1] at lq; omega)
  have N6 := EngX.come T6 S6 A6 K6 ⟨0, [], W6⟩ D6 l5 lq (fun g hg => by cases hg)
  have F6 : Hid (Foot (fun i => isE (lab i)) w (w5.setCell ⟨eb.sa, 0, none⟩ (.pointer (some ⟨q5, 0, none⟩)))) := Lib.hid (((F2.out.up b3').up b35).then f6 (fun i hi hdd => by
    show isE (lab i)
    rw [hdd, HH.out.lb.sa.1]; unfold isE; omega))
  have E6 : Hid (LabEq lab lab4 w) := Lib.hid fun i hi => by
    have s2 := F2.out.size
    have s3 := b3'.size
    exact (e34 i (by omega)).trans ((L3 i (by omega)).trans (E2.out i hi))
  obtain ⟨w6, hw6⟩ : ∃ w6, w6 = w5.setCell ⟨eb.sa, 0, none⟩ (.pointer (some ⟨q5, 0, none⟩)) := ⟨_, rfl⟩
  rw [← hw6] at N6 F6
  rw [← hw6]
  have H6 := Lib.hid N6
  clear hw6 W6 D6 K6 T6 S6 lsa T3 A6 f6 l5 lq z4 sd hq5 hwq e34 hlab4 L3 hr5 d5 A5 b35 K5 b45 b34 hw4 b4 FWn HT3 HA3 HD3 hr3 d9 d1 hr bb3 b3' e3 hx3 HWQ HQ5 N6
  have d1 := H6.out.at_ (by simp)
  dsimp only at d1
  have hr := Below.refl w6.heap.size w6
  obtain ⟨k, hk, hown⟩ := H6.out.map (by simp)
  obtain ⟨on, u, hon, hu⟩ : ∃ on u, on = E.st.isSome ∧ u = E.st.getD 0 := ⟨_, _, rfl, rfl⟩
  dsimp only at hown
  rw [← hon, ← hu] at hown
  clear hon hu
  go_wp2_with (at_mapUpdate; refine wpList_mapUpdate_in _ rfl _ _ _ 57 rfl 3 3 int_key Tryz.underlying57 (plainElem Tryz.prog 3) eb.mm k (mapD on u) rfl hown (by unfold maxLen; omega) _ _ (.int .i64 0) rfl rfl key0 (.lit (.int .i64 0)) [] (plainElem_int Tryz.underlying3 rfl) ?_; intro w7 hown7 ht7)
  have f7 := foot_map ht7
  rw [mapD_put] at hown7
  have N7 := H6.out.stated f7 (MapI.of hown7 (mapD_le _ _))
  dsimp only at N7
  have F7 : Hid (Foot (fun i => isE (lab i)) w w7) := Lib.hid (F6.out.then f7 (fun i hi e => by
    show isE (lab i)
    rw [e, HH.out.lb.mm.1]; unfold isE; omega))
  obtain ⟨eb4, hx4, N7⟩ : ∃ eb4 : EB, eb4.x = eb.x ∧ EngR w7 lab4 eb4 c { E with d := some (comeT c (newT c E.clock) 0), nx := 1, wb := [], snt := 0, rd := 0, st := some 0 } := ⟨_, by rfl, N7⟩
  have H7 := Lib.hid N7
  clear f7 ht7 hown7 N7 F6 H6 hr d1 hown hk
  have hr := Below.refl w7.heap.size w7
  have FT : Hid (∀ w', Below w7.heap.size w7 w' → Calls Tryz.prog 26 #[.pointer (some ⟨eb.x, 0, none⟩), .agg #[.int .i64 2, .int .i64 0, .int .i64 0, .int .i64 0, .string ⟨#[]⟩, .int .i64 0, .int .i64 0, .int .i64 0, .int .i64 0, .int .i64 0, .int .i64 0, .int .i64 0]] w' fun e w'' => e = .returned (.tuple #[]) ∧ ∃ lab' eb', LabEq lab4 lab' w' ∧ EngR w'' lab' eb' c { E with d := some (comeT c (newT c E.clock) 0), nx := 1, wb := [], snt := 0, rd := 0, st := some 0, out := E.out ++ [⟨2, 0, 0, 0, ⟨#[]⟩, 0, 0, 0, 0, 0, 0, 0⟩] } ∧ eb'.x = eb.x ∧ Foot (fun i => isE (lab4 i)) w' w'') := Lib.hid fun w' hb => by
    have := enTell (H7.out.later hb) (by simp) (by simp) (by have := HC.out.2.2.2.2.2.1; show E.out.length ≤ 1000000; omega) 2 0 0 0 ⟨#[]⟩ 0 0 0 0 0 0 0
    rw [hx4] at this
    exact this.mono fun e w'' ⟨lab', ov, h1, h2, h3, h4⟩ => ⟨h1, lab', _, h2, h3, rfl, h4.mono (fun i hi => by unfold isE; omega)⟩
  go_wp2_with fail
  refine (FT.out _ (by (repeat' (first | exact Below.refl _ _ | assumption | exact And.left (by assumption) | apply bel_alloc | apply Below.drew)))).mono ?_; rintro r w8 ⟨rfl, lab8, eb8, e8, h8, hx8, f8⟩
  have f8' : Foot (fun i => isE (lab4 i)) w7 w8 := by first | exact f8 | exact (Foot.later (Below.refl _ _).drew).trans f8
  have e8' : LabEq lab4 lab8 w7 := e8
  have F8 := Lib.hid (F7.out.then f8' (fun i hi hf => by rw [E6.out i hi] at hf; exact hf))
  have E8 : Hid (LabEq lab lab8 w) := Lib.hid fun i hi => (e8' i (Nat.lt_of_lt_of_le hi F7.out.size)).trans (E6.out i hi)
  have H8 := Lib.hid h8
  clear e8 e8' f8 f8' h8 hr FT
  have hr := Below.refl w8.heap.size w8
  have FZ : Hid (∀ w', Below w8.heap.size w8 w' → Calls Tryz.prog 50 #[.pointer (some ⟨eb.x, 0, none⟩), .int .i64 0] w' fun e w'' => e = .returned (.tuple #[]) ∧ ∃ lab' eb', LabEq lab8 lab' w' ∧ EngR w'' lab' eb' c (openE c E) ∧ eb'.x = eb.x ∧ Foot (fun i => isE (lab8 i)) w' w'') := Lib.hid fun w' hb => by
    have := enSettle (H8.out.later hb) (t := comeT c (newT c E.clock) 0) rfl HT0.out.1 HT0.out.2.1 HT0.out.2.2.1 HT0.out.2.2.2
    rw [hx8] at this
    exact this.mono fun e w'' ⟨lab', lv, h1, h2, h3, h4⟩ => ⟨h1, lab', _, h2, h3, rfl, h4⟩
  go_wp2_with fail
  refine (FZ.out _ (by (repeat' (first | exact Below.refl _ _ | assumption | exact And.left (by assumption) | apply bel_alloc | apply Below.drew)))).mono ?_; rintro r w9 ⟨rfl, lab9, eb9, e9, h9, hx9, f9⟩
  have f9' : Foot (fun i => isE (lab8 i)) w8 w9 := by first | exact f9 | exact (Foot.later (Below.refl _ _).drew).trans f9
  have e9' : LabEq lab8 lab9 w8 := e9
  have F9 := Lib.hid (F8.out.then f9' (fun i hi hf => by rw [E8.out i hi] at hf; exact hf))
  have E9 : Hid (LabEq lab lab9 w) := Lib.hid fun i hi => (e9' i (Nat.lt_of_lt_of_le hi F8.out.size)).trans (E8.out i hi)
  have H9 := Lib.hid h9
  clear e9 e9' f9 f9' h9 hr FZ
  go_wp2_with fail
  go_end0
  exact ⟨lab9, eb9, rfl, E9.out, H9.out, hx9, F9.out⟩
theorem enOpen {w : World} {lab : Nat → Nat} {eb : EB} {c : ScT} {E : ET} (h : EngR w lab eb c E) (hd : E.d = none) (hp : PrFit c.nm c.dl c.jm c.o0 c.o1) (hx : E.nx = 0) (hck : 0 ≤ E.clock ∧ E.clock ≤ 1000000000000) (h0 : (∃ n, c.o0 = .pause n) ∨ ∃ u, c.o0 = .send u) (hl : E.out.length ≤ 900000) (ht0 : (comeT c (newT c E.clock) 0).at_ ≤ 2 ∧ (comeT c (newT c E.clock) 0).now ≤ E.clock ∧ overN (comeT c (newT c E.clock) 0).li (comeT c (newT c E.clock) 0).cu E.clock = 0 ∧ (nextT (comeT c (newT c E.clock) 0) = nev ∨ 0 ≤ nextT (comeT c (newT c E.clock) 0))) :
    Calls Tryz.prog 28 #[.pointer (some ⟨eb.x, 0, none⟩), .int .i64 0] w fun e w' => ∃ lab' eb', e = .returned (.tuple #[]) ∧ LabEq (offD lab) lab' w ∧ EngR w' lab' eb' c (openE c E) ∧ eb'.x = eb.x ∧ Foot (fun i => isE (lab i)) w w' :=
  (enOpenA (h.noD hd) (fun i _ => offD_no lab i) hd hp hx hck h0 hl ht0).mono fun e w' ⟨lab', eb', h1, h2, h3, h4, h5⟩ => ⟨lab', eb', h1, h2, h3, h4, h5.mono fun i hi => by
    unfold offD isE at hi
    unfold isE
    split at hi <;> omega⟩
end Go.Proofs.YtbhgmccaecmpjaaGreat
