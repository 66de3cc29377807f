/-
  Contracts of package prog, fourth part: a script that is looked at may be.
  Conditions: the ops are those of the scripts that are looked at.
-/
import Derived.Test.YtbhgmccaecmpjaaGreatW30
namespace Go.Proofs.YtbhgmccaecmpjaaGreat
set_option linter.unusedVariables false
set_option linter.unusedSimpArgs false
open Go.RowKit

set_option maxRecDepth 100000 in
set_option maxHeartbeats 8000000 in
theorem pgWrongN (nm : ByteArray) (hnm : NameS nm) (jm g c : Nat) (hj : jm ≤ 1000) {k0 n0 e0 k1 n1 e1 : Int} {s0 s1 : ByteArray} {ao0 ao1 : Option Addr} {m0 cc0 m1 cc1 : Nat} (w : World) (hc : ∀ w', Below w.heap.size w w' → w'.cell? ⟨g, 0, none⟩ = some (.int .i64 k0) ∧ w'.cell? ⟨g, 1, none⟩ = some (.string s0) ∧ w'.cell? ⟨g, 2, none⟩ = some (.int .i64 n0) ∧ w'.cell? ⟨g, 3, none⟩ = some (.int .i64 0) ∧ w'.cell? ⟨g, 4, none⟩ = some (.slice ao0 m0 cc0) ∧ w'.cell? ⟨g, 5, none⟩ = some (.int .i64 e0) ∧ w'.cell? ⟨g, 6, none⟩ = some (.int .i64 e0) ∧ w'.cell? ⟨g, 7, none⟩ = some (.int .i64 k1) ∧ w'.cell? ⟨g, 8, none⟩ = some (.string s1) ∧ w'.cell? ⟨g, 9, none⟩ = some (.int .i64 n1) ∧ w'.cell? ⟨g, 10, none⟩ = some (.int .i64 0) ∧ w'.cell? ⟨g, 11, none⟩ = some (.slice ao1 m1 cc1) ∧ w'.cell? ⟨g, 12, none⟩ = some (.int .i64 e1) ∧ w'.cell? ⟨g, 13, none⟩ = some (.int .i64 e1))
    (h0 : ∀ w', Below w.heap.size w w' → Calls Tryz.prog 146 #[.agg #[.string nm, .int .i64 9223372036854775807, .int .i64 jm, .slice (some ⟨g, 0, none⟩) 2 c], .agg #[.int .i64 k0, .string s0, .int .i64 n0, .int .i64 0, .slice ao0 m0 cc0, .int .i64 e0, .int .i64 e0]] w' fun e w'' => e = .returned (.int .i64 0) ∧ Below w'.heap.size w' w'') (h1 : ∀ w', Below w.heap.size w w' → Calls Tryz.prog 146 #[.agg #[.string nm, .int .i64 9223372036854775807, .int .i64 jm, .slice (some ⟨g, 0, none⟩) 2 c], .agg #[.int .i64 k1, .string s1, .int .i64 n1, .int .i64 0, .slice ao1 m1 cc1, .int .i64 e1, .int .i64 e1]] w' fun e w'' => e = .returned (.int .i64 0) ∧ Below w'.heap.size w' w'') :
    Calls Tryz.prog 116 #[.agg #[.string nm, .int .i64 9223372036854775807, .int .i64 jm, .slice (some ⟨g, 0, none⟩) 2 c]] w fun e w' => e = .returned (.tuple #[.int .i64 0, .int .i64 0]) ∧ Below w.heap.size w w' := by
  obtain ⟨q, hq⟩ : ∃ q, w.heap.size = q := ⟨_, rfl⟩
  obtain ⟨w1, hw1⟩ : ∃ w1, w1 = w.alloc (.cells #[.string nm, .int .i64 9223372036854775807, .int .i64 jm, .slice (some ⟨g, 0, none⟩) 2 c] 32) := ⟨_, rfl⟩
  have b1 : Below w.heap.size w w1 := by rw [hw1]; exact Below.alloc (Below.refl _ _) (Nat.le_refl _) _
  have K1 : Blk w1 q 32 #[.string nm, .int .i64 9223372036854775807, .int .i64 jm, .slice (some ⟨g, 0, none⟩) 2 c] := by rw [hw1, ← hq]; exact Blk.new _ _ _
  have HW1 := Lib.hid hw1
  have HQ := Lib.hid hq
  have FN := Lib.hid (lxName nm hnm w1)
  have DO := Lib.hid hc
  have F0 := Lib.hid h0
  have F1 := Lib.hid h1
  have FJ : Hid (∀ w, Calls Tryz.prog 145 #[.int .i64 jm, .int .i64 0, .int .i64 1000] w fun e w' => e = .returned (.bool true) ∧ w = w') := Lib.hid fun w => pgIn jm 0 1000 (by omega) w
  have B1 := Lib.hid b1
  clear hw1 hq b1 hnm hc h0 h1
  go_enter Tryz.func116, Tryz.ntmps116
  go_upto_region 1 with fail
  rw [← HW1.out, HQ.out]
  have d1 := K1.at4
  have hr := Below.refl w1.heap.size w1
  go_wp2_with fail
  refine FN.out.mono ?_; rintro r w2 ⟨rfl, b2⟩
  have K12 := K1.later b2
  have B2 := Lib.hid (B1.out.up b2)
  clear d1 hr b2
  have d1 := K12.at4
  have hr := Below.refl w2.heap.size w2
  go_wp2_with fail
  refine (FJ.out _).mono ?_; rintro r w2 ⟨rfl, rfl⟩
  have do_ := fun w' (hb : Below w2.heap.size w2 w') => DO.out w' (B2.out.up hb)
  go_wp2_with fail
  refine wp_loop_rounds 3 ?_
  obtain ⟨y0, hy⟩ : ∃ y, w2.heap.size = y := ⟨_, rfl⟩
  obtain ⟨v0, hv⟩ : ∃ v, v = w2.alloc (.cells #[.int .i64 k0, .string s0, .int .i64 n0, .int .i64 0, .slice ao0 m0 cc0, .int .i64 e0, .int .i64 e0] 29) := ⟨_, rfl⟩
  have bv : Below w2.heap.size w2 v0 := by rw [hv]; exact Below.alloc (Below.refl _ _) (Nat.le_refl _) _
  have KY : Blk v0 y0 29 #[.int .i64 k0, .string s0, .int .i64 n0, .int .i64 0, .slice ao0 m0 cc0, .int .i64 e0, .int .i64 e0] := by rw [hv, ← hy]; exact Blk.new _ _ _
  have HV := Lib.hid hv
  have HY := Lib.hid hy
  have BV0 := Lib.hid (B2.out.up bv)
  have KP0 := K12.later bv
  clear hv hy bv
  rw [rounds_succ]
  go_upto_region 11 with fail
  rw [← HV.out, HY.out]
  clear d1 do_ hr
  have d1 := KP0.at4
  have dy := KY.at7
  have hr := Below.refl v0.heap.size v0
  have FK := Lib.hid (F0.out v0 BV0.out)
  go_wp2_with fail
  refine FK.out.mono ?_; rintro r u0 ⟨rfl, bu⟩
  have BU0 := Lib.hid (BV0.out.up bu)
  have KU0 := KP0.later bu
  clear d1 dy hr FK HV HY bu
  have d1 := KU0.at4
  have do_ := fun w' (hb : Below u0.heap.size u0 w') => DO.out w' (BU0.out.up hb)
  have hr := Below.refl u0.heap.size u0
  go_wp2_with fail
  obtain ⟨y1, hy⟩ : ∃ y, u0.heap.size = y := ⟨_, rfl⟩
  obtain ⟨v1, hv⟩ : ∃ v, v = u0.alloc (.cells #[.int .i64 k1, .string s1, .int .i64 n1, .int .i64 0, .slice ao1 m1 cc1, .int .i64 e1, .int .i64 e1] 29) := ⟨_, rfl⟩
  have bv : Below u0.heap.size u0 v1 := by rw [hv]; exact Below.alloc (Below.refl _ _) (Nat.le_refl _) _
  have KY : Blk v1 y1 29 #[.int .i64 k1, .string s1, .int .i64 n1, .int .i64 0, .slice ao1 m1 cc1, .int .i64 e1, .int .i64 e1] := by rw [hv, ← hy]; exact Blk.new _ _ _
  have HV := Lib.hid hv
  have HY := Lib.hid hy
  have BV1 := Lib.hid (BU0.out.up bv)
  have KP1 := KU0.later bv
  clear hv hy bv
  rw [rounds_succ]
  go_upto_region 11 with fail
  rw [← HV.out, HY.out]
  clear d1 do_ hr
  have d1 := KP1.at4
  have dy := KY.at7
  have hr := Below.refl v1.heap.size v1
  have FK := Lib.hid (F1.out v1 BV1.out)
  go_wp2_with fail
  refine FK.out.mono ?_; rintro r u1 ⟨rfl, bu⟩
  have BU1 := Lib.hid (BV1.out.up bu)
  have KU1 := KP1.later bu
  clear d1 dy hr FK HV HY bu
  have d1 := KU1.at4
  have do_ := fun w' (hb : Below u1.heap.size u1 w') => DO.out w' (BU1.out.up hb)
  have hr := Below.refl u1.heap.size u1
  go_wp2_with fail
  rw [rounds_succ]
  go_wp2_with fail
  go_ret2
  exact ⟨rfl, BU1.out⟩

set_option maxRecDepth 100000 in
set_option maxHeartbeats 8000000 in
theorem pgWrongF (nm : ByteArray) (hnm : NameS nm) (dl : Int) (hd : 1 ≤ dl ∧ dl ≤ 1000000000000) (jm g c : Nat) (hj : jm ≤ 1000) {k0 n0 e0 k1 n1 e1 : Int} {s0 s1 : ByteArray} {ao0 ao1 : Option Addr} {m0 cc0 m1 cc1 : Nat} (w : World) (hc : ∀ w', Below w.heap.size w w' → w'.cell? ⟨g, 0, none⟩ = some (.int .i64 k0) ∧ w'.cell? ⟨g, 1, none⟩ = some (.string s0) ∧ w'.cell? ⟨g, 2, none⟩ = some (.int .i64 n0) ∧ w'.cell? ⟨g, 3, none⟩ = some (.int .i64 0) ∧ w'.cell? ⟨g, 4, none⟩ = some (.slice ao0 m0 cc0) ∧ w'.cell? ⟨g, 5, none⟩ = some (.int .i64 e0) ∧ w'.cell? ⟨g, 6, none⟩ = some (.int .i64 e0) ∧ w'.cell? ⟨g, 7, none⟩ = some (.int .i64 k1) ∧ w'.cell? ⟨g, 8, none⟩ = some (.string s1) ∧ w'.cell? ⟨g, 9, none⟩ = some (.int .i64 n1) ∧ w'.cell? ⟨g, 10, none⟩ = some (.int .i64 0) ∧ w'.cell? ⟨g, 11, none⟩ = some (.slice ao1 m1 cc1) ∧ w'.cell? ⟨g, 12, none⟩ = some (.int .i64 e1) ∧ w'.cell? ⟨g, 13, none⟩ = some (.int .i64 e1))
    (h0 : ∀ w', Below w.heap.size w w' → Calls Tryz.prog 146 #[.agg #[.string nm, .int .i64 dl, .int .i64 jm, .slice (some ⟨g, 0, none⟩) 2 c], .agg #[.int .i64 k0, .string s0, .int .i64 n0, .int .i64 0, .slice ao0 m0 cc0, .int .i64 e0, .int .i64 e0]] w' fun e w'' => e = .returned (.int .i64 0) ∧ Below w'.heap.size w' w'') (h1 : ∀ w', Below w.heap.size w w' → Calls Tryz.prog 146 #[.agg #[.string nm, .int .i64 dl, .int .i64 jm, .slice (some ⟨g, 0, none⟩) 2 c], .agg #[.int .i64 k1, .string s1, .int .i64 n1, .int .i64 0, .slice ao1 m1 cc1, .int .i64 e1, .int .i64 e1]] w' fun e w'' => e = .returned (.int .i64 0) ∧ Below w'.heap.size w' w'') :
    Calls Tryz.prog 116 #[.agg #[.string nm, .int .i64 dl, .int .i64 jm, .slice (some ⟨g, 0, none⟩) 2 c]] w fun e w' => e = .returned (.tuple #[.int .i64 0, .int .i64 0]) ∧ Below w.heap.size w w' := by
  obtain ⟨q, hq⟩ : ∃ q, w.heap.size = q := ⟨_, rfl⟩
  obtain ⟨w1, hw1⟩ : ∃ w1, w1 = w.alloc (.cells #[.string nm, .int .i64 dl, .int .i64 jm, .slice (some ⟨g, 0, none⟩) 2 c] 32) := ⟨_, rfl⟩
  have b1 : Below w.heap.size w w1 := by rw [hw1]; exact Below.alloc (Below.refl _ _) (Nat.le_refl _) _
  have K1 : Blk w1 q 32 #[.string nm, .int .i64 dl, .int .i64 jm, .slice (some ⟨g, 0, none⟩) 2 c] := by rw [hw1, ← hq]; exact Blk.new _ _ _
  have HW1 := Lib.hid hw1
  have HQ := Lib.hid hq
  have FN := Lib.hid (lxName nm hnm w1)
  have DO := Lib.hid hc
  have F0 := Lib.hid h0
  have F1 := Lib.hid h1
  have e2 : (dl == 9223372036854775807) = false := ne_b (by omega)
  have FI : Hid (∀ w, Calls Tryz.prog 144 #[.int .i64 dl, .int .i64 1, .int .i64 1000000000000] w fun e w' => e = .returned (.bool true) ∧ w = w') := Lib.hid fun w => pgIn64 dl 1 1000000000000 hd w
  have FJ : Hid (∀ w, Calls Tryz.prog 145 #[.int .i64 jm, .int .i64 0, .int .i64 1000] w fun e w' => e = .returned (.bool true) ∧ w = w') := Lib.hid fun w => pgIn jm 0 1000 (by omega) w
  have B1 := Lib.hid b1
  clear hw1 hq b1 hnm hc h0 h1
  go_enter Tryz.func116, Tryz.ntmps116
  go_upto_region 1 with fail
  rw [← HW1.out, HQ.out]
  have d1 := K1.at4
  have hr := Below.refl w1.heap.size w1
  go_wp2_with fail
  refine FN.out.mono ?_; rintro r w2 ⟨rfl, b2⟩
  have K12 := K1.later b2
  have B2 := Lib.hid (B1.out.up b2)
  clear d1 hr b2
  have d1 := K12.at4
  have hr := Below.refl w2.heap.size w2
  go_wp2_with fail
  refine (FI.out _).mono ?_; rintro r w2 ⟨rfl, rfl⟩
  go_wp2_with fail
  refine (FJ.out _).mono ?_; rintro r w2 ⟨rfl, rfl⟩
  have do_ := fun w' (hb : Below w2.heap.size w2 w') => DO.out w' (B2.out.up hb)
  go_wp2_with fail
  refine wp_loop_rounds 3 ?_
  obtain ⟨y0, hy⟩ : ∃ y, w2.heap.size = y := ⟨_, rfl⟩
  obtain ⟨v0, hv⟩ : ∃ v, v = w2.alloc (.cells #[.int .i64 k0, .string s0, .int .i64 n0, .int .i64 0, .slice ao0 m0 cc0, .int .i64 e0, .int .i64 e0] 29) := ⟨_, rfl⟩
  have bv : Below w2.heap.size w2 v0 := by rw [hv]; exact Below.alloc (Below.refl _ _) (Nat.le_refl _) _
  have KY : Blk v0 y0 29 #[.int .i64 k0, .string s0, .int .i64 n0, .int .i64 0, .slice ao0 m0 cc0, .int .i64 e0, .int .i64 e0] := by rw [hv, ← hy]; exact Blk.new _ _ _
  have HV := Lib.hid hv
  have HY := Lib.hid hy
  have BV0 := Lib.hid (B2.out.up bv)
  have KP0 := K12.later bv
  clear hv hy bv
  rw [rounds_succ]
  go_upto_region 11 with fail
  rw [← HV.out, HY.out]
  clear d1 do_ hr
  have d1 := KP0.at4
  have dy := KY.at7
  have hr := Below.refl v0.heap.size v0
  have FK := Lib.hid (F0.out v0 BV0.out)
  go_wp2_with fail
  refine FK.out.mono ?_; rintro r u0 ⟨rfl, bu⟩
  have BU0 := Lib.hid (BV0.out.up bu)
  have KU0 := KP0.later bu
  clear d1 dy hr FK HV HY bu
  have d1 := KU0.at4
  have do_ := fun w' (hb : Below u0.heap.size u0 w') => DO.out w' (BU0.out.up hb)
  have hr := Below.refl u0.heap.size u0
  go_wp2_with fail
  obtain ⟨y1, hy⟩ : ∃ y, u0.heap.size = y := ⟨_, rfl⟩
  obtain ⟨v1, hv⟩ : ∃ v, v = u0.alloc (.cells #[.int .i64 k1, .string s1, .int .i64 n1, .int .i64 0, .slice ao1 m1 cc1, .int .i64 e1, .int .i64 e1] 29) := ⟨_, rfl⟩
  have bv : Below u0.heap.size u0 v1 := by rw [hv]; exact Below.alloc (Below.refl _ _) (Nat.le_refl _) _
  have KY : Blk v1 y1 29 #[.int .i64 k1, .string s1, .int .i64 n1, .int .i64 0, .slice ao1 m1 cc1, .int .i64 e1, .int .i64 e1] := by rw [hv, ← hy]; exact Blk.new _ _ _
  have HV := Lib.hid hv
  have HY := Lib.hid hy
  have BV1 := Lib.hid (BU0.out.up bv)
  have KP1 := KU0.later bv
  clear hv hy bv
  rw [rounds_succ]
  go_upto_region 11 with fail
  rw [← HV.out, HY.out]
  clear d1 do_ hr
  have d1 := KP1.at4
  have dy := KY.at7
  have hr := Below.refl v1.heap.size v1
  have FK := Lib.hid (F1.out v1 BV1.out)
  go_wp2_with fail
  refine FK.out.mono ?_; rintro r u1 ⟨rfl, bu⟩
  have BU1 := Lib.hid (BV1.out.up bu)
  have KU1 := KP1.later bu
  clear d1 dy hr FK HV HY bu
  have d1 := KU1.at4
  have do_ := fun w' (hb : Below u1.heap.size u1 w') => DO.out w' (BU1.out.up hb)
  have hr := Below.refl u1.heap.size u1
  go_wp2_with fail
  rw [rounds_succ]
  go_wp2_with fail
  go_ret2
  exact ⟨rfl, BU1.out⟩
end Go.Proofs.YtbhgmccaecmpjaaGreat

namespace Go.Proofs.YtbhgmccaecmpjaaGreat
set_option linter.unusedVariables false
set_option linter.unusedSimpArgs false
open Go.RowKit

theorem pgOpAny (nm : ByteArray) (dl : Int) (jm g c : Nat) (o : OpT) (ho : o.fits) (ag ac : Nat) (w : World) (ha : ArmC w ag o) : Calls Tryz.prog 146 #[.agg #[.string nm, .int .i64 dl, .int .i64 jm, .slice (some ⟨g, 0, none⟩) 2 c], o.val ag ac] w fun e w' => e = .returned (.int .i64 0) ∧ Below w.heap.size w w' := by
  cases o with
  | send u => exact pgOpSend nm dl jm g c u ho w
  | pause n => exact pgOpPause nm dl jm g c n ho w
  | expect n a =>
    cases a with
    | none =>
      rcases ho.1 with rfl | hn
      · exact pgOpExp0N nm dl jm g c w
      · exact pgOpExp0F nm dl jm g c n hn w
    | some pk =>
      obtain ⟨p, k⟩ := pk
      obtain ⟨h1, h2, rfl⟩ := ho.2 p k rfl
      obtain ⟨l, h3, h4⟩ := ha n p 2 rfl
      have h5 : ∀ w', Below w.heap.size w w' → w'.cell? ⟨ag, 0, none⟩ = some (.string p) ∧ w'.cell? ⟨ag, 1, none⟩ = some (.int .i64 2) := fun w' hb => ⟨(cell_same (hb.block _ l)).trans h3, (cell_same (hb.block _ l)).trans h4⟩
      rcases ho.1 with rfl | hn
      · exact pgOpExp1N nm dl jm g c ag ac p h1 h2 w h5
      · exact pgOpExp1F nm dl jm g c n hn ag ac p h1 h2 w h5
/-- What a script that is looked at must be. -/
structure PrFit (nm : ByteArray) (dl : Int) (jm : Nat) (o0 o1 : OpT) : Prop where
  nm : NameS nm
  dl : dl = nev ∨ 1 ≤ dl ∧ dl ≤ 1000000000000
  jm : jm ≤ 1000
  o0 : o0.fits
  o1 : o1.fits
theorem pgWrong (nm : ByteArray) (dl : Int) (jm : Nat) (b : SB2) (o0 o1 : OpT) (h : PrFit nm dl jm o0 o1) (w : World) (hs : Scr w b o0 o1) : Calls Tryz.prog 116 #[prV nm dl jm b] w fun e w' => e = .returned (.tuple #[.int .i64 0, .int .i64 0]) ∧ Below w.heap.size w w' := by
  have hc : ∀ w', Below w.heap.size w w' → ∀ (i : Nat) v, (o0.cells b.a0 b.c0 ++ o1.cells b.a1 b.c1)[i]? = some v → w'.cell? ⟨b.g, i, none⟩ = some v := fun w' hb => (hs.later hb).row
  obtain ⟨ao0, m0, cc0, e0⟩ := arms_form o0 b.a0 b.c0
  obtain ⟨ao1, m1, cc1, e1⟩ := arms_form o1 b.a1 b.c1
  have h0 : ∀ w', Below w.heap.size w w' → Calls Tryz.prog 146 #[.agg #[.string nm, .int .i64 dl, .int .i64 jm, .slice (some ⟨b.g, 0, none⟩) 2 b.c], .agg #[.int .i64 o0.kind, .string o0.text, .int .i64 o0.num, .int .i64 0, .slice ao0 m0 cc0, .int .i64 o0.els, .int .i64 o0.els]] w' fun e w'' => e = .returned (.int .i64 0) ∧ Below w'.heap.size w' w'' := fun w' hb => by
    have := pgOpAny nm dl jm b.g b.c o0 h.o0 b.a0 b.c0 w' (hs.arm0.later hb)
    unfold OpT.val OpT.cells at this
    rwa [e0] at this
  have h1 : ∀ w', Below w.heap.size w w' → Calls Tryz.prog 146 #[.agg #[.string nm, .int .i64 dl, .int .i64 jm, .slice (some ⟨b.g, 0, none⟩) 2 b.c], .agg #[.int .i64 o1.kind, .string o1.text, .int .i64 o1.num, .int .i64 0, .slice ao1 m1 cc1, .int .i64 o1.els, .int .i64 o1.els]] w' fun e w'' => e = .returned (.int .i64 0) ∧ Below w'.heap.size w' w'' := fun w' hb => by
    have := pgOpAny nm dl jm b.g b.c o1 h.o1 b.a1 b.c1 w' (hs.arm1.later hb)
    unfold OpT.val OpT.cells at this
    rwa [e1] at this
  unfold OpT.cells at hc
  rw [e0, e1] at hc
  have hc' := fun w' hb => And.intro (And.intro (hc w' hb 0 _ rfl) (And.intro (hc w' hb 1 _ rfl) (And.intro (hc w' hb 2 _ rfl) (And.intro (hc w' hb 3 _ rfl) (And.intro (hc w' hb 4 _ rfl) (And.intro (hc w' hb 5 _ rfl) (hc w' hb 6 _ rfl))))))) (And.intro (hc w' hb 7 _ rfl) (And.intro (hc w' hb 8 _ rfl) (And.intro (hc w' hb 9 _ rfl) (And.intro (hc w' hb 10 _ rfl) (And.intro (hc w' hb 11 _ rfl) (And.intro (hc w' hb 12 _ rfl) (hc w' hb 13 _ rfl)))))))
  have hc2 := fun w' hb => by simpa only [and_assoc] using hc' w' hb
  rcases h.dl with hd | hd
  · subst hd
    exact pgWrongN nm h.nm jm b.g b.c h.jm w hc2 h0 h1
  · exact pgWrongF nm h.nm dl hd jm b.g b.c h.jm w hc2 h0 h1
set_option maxRecDepth 100000 in
set_option maxHeartbeats 4000000 in
theorem pgGood (nm : ByteArray) (dl : Int) (jm : Nat) (b : SB2) (o0 o1 : OpT) (h : PrFit nm dl jm o0 o1) (w : World) (hs : Scr w b o0 o1) : Calls Tryz.prog 70 #[prV nm dl jm b] w fun e w' => e = .returned (.bool true) ∧ Below w.heap.size w w' := by
  have FW : Hid (∀ w', Below w.heap.size w w' → Calls Tryz.prog 116 #[.agg #[.string nm, .int .i64 dl, .int .i64 jm, .slice (some ⟨b.g, 0, none⟩) 2 b.c]] w' fun e w'' => e = .returned (.tuple #[.int .i64 0, .int .i64 0]) ∧ Below w'.heap.size w' w'') := Lib.hid fun w' hb => pgWrong nm dl jm b o0 o1 h w' (hs.later hb)
  unfold prV
  obtain ⟨q, hq⟩ : ∃ q, w.heap.size = q := ⟨_, rfl⟩
  obtain ⟨w1, hw1⟩ : ∃ w1, w1 = w.alloc (.cells #[.string nm, .int .i64 dl, .int .i64 jm, .slice (some ⟨b.g, 0, none⟩) 2 b.c] 32) := ⟨_, rfl⟩
  have b1 : Below w.heap.size w w1 := by rw [hw1]; exact Below.alloc (Below.refl _ _) (Nat.le_refl _) _
  have K1 : Blk w1 q 32 #[.string nm, .int .i64 dl, .int .i64 jm, .slice (some ⟨b.g, 0, none⟩) 2 b.c] := by rw [hw1, ← hq]; exact Blk.new _ _ _
  have HW1 := Lib.hid hw1
  have HQ := Lib.hid hq
  have B1 := Lib.hid b1
  have FW1 := Lib.hid (FW.out w1 b1)
  clear hw1 hq b1 h hs FW
  go_enter Tryz.func70, Tryz.ntmps70
  go_upto_region 1 with fail
  rw [← HW1.out, HQ.out]
  have d1 := K1.at4
  have hr := Below.refl w1.heap.size w1
  go_wp2_with fail
  refine FW1.out.mono ?_; rintro r w2 ⟨rfl, b2⟩
  go_wp2_with fail
  go_ret
  exact ⟨rfl, B1.out.up b2⟩

/-- An op's arms, cloned. -/
theorem clArms (o : OpT) (ag ac : Nat) (w : World) (h : ArmC w ag o) : Calls Tryz.prog 43 #[o.arms ag ac] w fun e w' => ∃ a' c', e = .returned (o.arms a' c') ∧ ArmC w' a' o ∧ ((∃ n p k, o = .expect n (some (p, k))) → w.heap.size ≤ a') ∧ Below w.heap.size w w' := by
  cases o with
  | send u => exact (cloneArm0 w).mono fun e w' ⟨h1, h2⟩ => ⟨0, 0, h1, fun n p k e => (by cases e), fun ⟨n, p, k, e⟩ => (by cases e), h2 ▸ Below.refl _ _⟩
  | pause u => exact (cloneArm0 w).mono fun e w' ⟨h1, h2⟩ => ⟨0, 0, h1, fun n p k e => (by cases e), fun ⟨n, p, k, e⟩ => (by cases e), h2 ▸ Below.refl _ _⟩
  | expect n a =>
    cases a with
    | none => exact (cloneArm0 w).mono fun e w' ⟨h1, h2⟩ => ⟨0, 0, h1, fun n p k e => (by cases e), fun ⟨n, p, k, e⟩ => (by cases e), h2 ▸ Below.refl _ _⟩
    | some pk =>
      obtain ⟨p, k⟩ := pk
      obtain ⟨l, h3, h4⟩ := h n p k rfl
      refine (cloneArm w ag 1 ac [.string p, .int .i64 (k : Nat)] rfl (fun j u hj => ?_) (fun u hu => ?_) (by omega)).mono fun e w' ⟨ao, cap, h1, h2, h5⟩ => ?_
      · match j, hj with
        | 0, hj => simp at hj; rw [← hj]; exact h3
        | 1, hj => simp at hj; rw [← hj]; exact h4
      · simp at hu; rcases hu with rfl | rfl <;> rfl
      · obtain ⟨g, rfl, hg, c0⟩ := orow_cell h2 0 (by simp)
        obtain ⟨g', hg', _, c1⟩ := orow_cell h2 1 (by simp)
        cases hg'
        have hlo : w.heap.size ≤ g := (World.ownsRow.lt h2 g rfl).1
        refine ⟨g, cap, h1, fun n' p' k' e' => ?_, fun _ => hlo, h5⟩
        cases e'
        exact ⟨hg, by simpa using c0 w' (Below.refl _ _), by simpa using c1 w' (Below.refl _ _)⟩
/-- A row of ops that is being made. -/
def RowB (w : World) (g : Nat) (xs : List Value) : Prop := ∃ cur, Blk w g 29 cur ∧ ∀ (i : Nat) v, xs[i]? = some v → cur[i]? = some v
theorem RowB.later {w w' : World} {g : Nat} {xs : List Value} (h : RowB w g xs) (k : Below w.heap.size w w') : RowB w' g xs := by obtain ⟨cur, hb, r⟩ := h; exact ⟨cur, hb.later k, r⟩
theorem RowB.far {w : World} {g : Nat} {xs : List Value} (h : RowB w g xs) {p : Addr} (hp : g ≠ p.block) (u : Value) : RowB (w.setCell p u) g xs := by obtain ⟨cur, hb, r⟩ := h; exact ⟨cur, hb.far hp u, r⟩
theorem RowB.lt {w : World} {g : Nat} {xs : List Value} (h : RowB w g xs) : g < w.heap.size := by obtain ⟨cur, hb, r⟩ := h; exact hb.lt
theorem RowB.cell {w : World} {g : Nat} {xs : List Value} (h : RowB w g xs) (i : Nat) (v : Value) (e : xs[i]? = some v) : w.cell? ⟨g, i, none⟩ = some v := by obtain ⟨cur, hb, r⟩ := h; exact (hb.cell i).trans (r i v e)
theorem RowB.frozen {w : World} {g : Nat} {xs : List Value} (h : RowB w g xs) (i : Nat) : w.frozen? ⟨g, i, none⟩ = false := by obtain ⟨cur, hb, r⟩ := h; exact hb.frozen i
theorem RowB.set {w : World} {g : Nat} {xs : List Value} (h : RowB w g xs) (j : Nat) (u : Value) : RowB (w.setCell ⟨g, j, none⟩ u) g (xs.set j u) := by
  obtain ⟨cur, hb, r⟩ := h
  refine ⟨cur.setIfInBounds j u, hb.set_ j u, fun i v e => ?_⟩
  rw [List.getElem?_set] at e
  by_cases hij : j = i
  · subst hij
    rw [if_pos rfl] at e
    by_cases hl : j < xs.length
    · rw [if_pos hl] at e
      have h1 := r j _ (List.getElem?_eq_getElem hl)
      have h2 : j < cur.size := (Array.getElem?_eq_some_iff.1 h1).1
      rw [← e]; simp [h2]
    · rw [if_neg hl] at e; cases e
  · rw [if_neg hij] at e
    rw [Array.getElem?_setIfInBounds_ne hij]
    exact r i v e
theorem RowB.of {w : World} {B c n : Nat} {ao : Option Addr} {xs : List Value} (h : ORow 29 7 B w (.slice ao n c) n xs) (hn : 0 < n) : ∃ g, ao = some ⟨g, 0, none⟩ ∧ B ≤ g ∧ RowB w g xs := by
  rcases h.2 with ⟨_, h0⟩ | ⟨g, cap', cur, hv, hB, hb, h1, h2, h3, h4⟩
  · omega
  · cases hv
    refine ⟨g, rfl, hB, cur, hb, fun i v e => ?_⟩
    have hi : i < xs.length := (List.getElem?_eq_some_iff.1 e).1
    rw [← h4, List.getElem?_take_of_lt (by rw [h.1] at hi; exact hi)] at e
    simpa using e
end Go.Proofs.YtbhgmccaecmpjaaGreat
