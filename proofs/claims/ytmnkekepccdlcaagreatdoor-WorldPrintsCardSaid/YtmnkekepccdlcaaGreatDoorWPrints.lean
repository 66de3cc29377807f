/-
  The walk of WorldPrints: the lines of any round, whether it may be, and that it comes back from them.
  Conditions: the rounds' rows lie in the world; the tables and the error of range stand in their variables.
-/
import Derived.Test.YtmnkekepccdlcaaGreatDoorWPrA
import Derived.Test.YtmnkekepccdlcaaGreatDoorWSEq
import Derived.Test.YtmnkekepccdlcaaGreatDoorWgJ
import Derived.Test.YtmnkekepccdlcaaGreatDoorWorldL
namespace Go.Proofs.YtmnkekepccdlcaaGreatDoor
set_option linter.unusedVariables false
set_option linter.unusedSimpArgs false
open Go.RowKit

set_option maxHeartbeats 16000000 in
set_option maxRecDepth 100000 in
theorem worldPrints (h1 h2 : Hd) (r1 r2 : Rd) (w : World) (ha : RAt w h1 r1) (la : RLen r1) (hb : RAt w h2 r2) (lb : RLen r2) (he : EnvW w) :
    Calls Tryz.prog 10 #[.agg (rC h1 r1).toArray, .agg (rC h2 r2).toArray] w fun e w' => e = .returned (.bool true) ∧ Below w.heap.size w w' := by
  have HE := Lib.hid he
  have HLV := Lib.hid (fun w' he' => wLives w' he')
  obtain ⟨w0, hw0⟩ : ∃ w0, (w.alloc (.cells (rC h1 r1).toArray 59)).alloc (.cells (rC h2 r2).toArray 59) = w0 := ⟨_, rfl⟩
  have k0 : Blk w0 w.heap.size 59 (rC h1 r1).toArray := by rw [← hw0]; exact (Blk.new _ _ _).alloc _
  have k1 : Blk w0 (w.heap.size + 1) 59 (rC h2 r2).toArray := by
    rw [← hw0]
    simpa using Blk.new (w.alloc (.cells (rC h1 r1).toArray 59)) 59 (rC h2 r2).toArray
  have b0 : Below w.heap.size w w0 := by rw [← hw0]; exact ((Below.refl _ _).alloc (Nat.le_refl _) _).alloc (by simp) _
  have HW0 := Lib.hid hw0
  have SR := Lib.hid (cutR_sml r1 (K := 1000000) (by decide))
  have SO := Lib.hid (cutR_sml r2 (K := 1000000) (by decide))
  have LR := Lib.hid (cutR_len r1)
  have LO := Lib.hid (cutR_len r2)
  have PL := Lib.hid (fun hg => cutR_print r1 hg)
  have FA : Hid (∀ w', Below w0.heap.size w0 w' → Calls Tryz.prog 36 #[.agg (rC h1 r1).toArray] w' fun e w'' => ∃ h', e = .returned (.agg (rC h' (cutR r1)).toArray) ∧ RIn w'.heap.size w'' h' (cutR r1) ∧ Below w'.heap.size w' w'') := Lib.hid fun w' hw => eRound h1 r1 w' ((ha.later b0).later hw) la
  have FB : Hid (∀ w', Below w0.heap.size w0 w' → Calls Tryz.prog 36 #[.agg (rC h2 r2).toArray] w' fun e w'' => ∃ h', e = .returned (.agg (rC h' (cutR r2)).toArray) ∧ RIn w'.heap.size w'' h' (cutR r2) ∧ Below w'.heap.size w' w'') := Lib.hid fun w' hw => eRound h2 r2 w' ((hb.later b0).later hw) lb
  have TA := Lib.hid (cutR_twice r1)
  have TB := Lib.hid (cutR_twice r2)
  generalize cutR r1 = R at *
  generalize cutR r2 = O at *
  have KA := Lib.hid k0
  have KB := Lib.hid k1
  have BB := Lib.hid b0
  unfold rC at k0 k1 HW0 FA FB ⊢
  have d0 := k0.at6
  have d1 := k1.at6
  have hr := Below.refl w0.heap.size w0
  have DD : Below w0.heap.size w0 w0.drew := (Below.refl _ _).drew
  clear hw0 ha hb la lb he k0 k1 b0
  go_enter Tryz.func10, Tryz.ntmps10
  go_upto_region 1 with fail
  rw [HW0.out]
  go_cut [] (fun wx => ∃ hA hO, Hid (Pr w wx hA hO R O))
  case first =>
    go_region_law (first
      | (go_simp; go_at_call 36; with_reducible (refine (FA.out w0.drew DD).mono ?_); rintro e w4 ⟨hA, rfl, iA, b4⟩; have hb4 : Below w0.heap.size w0 w4 := DD.up b4)
      | (go_simp; go_at_call 36; with_reducible (refine (FB.out w4 hb4).mono ?_); rintro e w5 ⟨hO, rfl, iO, b5⟩; have hb5 : Below w0.heap.size w0 w5 := hb4.up b5))
    all_goals (
      have hX := pr_done (KA.out.later hb5) (KB.out.later hb5) ((iA.later b5).lower (BB.out.size)) (iO.lower (BB.out.up hb4).size) (BB.out.up hb5)
      go_wp2_with fail
      go_meet
      first | exact ⟨hA, hO, Lib.hid hX.1⟩ | exact ⟨hA, hO, Lib.hid hX.2⟩)
  case rest =>
    obtain ⟨hA, hO, hP⟩ := hcut
    generalize wc = w1 at *
    clear d0 d1 hr DD FA FB KA KB HW0 BB
    have HP := Lib.hid hP.out.bel
    have MKA : Hid (∀ w', Below w1.heap.size w1 w' → RAt w' hA R) := Lib.hid fun w' hw => hP.out.ia.rat.later hw
    have MKO : Hid (∀ w', Below w1.heap.size w1 w' → RAt w' hO O) := Lib.hid fun w' hw => hP.out.io.rat.later hw
    have GA : Hid (∀ w', Below w1.heap.size w1 w' → Calls Tryz.prog 36 #[.agg (rC hA R).toArray] w' fun e w'' => ∃ h', e = .returned (.agg (rC h' R).toArray) ∧ RIn w'.heap.size w'' h' R ∧ Below w'.heap.size w' w'') := Lib.hid fun w' hw => by
      have := eRound hA R w' (MKA.out w' hw) LR.out
      rw [TA.out] at this
      exact this
    have GO : Hid (∀ w', Below w1.heap.size w1 w' → Calls Tryz.prog 36 #[.agg (rC hO O).toArray] w' fun e w'' => ∃ h', e = .returned (.agg (rC h' O).toArray) ∧ RIn w'.heap.size w'' h' O ∧ Below w'.heap.size w' w'') := Lib.hid fun w' hw => by
      have := eRound hO O w' (MKO.out w' hw) LO.out
      rw [TB.out] at this
      exact this
    have GG : Hid (∀ w', Below w1.heap.size w1 w' → Calls Tryz.prog 33 #[.agg (rC hA R).toArray] w' fun e w'' => e = .returned (.bool (goodR R)) ∧ Below w'.heap.size w' w'') := Lib.hid fun w' hw => gGood hA R w' (MKA.out w' hw) SR.out
    have GS : Hid (∀ w', Below w1.heap.size w1 w' → Calls Tryz.prog 39 #[.agg (rC hA R).toArray, .agg (rC hO O).toArray] w' fun e w'' => e = .returned (.bool (decide (R = O))) ∧ Below w'.heap.size w' w'') := Lib.hid fun w' hw => gSame hA hO R O w' (MKA.out w' hw) (MKO.out w' hw) SR.out
    have XP : Hid (∀ h' w', RAt w' h' R → EnvW w' → Calls Tryz.prog 37 #[.agg (rC h' R).toArray] w' fun e w'' => e = .returned (.tuple #[.string ⟨(if goodR R = true then printR R else []).toArray⟩, .int .i64 (if goodR R = true then 0 else 2)]) ∧ Below w'.heap.size w' w'') := Lib.hid fun h' w' hr' he' => xPrint h' R w' hr' SR.out he' (fun hg => Nat.le_trans (PL.out hg) (by decide))
    have XG : Hid (∀ h' w', RAt w' h' R → Calls Tryz.prog 31 #[.agg (rC h' R).toArray] w' fun e w'' => e = .returned (.bool (goodR R)) ∧ Below w'.heap.size w' w'') := Lib.hid fun h' w' hr' => xGoodE h' R w' hr' SR.out
    have XS : Hid (∀ h' h'' w', RAt w' h' R → RAt w' h'' O → Calls Tryz.prog 38 #[.agg (rC h' R).toArray, .agg (rC h'' O).toArray] w' fun e w'' => e = .returned (.bool (decide (R = O))) ∧ Below w'.heap.size w' w'') := Lib.hid fun h' h'' w' hr' hr'' => xSame h' h'' R O w' hr' hr'' SR.out
    have k0 := hP.out.k0
    have k1 := hP.out.k1
    obtain ⟨S, hS⟩ : ∃ S : ByteArray, ⟨(if goodR R = true then printR R else []).toArray⟩ = S := ⟨_, rfl⟩
    obtain ⟨M, hM⟩ : ∃ M : Int, (if goodR R = true then 0 else 2) = M := ⟨_, rfl⟩
    rw [hS, hM] at XP
    have HS := Lib.hid hS
    have HM := Lib.hid hM
    obtain ⟨G, hG⟩ : ∃ G : Bool, goodR R = G := ⟨_, rfl⟩
    obtain ⟨E, hE⟩ : ∃ E : Bool, decide (R = O) = E := ⟨_, rfl⟩
    rw [hG] at GG XG
    rw [hE] at GS XS
    have HG := Lib.hid hG
    unfold rC at k0 k1 GA GO GG GS XP XG XS
    have CC : Hid (∀ w', Below w1.heap.size w1 w' → Below w1.heap.size w1 w' ∧ (w'.cell? ⟨w.heap.size, 0, none⟩ = some (.int .i64 R.ticks) ∧ w'.cell? ⟨w.heap.size, 1, none⟩ = some (.slice hA.oa R.opens.length hA.oc) ∧ w'.cell? ⟨w.heap.size, 2, none⟩ = some (.slice hA.fa R.offers.length hA.fc) ∧ w'.cell? ⟨w.heap.size, 3, none⟩ = some (.slice hA.pa R.reports.length hA.pc) ∧ w'.cell? ⟨w.heap.size, 4, none⟩ = some (.int .i64 R.drain) ∧ w'.cell? ⟨w.heap.size, 5, none⟩ = some (.bool R.abort)) ∧ (w'.cell? ⟨w.heap.size + 1, 0, none⟩ = some (.int .i64 O.ticks) ∧ w'.cell? ⟨w.heap.size + 1, 1, none⟩ = some (.slice hO.oa O.opens.length hO.oc) ∧ w'.cell? ⟨w.heap.size + 1, 2, none⟩ = some (.slice hO.fa O.offers.length hO.fc) ∧ w'.cell? ⟨w.heap.size + 1, 3, none⟩ = some (.slice hO.pa O.reports.length hO.pc) ∧ w'.cell? ⟨w.heap.size + 1, 4, none⟩ = some (.int .i64 O.drain) ∧ w'.cell? ⟨w.heap.size + 1, 5, none⟩ = some (.bool O.abort))) := Lib.hid fun w' hw => by
      obtain ⟨a0, a1, a2, a3, a4, a5, -⟩ := k0.at6 w' hw
      obtain ⟨c0, c1, c2, c3, c4, c5, -⟩ := k1.at6 w' hw
      exact ⟨hw, ⟨a0, a1, a2, a3, a4, a5⟩, ⟨c0, c1, c2, c3, c4, c5⟩⟩
    clear hS hM hG hE hP k0 k1
    have d1 := fun w' hw => (CC.out w' hw).2
    have hr := Below.refl w1.heap.size w1
    go_wp2_with fail
    refine (GA.out _ hr).mono ?_; rintro e w2 ⟨h3, rfl, i3, b2⟩
    have PX := Lib.hid (XP.out h3 w2 i3.rat (HE.out.later (HP.out.up b2)))
    clear XP i3 d1
    go_wp2_with fail
    refine PX.out.mono ?_; rintro e w3 ⟨rfl, b3⟩
    have b13 := b2.up b3
    have hcur : Below w1.heap.size w1 w3.drew := b13.drew
    clear b3 b2 hr PX
    go_upto_region 3 with fail
    go_cut [36] (fun sv wx => sv = .bool false ∧ Below w1.heap.size w1 wx)
    case first =>
      refine wp_region_ord (S := fun w' => Below w1.heap.size w1 w' ∧ (w'.cell? ⟨w.heap.size, 0, none⟩ = some (.int .i64 R.ticks) ∧ w'.cell? ⟨w.heap.size, 1, none⟩ = some (.slice hA.oa R.opens.length hA.oc) ∧ w'.cell? ⟨w.heap.size, 2, none⟩ = some (.slice hA.fa R.offers.length hA.fc) ∧ w'.cell? ⟨w.heap.size, 3, none⟩ = some (.slice hA.pa R.reports.length hA.pc) ∧ w'.cell? ⟨w.heap.size, 4, none⟩ = some (.int .i64 R.drain) ∧ w'.cell? ⟨w.heap.size, 5, none⟩ = some (.bool R.abort)) ∧ (w'.cell? ⟨w.heap.size + 1, 0, none⟩ = some (.int .i64 O.ticks) ∧ w'.cell? ⟨w.heap.size + 1, 1, none⟩ = some (.slice hO.oa O.opens.length hO.oc) ∧ w'.cell? ⟨w.heap.size + 1, 2, none⟩ = some (.slice hO.fa O.offers.length hO.fc) ∧ w'.cell? ⟨w.heap.size + 1, 3, none⟩ = some (.slice hO.pa O.reports.length hO.pc) ∧ w'.cell? ⟨w.heap.size + 1, 4, none⟩ = some (.int .i64 O.drain) ∧ w'.cell? ⟨w.heap.size + 1, 5, none⟩ = some (.bool O.abort)))
        [0, 3, 1, 2, 4, 5, 6, 7, 9, 12, 13, 8, 10, 11, 14, 15, 16] (by kernel_rfl) (by kernel_rfl) (by kernel_rfl) (by kernel_rfl) (by kernel_rfl) (CC.out _ hcur) ?_
      simp only [pickL, List.filterMap_cons, List.filterMap_nil, List.getElem?_cons_zero, List.getElem?_cons_succ]
      repeat (refine ord_take (v := ?_) (by rfl) (by rfl) ?_ ?_; rotate_left; (focus (intro w hSw; (try dsimp only at hSw); go_simp; (try with_reducible rfl))); simp only [Act.put, List.setIfInBounds_toArray, List.set_cons_zero, List.set_cons_succ])
      refine ord_lone (by rfl) (by rfl) (fun K hK => ?_)
      try go_simp
      go_at_call 36
      refine (GA.out _ hcur).mono ?_; rintro e w4 ⟨h4, rfl, i4, b4⟩
      have c4 := hcur.up b4
      refine hK.out _ _ (CC.out _ c4) (fun _ => ?_)
      clear hK
      try simp only [Act.put, List.setIfInBounds_toArray, List.set_cons_zero, List.set_cons_succ]
      refine ord_lone (by rfl) (by rfl) (fun K hK => ?_)
      try go_simp
      go_at_call 31
      refine (XG.out h4 w4 i4.rat).mono ?_; rintro e w5 ⟨rfl, b5⟩
      have c5 := c4.up b5
      refine hK.out _ _ (CC.out _ c5) (fun _ => ?_)
      clear hK
      try simp only [Act.put, List.setIfInBounds_toArray, List.set_cons_zero, List.set_cons_succ]
      refine ord_lone (by rfl) (by rfl) (fun K hK => ?_)
      try go_simp
      go_at_call 33
      refine (GG.out w5 c5).mono ?_; rintro e w6 ⟨rfl, b6⟩
      have c6 := c5.up b6
      refine hK.out _ _ (CC.out _ c6) (fun _ => ?_)
      clear hK
      try simp only [Act.put, List.setIfInBounds_toArray, List.set_cons_zero, List.set_cons_succ]
      repeat (refine ord_take (v := ?_) (by rfl) (by rfl) ?_ ?_; rotate_left; (focus (intro w hSw; (try dsimp only at hSw); go_simp; (try with_reducible rfl))); simp only [Act.put, List.setIfInBounds_toArray, List.set_cons_zero, List.set_cons_succ])
      refine ord_lone (by rfl) (by rfl) (fun K hK => ?_)
      try go_simp
      go_at_call 36
      refine (GA.out w6 c6).mono ?_; rintro e w7 ⟨h7, rfl, i7, b7⟩
      have c7 := c6.up b7
      refine hK.out _ _ (CC.out _ c7) (fun _ => ?_)
      clear hK
      try simp only [Act.put, List.setIfInBounds_toArray, List.set_cons_zero, List.set_cons_succ]
      refine ord_lone (by rfl) (by rfl) (fun K hK => ?_)
      try go_simp
      go_at_call 36
      refine (GO.out w7 c7).mono ?_; rintro e w8 ⟨h8, rfl, i8, b8⟩
      have c8 := c7.up b8
      refine hK.out _ _ (CC.out _ c8) (fun _ => ?_)
      clear hK
      try simp only [Act.put, List.setIfInBounds_toArray, List.set_cons_zero, List.set_cons_succ]
      refine ord_lone (by rfl) (by rfl) (fun K hK => ?_)
      try go_simp
      go_at_call 38
      refine (XS.out h7 h8 w8 (i7.rat.later b8) i8.rat).mono ?_; rintro e w9 ⟨rfl, b9⟩
      have c9 := c8.up b9
      refine hK.out _ _ (CC.out _ c9) (fun _ => ?_)
      clear hK
      try simp only [Act.put, List.setIfInBounds_toArray, List.set_cons_zero, List.set_cons_succ]
      refine ord_lone (by rfl) (by rfl) (fun K hK => ?_)
      try go_simp
      go_at_call 39
      refine (GS.out w9 c9).mono ?_; rintro e w10 ⟨rfl, b10⟩
      have c10 := c9.up b10
      refine hK.out _ _ (CC.out _ c10) (fun _ => ?_)
      clear hK
      try simp only [Act.put, List.setIfInBounds_toArray, List.set_cons_zero, List.set_cons_succ]
      repeat (refine ord_take (v := ?_) (by rfl) (by rfl) ?_ ?_; rotate_left; (focus (intro w hSw; (try dsimp only at hSw); go_simp; (try with_reducible rfl))); simp only [Act.put, List.setIfInBounds_toArray, List.set_cons_zero, List.set_cons_succ])
      refine ord_done ?_
      go_wp2_with fail
      go_meet
      exact ⟨by simp, c10⟩
    case rest =>
      obtain ⟨rfl, hbx⟩ := hcut
      generalize wc = wa at *
      have d2 := fun w' (hw : Below wa.heap.size wa w') => (CC.out w' (hbx.up hw)).2
      have hr := Below.refl wa.heap.size wa
      clear hcur b13
      cases G
      · have hS0 : S = ⟨#[]⟩ := by rw [← HS.out, HG.out]; rfl
        have hM0 : M = 2 := by rw [← HM.out, HG.out]; rfl
        subst hS0 hM0
        go_wp2_with fail
        refine (GG.out wa hbx).mono ?_; rintro e wb ⟨rfl, bb⟩
        have HB := Lib.hid ((HP.out.up hbx).up bb)
        clear d2 hr bb
        go_wp2_with fail
        refine (HLV.out _ (HE.out.later HB.out)).mono ?_; rintro e wd ⟨rfl, bd⟩
        go_wp2_with fail
        go_ret
        exact ⟨rfl, HB.out.up bd⟩
      · have hS0 : S = ⟨(printR R).toArray⟩ := by rw [← HS.out, HG.out]; rfl
        have hM0 : M = 0 := by rw [← HM.out, HG.out]; rfl
        have hp2 := PL.out HG.out
        have hsl : S.size ≤ 2000 := by rw [hS0]; exact hp2
        have GP : Hid (∀ w', Below w1.heap.size w1 w' → Calls Tryz.prog 34 #[.agg (rC hA R).toArray] w' fun e w'' => e = .returned (.string S) ∧ Below w'.heap.size w' w'') := Lib.hid fun w' hw => by
          rw [hS0]
          exact gPrint hA R w' (MKA.out w' hw) HG.out SR.out (Nat.le_trans hp2 (by decide))
        have hrb : readW S.data.toList = .ok [R] := by
          have h2 : S.data.toList = writeR [R] := by rw [hS0]; simp [writeR]
          rw [h2]
          exact read_back [R] (fun r hr => by simp only [List.mem_singleton] at hr; subst hr; exact HG.out) (by simp) (by
            have : (writeR [R]).length = (printR R).length := by simp [writeR]
            omega)
        have HRd : Hid (∀ w', EnvW w' → Calls Tryz.prog 27 #[.string S] w' (RdPost w' (.ok [R]))) := Lib.hid fun w' h' => by
          have := worldRead S w' (by omega) h'
          rw [hrb] at this
          exact this
        subst hM0
        unfold rC at GP
        clear hS0 hp2 hrb
        go_wp2_with fail
        refine (GG.out wa hbx).mono ?_; rintro e wb ⟨rfl, bb⟩
        have hbb := hbx.up bb
        have d3 := fun w' (hw : Below wb.heap.size wb w') => (CC.out w' (hbb.up hw)).2
        have hr3 := Below.refl wb.heap.size wb
        clear d2 hr bb
        go_wp2_with fail
        refine (GP.out wb hbb).mono ?_; rintro e wd ⟨rfl, bd⟩
        have hbd := hbb.up bd
        clear d3 hr3 bd
        go_wp2_with fail
        refine (HRd.out wd (HE.out.later (HP.out.up hbd))).mono ?_; rintro e we ⟨-, ao, cap, l, hl, rfl, hR, be⟩
        obtain ⟨h9, rfl⟩ : ∃ h, l = [(h, R)] := by
          match l, hl with
          | [(h, r)], hl =>
            simp only [List.map_cons, List.map_nil, List.cons.injEq, and_true] at hl
            exact ⟨h, by rw [hl]⟩
        have hbe := hbd.up be
        obtain ⟨g, rfl, hg, dR⟩ := hR.at_ 0 (by simp)
        have rat9 := Lib.hid (hR.all (h9, R) (by simp)).rat
        simp only [List.length_cons, List.length_nil, List.getElem_cons_zero, Nat.zero_mul, Nat.zero_add, Nat.add_zero] at dR
        have DR := Lib.hid dR
        clear hl hR be dR hg hbb HRd
        go_upto_region 8 with fail
        obtain ⟨wf, hwf⟩ : ∃ x, we.alloc (.cells #[.int .i64 0, .int .i64 0] 49) = x := ⟨_, rfl⟩
        have K5 : Blk wf we.heap.size 49 #[.int .i64 0, .int .i64 0] := by rw [← hwf]; exact Blk.new _ _ _
        have bf : Below we.heap.size we wf := by rw [← hwf]; exact (Below.refl _ _).alloc (Nat.le_refl _) _
        rw [hwf]
        have hbf := hbe.up bf
        have HBF := Lib.hid hbf
        have GT : Hid (∀ w', Below wf.heap.size wf w' → Calls Tryz.prog 39 #[.agg (rC h9 R).toArray, .agg (rC hA R).toArray] w' fun e w'' => e = .returned (.bool true) ∧ Below w'.heap.size w' w'') := Lib.hid fun w' hw => by
          have := gSame h9 hA R R w' (rat9.out.later (bf.up hw)) (MKA.out w' (hbf.up hw)) SR.out
          rw [decide_eq_true rfl] at this
          exact this
        unfold rC at GT
        have d4 := fun w' (hw : Below wf.heap.size wf w') => (CC.out w' (hbf.up hw)).2
        have d5 := fun w' (hw : Below wf.heap.size wf w') => DR.out w' (bf.up hw)
        have d6 := K5.at2
        have hr4 := Below.refl wf.heap.size wf
        clear hwf bf hbe hbf hbd
        refine wp_region_later wf.heap.size (by kernel_rfl) (by kernel_rfl) ?_
        have hu : ∀ u : Later wf.heap.size wf, Below wf.heap.size wf u.world := Later.below
        repeat (go_big_quiet_step ((first | (go_at_call 34; exact later_below (Nat.le_refl _) (GP.out _ (HBF.out.up (Later.below _)))) | (go_at_call 39; exact later_below (Nat.le_refl _) (GT.out _ (Later.below _))) | (go_at_call 30; exact later_below (Nat.le_refl _) (HLV.out _ (HE.out.later ((HP.out.up HBF.out).up (Later.below _))))))))
        refine wpQuiet_nil ?_
        intro wz bz
        have HZ := Lib.hid ((HP.out.up HBF.out).up bz)
        clear hu d4 d5 d6 hr4
        go_wp2_with fail
        go_ret
        exact ⟨rfl, HZ.out⟩
end Go.Proofs.YtmnkekepccdlcaaGreatDoor
