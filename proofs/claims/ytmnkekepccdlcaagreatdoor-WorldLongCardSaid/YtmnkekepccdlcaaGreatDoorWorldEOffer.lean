/-
  What a line of one kind does.
  Conditions: the reader's block is known whole; its rounds lie in a row; the line's words lie in a row; the error of range stands in its variable.
-/
import Derived.Test.YtmnkekepccdlcaaGreatDoorWorldD
namespace Go.Proofs.YtmnkekepccdlcaaGreatDoor
set_option linter.unusedVariables false
set_option linter.unusedSimpArgs false
open Go.RowKit

set_option maxHeartbeats 8000000 in
set_option maxRecDepth 100000 in
theorem saysOffer (W : List Wd) (wo : Option Addr) (wcap B B0 B1 b g len px nx cl : Nat) (Wr : List Wd) (hW0 : W = ⟨kOffer, false, px⟩ :: Wr) (cap : Nat) (l : List (Hd × Rd)) (h : Hd) (r : Rd) (w : World)
    (hrd : Rdr w b (.slice (some ⟨g, 0, none⟩) (l.length + 1) cap) (.slice wo W.length wcap) len ⟨nx, cl, 0⟩) (hL : Live B B1 w (some ⟨g, 0, none⟩) cap l (rC h r) h r) (hW : Lin B0 w wo wcap W len) (hB : B ≤ b) (hG : 5 < B) (hn : l.length ≤ 100000) (hr0 : RangeV w)
    (hpl : placeT ((l ++ [(h, r)]).map Prod.snd) ⟨kOffer, false, px⟩ = 0) (ho : r.offers.length ≤ 100000) :
    Calls Tryz.prog 57 #[.pointer (some ⟨b, 0, none⟩)] w fun e w' => e = .returned (.tuple #[]) ∧ Stp B w w' ∧ Rdr w' b (.slice (some ⟨g, 0, none⟩) (l.length + 1) cap) (.slice wo W.length wcap) len (endS W (offerS W len ⟨1, cl, 0⟩ false).2) ∧ ∃ h', Live B B1 w' (some ⟨g, 0, none⟩) cap l (rC h' ({ r with offers := r.offers ++ [(offerS W len ⟨1, cl, 0⟩ false).1] })) h' ({ r with offers := r.offers ++ [(offerS W len ⟨1, cl, 0⟩ false).1] }) := by
  obtain ⟨gw, rfl, hgw, dW⟩ : ∃ gw, wo = some ⟨gw, 0, none⟩ ∧ gw < w.heap.size ∧ ∀ w', Below w.heap.size w w' → w'.cell? ⟨gw, 0, none⟩ = some (.string (bt kOffer)) ∧ w'.cell? ⟨gw, 1, none⟩ = some (.bool false) ∧ w'.cell? ⟨gw, 2, none⟩ = some (.int .i64 (px : Nat)) := by
    subst hW0
    obtain ⟨gw, e, hgw, d⟩ := ow_at hW.row 0 (by simp)
    exact ⟨gw, e, hgw, fun w' hw => by simpa using d w' hw⟩
  have hwl : (0 : Int) < (W.length : Int) := by rw [hW0]; simp
  obtain ⟨w0, hw0⟩ : ∃ w0, w.alloc (.cells #[.string (bt kOffer), .bool false, .int .i64 (px : Nat)] 110) = w0 := ⟨_, rfl⟩
  have k0 : Blk w0 w.heap.size 110 #[.string (bt kOffer), .bool false, .int .i64 (px : Nat)] := by rw [← hw0]; exact Blk.new _ _ _
  have b0 : Below w.heap.size w w0 := by rw [← hw0]; exact (Below.refl _ _).alloc (Nat.le_refl _) _
  have hBw : B ≤ w.heap.size := Nat.le_trans hB (Nat.le_of_lt hrd.lt)
  have t0 := Stp.later b0 hBw
  have h0 := Blk.later hrd b0
  have L0 := hL.later b0
  have W0 := hW.later b0
  have r0 := range_later hr0 b0
  have hbq : w.heap.size ≠ b := by have := hrd.lt; omega
  have hGb : 5 < b := Nat.lt_of_lt_of_le hG hB
  have d0 := hrd.at6
  have hr := Below.refl w.heap.size w
  clear hL hW hr0 b0 hW0
  have HW0 := Lib.hid hw0
  clear hw0
  obtain ⟨⟨⟨oi, ob, oe⟩, s4⟩, hR⟩ : ∃ R, offerS W len ⟨1, cl, 0⟩ false = R := ⟨_, rfl⟩
  have hnx : s4.next ≤ 3 := by have := offerS_nx (W := W) (len := len) (s := ⟨1, cl, 0⟩) (eof := false); rw [hR] at this; exact Nat.le_trans this (by simp)
  rw [hR]
  have HR := Lib.hid hR
  clear hR
  go_enter Tryz.func57, Tryz.ntmps57
  go_upto_region 1 with fail
  rw [HW0.out]
  generalize w.heap.size = q at *
  clear d0 hr dW hgw
  have d0 := h0.at6
  have dk := k0.at3
  have hr := Below.refl w0.heap.size w0
  go_upto_region 2 with fail
  obtain ⟨w1, hw1⟩ : ∃ w1, w0.setCell ⟨b, 3, none⟩ (.int .i64 1) = w1 := ⟨_, rfl⟩
  have g1 : w0.grownBy w1 (some b) := by rw [← hw1]; exact only_setCell (p := ⟨b, 3, none⟩) (only_below (Below.refl _ _) _) (.inl rfl) _
  have h1 : Rdr w1 b (.slice (some ⟨g, 0, none⟩) (l.length + 1) cap) (.slice (some ⟨gw, 0, none⟩) W.length wcap) len ⟨1, cl, 0⟩ := by rw [← hw1]; exact Rdr.next h0 rfl
  have k1 := k0.grown g1 (fun e => hbq (Option.some.inj e))
  have L1 := L0.off h0 g1 (by decide) (by decide) (by decide) (by decide)
  have W1 := W0.grown h0 g1
  have r1 := range_grown r0 g1 hGb
  have t1 := t0.trans (Stp.reader h0 g1 hB)
  rw [hw1]
  clear hw1 d0 dk hr h0 k0 L0 W0 r0 t0 g1
  have d0 := h1.at6
  have dk := k1.at3
  have hr := Below.refl w1.heap.size w1
  have P := Lib.hid (rPlace ⟨kOffer, false, px⟩ (l ++ [(h, r)]) (some ⟨g, 0, none⟩) cap B b len (.slice (some ⟨gw, 0, none⟩) W.length wcap) ⟨1, cl, 0⟩ w1 (by rw [List.length_append]; exact h1) (L1.rnds rfl) (by rw [List.length_append]; simp; omega))
  rw [hpl] at P
  simp only [wcells] at P
  go_wp2_with fail
  refine P.out.mono ?_; rintro e w2 ⟨rfl, b2⟩
  have h2 := Blk.later h1 b2
  have k2 := k1.later b2
  have L2 := L1.later b2
  have W2 := W1.later b2
  have r2 := range_later r1 b2
  have t2 := t1.trans (Stp.later b2 (Nat.le_trans hB (Nat.le_of_lt h1.lt)))
  clear d0 dk hr h1 k1 L1 W1 r1 t1 P b2 hpl
  have d0 := h2.at6
  have dk := k2.at3
  have hr := Below.refl w2.heap.size w2
  have c0 : (kOffer == [116, 105, 99, 107]) = false := by decide
  have c1 : (kOffer == [111, 112, 101, 110]) = false := by decide
  have c2 : (kOffer == [111, 102, 102, 101, 114]) = true := by decide
  have c3 : (kOffer == [99, 108, 111, 115, 101]) = false := by decide
  have c4 : (kOffer == [114, 101, 97, 100]) = false := by decide
  have c5 : (kOffer == [119, 114, 105, 116, 101]) = false := by decide
  have c6 : (kOffer == [98, 111, 116, 104]) = false := by decide
  have c7 : (kOffer == [100, 114, 97, 105, 110]) = false := by decide
  have s1 : IntKind.i64.wrap (((l.length + 1 : Nat) : Int) - 1) = (l.length : Nat) := by rw [IntWalk.i64_in _ (by omega)]; omega
  have e1 : (0 : Int) ≤ ((l.length : Nat) : Int) := by omega
  have e2 : ((l.length : Nat) : Int) < ((l.length + 1 : Nat) : Int) := by omega
  go_upto_region 7 with fail
  refine wp_region_later w2.heap.size (by kernel_rfl) (by kernel_rfl) ?_
  have hu : ∀ u : Later w2.heap.size w2, Below w2.heap.size w2 u.world := Later.below
  repeat (go_big_quiet_step ((fail)))
  refine wpQuiet_nil ?_
  intro w3 b3
  have h3 := Blk.later h2 b3
  have k3 := k2.later b3
  have L3 := L2.later b3
  have W3 := W2.later b3
  have r3 := range_later r2 b3
  have t3 := t2.trans (Stp.later b3 (Nat.le_trans hB (Nat.le_of_lt h2.lt)))
  clear hu d0 dk hr h2 k2 L2 W2 r2 t2 b3
  have d0 := h3.at6
  have dk := k3.at3
  have hr := Below.refl w3.heap.size w3
  have D : Below w3.heap.size w3 w3.drew := (Below.refl _ _).drew
  have F1 := Lib.hid (rOffer W (some ⟨gw, 0, none⟩) wcap B0 b len _ ⟨1, cl, 0⟩ false w3.drew (Blk.drew h3) (W3.later D) (by simp) (range_later r3 D) hGb)
  rw [HR.out] at F1
  simp only [ocells] at F1
  have L3d := L3.later D
  have dH : ∀ w', Below w3.heap.size w3 w' → w'.cell? ⟨g, l.length * 6 + 2, none⟩ = some (.slice h.fa r.offers.length h.fc) := (by obtain ⟨g', eg, _, _, dL, _⟩ := L3.at_; cases eg; exact fun w' hw => dL w' hw 2 (by decide))
  have hLB := L3.hi
  go_upto_block 0 with fail
  go_cut [] (fun wx => ∃ h', Rdr wx b (.slice (some ⟨g, 0, none⟩) (l.length + 1) cap) (.slice (some ⟨gw, 0, none⟩) W.length wcap) len s4 ∧ Live B B1 wx (some ⟨g, 0, none⟩) cap l (rC h' { r with offers := r.offers ++ [⟨oi, ob, oe⟩] }) h' { r with offers := r.offers ++ [⟨oi, ob, oe⟩] } ∧ Lin B0 wx (some ⟨gw, 0, none⟩) wcap W len ∧ Stp B w wx)
  case first =>
    go_upto_region 16 with fail
    go_region_law (first
      | (go_simp; go_at_call 86; refine F1.out.mono ?_; rintro e w4 ⟨rfl, h4, g4⟩; have L4 := L3d.off (Blk.drew h3) g4 (by decide) (by decide) (by decide) (by decide); have W4 := (W3.later D).grown (Blk.drew h3) g4; have t4 := (t3.trans (Stp.later D (Nat.le_trans hB (Nat.le_of_lt h3.lt)))).trans (Stp.reader (Blk.drew h3) g4 hB); have dH4 : ∀ w', Below w4.heap.size w4 w' → w'.cell? ⟨g, l.length * 6 + 2, none⟩ = some (.slice h.fa r.offers.length h.fc) := (by obtain ⟨g', eg, _, _, dL, _⟩ := L4.at_; cases eg; exact fun w' hw => dL w' hw 2 (by decide)); have hr4 := Below.refl w4.heap.size w4; have hr5 : Below w4.heap.size w4 (w4.alloc (.cells #[.int .i64 oi, .string ob, .bool oe] 93)) := (Below.refl _ _).alloc (Nat.le_refl _) _; go_wp2_with fail)
      | (refine step_append info_offer rfl (by decide) (by decide) Tryz.underlying56 rfl (.tmp 78) (.tmp 84) rfl (.slice h.fa r.offers.length h.fc) _ _ rfl (World.ownsRow.alloc L4.cur.fs _) w4.heap.size rfl [.int .i64 oi, .string ob, .bool oe] rfl ?_ ?_ (by omega) (by have := L4.hi; simp; omega) ?_; (intro j u hj; exact ((Blk.new w4 93 #[.int .i64 oi, .string ob, .bool oe]).cell j).trans (by simpa using hj)); (intro u hu; simp at hu; rcases hu with rfl | rfl | rfl <;> rfl); (intro ao2 cap2 w7 o7 g7; have L7 := (L4.later hr5).offerG (o := ⟨oi, ob, oe⟩) g7 o7; have h7 := h4; have d7 : ∀ w', Below w7.heap.size w7 w' → (w'.cell? ⟨g, l.length * 6 + 2, none⟩ = some (.slice h.fa r.offers.length h.fc) ∧ ∀ j, w'.frozen? ⟨g, j, none⟩ = false) := (by obtain ⟨g', eg, _, _, dL, fL⟩ := L7.at_; cases eg; exact fun w' hw => ⟨dL w' hw 2 (by decide), fL w' hw⟩); have hr7 := Below.refl w7.heap.size w7)))
    all_goals (
      obtain ⟨e1, e2, e3, e4⟩ := row_done h4 L4 W4 (World.ownsRow.alloc L4.cur.fs _) (by decide) (by decide) (by decide) g7 L7 2 (.slice ao2 (r.offers.length + 1) cap2)
      go_wp2_with fail
      go_meet
      refine ⟨{ h with fa := ao2, fc := cap2 }, e1, ?_, e3, t4.trans e4⟩
      have ec : (rC h r).set 2 (.slice ao2 (r.offers.length + 1) cap2) = rC { h with fa := ao2, fc := cap2 } { r with offers := r.offers ++ [⟨oi, ob, oe⟩] } := by simp [rC]
      rw [← ec]
      exact e2)
  case rest =>
    obtain ⟨h', h6, L6, W6, t6⟩ := hcut
    generalize wc = w6 at *
    have hnx' : s4.next ≤ 100000 := by omega
    clear d0 dk hr h3 k3 L3 W3 r3 t3 D F1 L3d dH hLB
    have d0 := h6.at6
    have hr := Below.refl w6.heap.size w6
    have e3 : (0 : Int) ≤ (s4.next : Int) := by omega
    go_upto_region 23 with fail
    refine wp_region_later w6.heap.size (by kernel_rfl) (by kernel_rfl) ?_
    have hu : ∀ u : Later w6.heap.size w6, Below w6.heap.size w6 u.world := Later.below
    repeat (go_big_quiet_step ((fail)))
    refine wpQuiet_nil ?_
    intro w7 b7
    have h7 := Blk.later h6 b7
    have L7 := L6.later b7
    have W7 := W6.later b7
    have t7 := t6.trans (Stp.later b7 (Nat.le_trans hB (Nat.le_of_lt h6.lt)))
    clear hu d0 hr h6 L6 W6 t6 b7
    have d0 := h7.at6
    have hr := Below.refl w7.heap.size w7
    by_cases c : s4.next < W.length
    · have e4 : (s4.next : Int) < (W.length : Int) := by omega
      have hx : W[s4.next]? = some W[s4.next] := List.getElem?_eq_getElem c
      have hE : endS W s4 = failS s4 W[s4.next].place 2 := by unfold endS; rw [hx]
      have hp := (W7.at_ _ (List.getElem_mem c)).1
      obtain ⟨gw2, eg2, hgw2, dW⟩ := ow_at W7.row s4.next c
      cases eg2
      have HE := Lib.hid hE
      clear hE hx
      generalize W[s4.next] = x at *
      go_upto_region 24 with fail
      refine wp_region_later_tail w7.heap.size 12 (by kernel_rfl) (by kernel_rfl) ?_
      simp only [List.take_succ_cons, List.take_zero, List.drop_succ_cons, List.drop_zero]
      have hu : ∀ u : Later w7.heap.size w7, Below w7.heap.size w7 u.world := Later.below
      repeat (go_big_quiet_step ((fail)))
      refine wpQuiet_nil ?_
      intro w8 b8
      have h8 := Blk.later h7 b8
      have L8 := L7.later b8
      have t8 := t7.trans (Stp.later b8 (Nat.le_trans hB (Nat.le_of_lt h7.lt)))
      clear hu d0 hr dW
      go_wp2_with fail
      refine (rFail b len x.place _ _ s4 2 w8 h8 (by omega)).mono ?_; rintro e w9 ⟨rfl, h9, g9⟩
      have L9 := L8.off h8 g9 (by decide) (by decide) (by decide) (by decide)
      have t9 := t8.trans (Stp.reader h8 g9 hB)
      rw [← HE.out] at h9
      go_wp2_with fail
      go_end0
      exact ⟨rfl, t9, h9, _, L9⟩
    · have e4 : ¬ (s4.next : Int) < (W.length : Int) := by omega
      have hE : endS W s4 = s4 := by unfold endS; rw [List.getElem?_eq_none (by omega)]
      rw [← hE] at h7
      have h9 := h7
      have L9 := L7
      clear hE h7
      go_wp2_with fail
      go_end0
      exact ⟨rfl, t7, h9, _, L9⟩
  end Go.Proofs.YtmnkekepccdlcaaGreatDoor
