/-
  What a line of one kind does.
  Conditions: the reader's block is known whole; its rounds lie in a row; the line's words lie in a row; the error of range stands in its variable.
-/
import Derived.Test.YtmnkekepccdlcaaGreatDoorWorldD
namespace Go.Proofs.YtmnkekepccdlcaaGreatDoor
set_option linter.unusedVariables false
set_option linter.unusedSimpArgs false
open Go.RowKit

/-- What holds behind a line that begins a round. -/
def TickPost (B b len wcap : Nat) (wo : Option Addr) (W : List Wd) (s : Rs) (l : List (Hd × Rd)) (n : Int) (w' : World) : Prop :=
  ∃ g cap B1, Rdr w' b (.slice (some ⟨g, 0, none⟩) (l.length + 1) cap) (.slice wo W.length wcap) len s ∧ Live B B1 w' (some ⟨g, 0, none⟩) cap l (rC hd0 { rd0 with ticks := n }) hd0 { rd0 with ticks := n }

set_option maxHeartbeats 8000000 in
set_option maxRecDepth 100000 in
theorem saysTick (W : List Wd) (wo : Option Addr) (wcap B B0 b len px nx cl : Nat) (Wr : List Wd) (hW0 : W = ⟨kTick, false, px⟩ :: Wr) (ao : Option Addr) (cap : Nat) (l : List (Hd × Rd)) (w : World)
    (hrd : Rdr w b (.slice ao l.length cap) (.slice wo W.length wcap) len ⟨nx, cl, 0⟩) (hL : Rnds B w ao cap l) (hW : Lin B0 w wo wcap W len) (hB : B ≤ b) (hG : 5 < B) (hn : l.length ≤ 100000) (hr0 : RangeV w)
    (hpl : placeT (l.map Prod.snd) ⟨kTick, false, px⟩ = 0) :
    Calls Tryz.prog 57 #[.pointer (some ⟨b, 0, none⟩)] w fun e w' => e = .returned (.tuple #[]) ∧ Stp B w w' ∧ TickPost B b len wcap wo W (endS W (numberS W len ⟨1, cl, 0⟩ 1000000000000).2) l (numberS W len ⟨1, cl, 0⟩ 1000000000000).1 w' := by
  obtain ⟨gw, rfl, hgw, dW⟩ : ∃ gw, wo = some ⟨gw, 0, none⟩ ∧ gw < w.heap.size ∧ ∀ w', Below w.heap.size w w' → w'.cell? ⟨gw, 0, none⟩ = some (.string (bt kTick)) ∧ w'.cell? ⟨gw, 1, none⟩ = some (.bool false) ∧ w'.cell? ⟨gw, 2, none⟩ = some (.int .i64 (px : Nat)) := by
    subst hW0
    obtain ⟨gw, e, hgw, d⟩ := ow_at hW.row 0 (by simp)
    exact ⟨gw, e, hgw, fun w' hw => by simpa using d w' hw⟩
  have hwl : (0 : Int) < (W.length : Int) := by rw [hW0]; simp
  obtain ⟨w0, hw0⟩ : ∃ w0, w.alloc (.cells #[.string (bt kTick), .bool false, .int .i64 (px : Nat)] 110) = w0 := ⟨_, rfl⟩
  have k0 : Blk w0 w.heap.size 110 #[.string (bt kTick), .bool false, .int .i64 (px : Nat)] := by rw [← hw0]; exact Blk.new _ _ _
  have b0 : Below w.heap.size w w0 := by rw [← hw0]; exact (Below.refl _ _).alloc (Nat.le_refl _) _
  have hBw : B ≤ w.heap.size := Nat.le_trans hB (Nat.le_of_lt hrd.lt)
  have t0 := Stp.later b0 hBw
  have h0 := Blk.later hrd b0
  have L0 := hL.later b0
  have W0 := hW.later b0
  have r0 := range_later hr0 b0
  have hbq : w.heap.size ≠ b := by have := hrd.lt; omega
  have hGb : 5 < b := Nat.lt_of_lt_of_le hG hB
  have d0 := hrd.at6
  have hr := Below.refl w.heap.size w
  clear hL hW hr0 b0 hW0
  have HW0 := Lib.hid hw0
  clear hw0
  obtain ⟨⟨n1, s4⟩, hR⟩ : ∃ R, numberS W len ⟨1, cl, 0⟩ 1000000000000 = R := ⟨_, rfl⟩
  have hnx : s4.next ≤ 3 := by have := numberS_nx (W := W) (len := len) (s := ⟨1, cl, 0⟩) (most := 1000000000000); rw [hR] at this; exact Nat.le_trans this (by simp)
  rw [hR]
  have HR := Lib.hid hR
  clear hR
  go_enter Tryz.func57, Tryz.ntmps57
  go_upto_region 1 with fail
  rw [HW0.out]
  generalize w.heap.size = q at *
  clear d0 hr dW hgw
  have d0 := h0.at6
  have dk := k0.at3
  have hr := Below.refl w0.heap.size w0
  go_upto_region 2 with fail
  obtain ⟨w1, hw1⟩ : ∃ w1, w0.setCell ⟨b, 3, none⟩ (.int .i64 1) = w1 := ⟨_, rfl⟩
  have g1 : w0.grownBy w1 (some b) := by rw [← hw1]; exact only_setCell (p := ⟨b, 3, none⟩) (only_below (Below.refl _ _) _) (.inl rfl) _
  have h1 : Rdr w1 b (.slice ao l.length cap) (.slice (some ⟨gw, 0, none⟩) W.length wcap) len ⟨1, cl, 0⟩ := by rw [← hw1]; exact Rdr.next h0 rfl
  have k1 := k0.grown g1 (fun e => hbq (Option.some.inj e))
  have L1 := L0.off h0 g1 (by decide) (by decide) (by decide) (by decide)
  have W1 := W0.grown h0 g1
  have r1 := range_grown r0 g1 hGb
  have t1 := t0.trans (Stp.reader h0 g1 hB)
  rw [hw1]
  clear hw1 d0 dk hr h0 k0 L0 W0 r0 t0 g1
  have d0 := h1.at6
  have dk := k1.at3
  have hr := Below.refl w1.heap.size w1
  have P := Lib.hid (rPlace ⟨kTick, false, px⟩ l ao cap B b len (.slice (some ⟨gw, 0, none⟩) W.length wcap) ⟨1, cl, 0⟩ w1 h1 L1 (by omega))
  rw [hpl] at P
  simp only [wcells] at P
  go_wp2_with fail
  refine P.out.mono ?_; rintro e w2 ⟨rfl, b2⟩
  have h2 := Blk.later h1 b2
  have k2 := k1.later b2
  have L2 := L1.later b2
  have W2 := W1.later b2
  have r2 := range_later r1 b2
  have t2 := t1.trans (Stp.later b2 (Nat.le_trans hB (Nat.le_of_lt h1.lt)))
  clear d0 dk hr h1 k1 L1 W1 r1 t1 P b2 hpl
  have d0 := h2.at6
  have dk := k2.at3
  have hr := Below.refl w2.heap.size w2
  have c0 : (kTick == [116, 105, 99, 107]) = true := by decide
  have c1 : (kTick == [111, 112, 101, 110]) = false := by decide
  have c2 : (kTick == [111, 102, 102, 101, 114]) = false := by decide
  have c3 : (kTick == [99, 108, 111, 115, 101]) = false := by decide
  have c4 : (kTick == [114, 101, 97, 100]) = false := by decide
  have c5 : (kTick == [119, 114, 105, 116, 101]) = false := by decide
  have c6 : (kTick == [98, 111, 116, 104]) = false := by decide
  have c7 : (kTick == [100, 114, 97, 105, 110]) = false := by decide
  have hBs2 : B ≤ w2.heap.size := Nat.le_trans hB (Nat.le_of_lt h2.lt)
  have hm : l.length ≤ 1000000 := by omega
  have b4 : Below w2.heap.size w2 (w2.alloc (.cells #[.int .i64 0, .slice none 0 0, .slice none 0 0, .slice none 0 0, .int .i64 0, .bool false] 59)) := (Below.refl _ _).alloc (Nat.le_refl _) _
  have L4 := L2.later b4
  go_wp2_with (at_builtin; refine wpList_append_elem info_round rfl (by decide) (by decide) Tryz.underlying47 _ rfl _ _ rfl B _ _ _ rfl L4.row w2.heap.size rfl [.int .i64 0, .slice none 0 0, .slice none 0 0, .slice none 0 0, .int .i64 0, .bool false] rfl ?ta1 ?ta2 hm ?ta3 ?ta4)
  case ta1 =>
    intro j u hj
    exact ((Blk.new w2 59 #[.int .i64 0, .slice none 0 0, .slice none 0 0, .slice none 0 0, .int .i64 0, .bool false]).cell j).trans (by simpa using hj)
  case ta2 => intro u hu; simp at hu; rcases hu with rfl | rfl | rfl | rfl | rfl | rfl <;> rfl
  case ta3 => simp; omega
  case ta4 =>
  intro ao5 cap5 w5 o5 g5
  have h5 : Rdr w5 b (.slice ao l.length cap) (.slice (some ⟨gw, 0, none⟩) W.length wcap) len ⟨1, cl, 0⟩ := Blk.grown (Blk.later h2 b4) g5 (fun e => orow_off L4.row (Blk.later h2 b4) (by decide) e.symm)
  have k5 := (k2.later b4).grown g5 (fun e => orow_off L4.row (k2.later b4) (by decide) e.symm)
  have L5 := L4.tick g5 o5 (Nat.le_trans hBs2 b4.size)
  have W5 : Lin B0 w5 (some ⟨gw, 0, none⟩) wcap W len := (W2.later b4).same fun g2 hg2 => g5.block g2 (World.ownsRow.lt (W2.later b4).row g2 (by rw [ownBlock_slice]; exact hg2)).2 (fun e => orow_ne L4.row (W2.later b4).row (by decide) e.symm (by rw [ownBlock_slice]; exact hg2))
  have r5 : RangeV w5 := by
    obtain ⟨t, p, e⟩ := range_later r2 b4
    exact ⟨t, p, World.grownBy.cell g5 e (fun e => by have := (World.ownsRow.lt L4.row _ e.symm).1; simp only at this; omega)⟩
  have t5 := (t2.trans (Stp.later b4 hBs2)).trans (Stp.row L4.row g5 (by decide) (Nat.le_refl _) (Nat.le_trans hBs2 b4.size))
  generalize w5.heap.size = B1 at L5
  obtain ⟨g, eg, -⟩ := L5.at_
  subst eg
  clear d0 dk hr h2 k2 L2 W2 r2 t2 b4 L4 o5 g5 hBs2
  have d0 := h5.at6
  have hr := Below.refl w5.heap.size w5
  go_upto_region 7 with fail
  obtain ⟨w6, hw6⟩ : ∃ w6, w5.setCell ⟨b, 0, none⟩ (.slice (some ⟨g, 0, none⟩) (l.length + 1) cap5) = w6 := ⟨_, rfl⟩
  have g6 : w5.grownBy w6 (some b) := by rw [← hw6]; exact only_setCell (p := ⟨b, 0, none⟩) (only_below (Below.refl _ _) _) (.inl rfl) _
  have h2 : Rdr w6 b (.slice (some ⟨g, 0, none⟩) (l.length + 1) cap5) (.slice (some ⟨gw, 0, none⟩) W.length wcap) len ⟨1, cl, 0⟩ := by
    rw [← hw6]
    have := Blk.set_ h5 0 (.slice (some ⟨g, 0, none⟩) (l.length + 1) cap5)
    simpa [Rdr] using this
  have L2 := L5.off h5 g6 (by decide) (by decide) (by decide) (by decide)
  have W2 := W5.grown h5 g6
  have k2 := k5.grown g6 (fun e => hbq (Option.some.inj e))
  have r2 := range_grown r5 g6 hGb
  have t2 := t5.trans (Stp.reader h5 g6 hB)
  rw [hw6]
  clear hw6 d0 hr h5 L5 W5 k5 r5 t5 g6
  generalize w6 = w2 at *
  have d0 := h2.at6
  have dk := k2.at3
  have hr := Below.refl w2.heap.size w2
  have s1 : IntKind.i64.wrap (((l.length + 1 : Nat) : Int) - 1) = (l.length : Nat) := by rw [IntWalk.i64_in _ (by omega)]; omega
  have e1 : (0 : Int) ≤ ((l.length : Nat) : Int) := by omega
  have e2 : ((l.length : Nat) : Int) < ((l.length + 1 : Nat) : Int) := by omega
  refine wp_region_later w2.heap.size (by kernel_rfl) (by kernel_rfl) ?_
  have hu : ∀ u : Later w2.heap.size w2, Below w2.heap.size w2 u.world := Later.below
  repeat (go_big_quiet_step ((fail)))
  refine wpQuiet_nil ?_
  intro w3 b3
  have h3 := Blk.later h2 b3
  have k3 := k2.later b3
  have L3 := L2.later b3
  have W3 := W2.later b3
  have r3 := range_later r2 b3
  have t3 := t2.trans (Stp.later b3 (Nat.le_trans hB (Nat.le_of_lt h2.lt)))
  clear hu d0 dk hr h2 k2 L2 W2 r2 t2 b3
  have d0 := h3.at6
  have dk := k3.at3
  have hr := Below.refl w3.heap.size w3
  have dH : ∀ w', Below w3.heap.size w3 w' → (w'.cell? ⟨g, l.length * 6 + 0, none⟩ = some (.int .i64 0) ∧ ∀ j, w'.frozen? ⟨g, j, none⟩ = false) := (by obtain ⟨g', eg, _, _, dL, fL⟩ := L3.at_; cases eg; exact fun w' hw => ⟨dL w' hw 0 (by decide), fL w' hw⟩)
  have F1 := Lib.hid (rNumber W (some ⟨gw, 0, none⟩) wcap B0 b len _ ⟨1, cl, 0⟩ 1000000000000 w3 h3 W3 (by simp) (by decide) r3 hGb)
  rw [HR.out] at F1
  go_upto_block 0 with fail
  go_cut [] (fun wx => Rdr wx b (.slice (some ⟨g, 0, none⟩) (l.length + 1) cap5) (.slice (some ⟨gw, 0, none⟩) W.length wcap) len s4 ∧ Live B B1 wx (some ⟨g, 0, none⟩) cap5 l (rC hd0 { rd0 with ticks := n1 }) hd0 { rd0 with ticks := n1 } ∧ Lin B0 wx (some ⟨gw, 0, none⟩) wcap W len ∧ Stp B w wx)
  case first =>
    go_wp2_with fail
    refine F1.out.mono ?_; rintro e w4 ⟨rfl, h4, g4⟩
    have L4 := L3.off h3 g4 (by decide) (by decide) (by decide) (by decide)
    have W4 := W3.grown h3 g4
    have t4 := t3.trans (Stp.reader h3 g4 hB)
    have dH4 : ∀ w', Below w4.heap.size w4 w' → (w'.cell? ⟨g, l.length * 6 + 0, none⟩ = some (.int .i64 0) ∧ ∀ j, w'.frozen? ⟨g, j, none⟩ = false) := (by obtain ⟨g', eg, _, _, dL, fL⟩ := L4.at_; cases eg; exact fun w' hw => ⟨dL w' hw 0 (by decide), fL w' hw⟩)
    simp only [Nat.add_zero] at dH4
    clear dH d0 dk hr
    have hr := Below.refl w4.heap.size w4
    obtain ⟨e1, e2, e3, e4⟩ := cell_done h4 (L4.ticks n1) W4 0 (.int .i64 n1)
    simp only [Nat.add_zero] at e1 e2 e3 e4
    go_wp2_with fail
    go_meet
    exact ⟨e1, e2, e3, t4.trans e4⟩
  case rest =>
    obtain ⟨h6, L6, W6, t6⟩ := hcut
    generalize wc = w6 at *
    have hnx' : s4.next ≤ 100000 := by omega
    clear d0 dk hr h3 k3 L3 W3 r3 t3 F1 dH
    have d0 := h6.at6
    have hr := Below.refl w6.heap.size w6
    have e3 : (0 : Int) ≤ (s4.next : Int) := by omega
    go_upto_region 23 with fail
    refine wp_region_later w6.heap.size (by kernel_rfl) (by kernel_rfl) ?_
    have hu : ∀ u : Later w6.heap.size w6, Below w6.heap.size w6 u.world := Later.below
    repeat (go_big_quiet_step ((fail)))
    refine wpQuiet_nil ?_
    intro w7 b7
    have h7 := Blk.later h6 b7
    have L7 := L6.later b7
    have W7 := W6.later b7
    have t7 := t6.trans (Stp.later b7 (Nat.le_trans hB (Nat.le_of_lt h6.lt)))
    clear hu d0 hr h6 L6 W6 t6 b7
    have d0 := h7.at6
    have hr := Below.refl w7.heap.size w7
    by_cases c : s4.next < W.length
    · have e4 : (s4.next : Int) < (W.length : Int) := by omega
      have hx : W[s4.next]? = some W[s4.next] := List.getElem?_eq_getElem c
      have hE : endS W s4 = failS s4 W[s4.next].place 2 := by unfold endS; rw [hx]
      have hp := (W7.at_ _ (List.getElem_mem c)).1
      obtain ⟨gw2, eg2, hgw2, dW⟩ := ow_at W7.row s4.next c
      cases eg2
      have HE := Lib.hid hE
      clear hE hx
      generalize W[s4.next] = x at *
      go_upto_region 24 with fail
      refine wp_region_later_tail w7.heap.size 12 (by kernel_rfl) (by kernel_rfl) ?_
      simp only [List.take_succ_cons, List.take_zero, List.drop_succ_cons, List.drop_zero]
      have hu : ∀ u : Later w7.heap.size w7, Below w7.heap.size w7 u.world := Later.below
      repeat (go_big_quiet_step ((fail)))
      refine wpQuiet_nil ?_
      intro w8 b8
      have h8 := Blk.later h7 b8
      have L8 := L7.later b8
      have t8 := t7.trans (Stp.later b8 (Nat.le_trans hB (Nat.le_of_lt h7.lt)))
      clear hu d0 hr dW
      go_wp2_with fail
      refine (rFail b len x.place _ _ s4 2 w8 h8 (by omega)).mono ?_; rintro e w9 ⟨rfl, h9, g9⟩
      have L9 := L8.off h8 g9 (by decide) (by decide) (by decide) (by decide)
      have t9 := t8.trans (Stp.reader h8 g9 hB)
      rw [← HE.out] at h9
      go_wp2_with fail
      go_end0
      exact ⟨rfl, t9, g, cap5, B1, h9, L9⟩
    · have e4 : ¬ (s4.next : Int) < (W.length : Int) := by omega
      have hE : endS W s4 = s4 := by unfold endS; rw [List.getElem?_eq_none (by omega)]
      rw [← hE] at h7
      have h9 := h7
      have L9 := L7
      clear hE h7
      go_wp2_with fail
      go_end0
      exact ⟨rfl, t7, g, cap5, B1, h9, L9⟩
  end Go.Proofs.YtmnkekepccdlcaaGreatDoor
