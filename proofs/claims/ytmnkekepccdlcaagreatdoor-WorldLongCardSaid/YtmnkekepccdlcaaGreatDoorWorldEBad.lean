/-
  What a line of one kind does.
  Conditions: the reader's block is known whole; its rounds lie in a row; the line's words lie in a row; the error of range stands in its variable.
-/
import Derived.Test.YtmnkekepccdlcaaGreatDoorWorldD
namespace Go.Proofs.YtmnkekepccdlcaaGreatDoor
set_option linter.unusedVariables false
set_option linter.unusedSimpArgs false
open Go.RowKit

set_option maxHeartbeats 8000000 in
set_option maxRecDepth 100000 in
theorem saysBad (W : List Wd) (wo : Option Addr) (wcap B B0 b len px nx cl : Nat) (tx : List UInt8) (qx : Bool) (Wr : List Wd) (hW0 : W = ⟨tx, qx, px⟩ :: Wr) (ao : Option Addr) (cap : Nat) (l : List (Hd × Rd)) (w : World)
    (hrd : Rdr w b (.slice ao l.length cap) (.slice wo W.length wcap) len ⟨nx, cl, 0⟩) (hL : Rnds B w ao cap l) (hW : Lin B0 w wo wcap W len) (hB : B ≤ b) (hG : 5 < B) (hn : l.length ≤ 100000) (hr0 : RangeV w)
    (er : Int) (hpl : placeT (l.map Prod.snd) ⟨tx, qx, px⟩ = er) (hne : er ≠ 0) :
    Calls Tryz.prog 57 #[.pointer (some ⟨b, 0, none⟩)] w fun e w' => e = .returned (.tuple #[]) ∧ Stp B w w' ∧ Rdr w' b (.slice ao l.length cap) (.slice wo W.length wcap) len ⟨1, 1, er⟩ := by
  obtain ⟨gw, rfl, hgw, dW⟩ : ∃ gw, wo = some ⟨gw, 0, none⟩ ∧ gw < w.heap.size ∧ ∀ w', Below w.heap.size w w' → w'.cell? ⟨gw, 0, none⟩ = some (.string (bt tx)) ∧ w'.cell? ⟨gw, 1, none⟩ = some (.bool qx) ∧ w'.cell? ⟨gw, 2, none⟩ = some (.int .i64 (px : Nat)) := by
    subst hW0
    obtain ⟨gw, e, hgw, d⟩ := ow_at hW.row 0 (by simp)
    exact ⟨gw, e, hgw, fun w' hw => by simpa using d w' hw⟩
  have hwl : (0 : Int) < (W.length : Int) := by rw [hW0]; simp
  obtain ⟨w0, hw0⟩ : ∃ w0, w.alloc (.cells #[.string (bt tx), .bool qx, .int .i64 (px : Nat)] 110) = w0 := ⟨_, rfl⟩
  have k0 : Blk w0 w.heap.size 110 #[.string (bt tx), .bool qx, .int .i64 (px : Nat)] := by rw [← hw0]; exact Blk.new _ _ _
  have b0 : Below w.heap.size w w0 := by rw [← hw0]; exact (Below.refl _ _).alloc (Nat.le_refl _) _
  have hBw : B ≤ w.heap.size := Nat.le_trans hB (Nat.le_of_lt hrd.lt)
  have t0 := Stp.later b0 hBw
  have h0 := Blk.later hrd b0
  have L0 := hL.later b0
  have W0 := hW.later b0
  have r0 := range_later hr0 b0
  have hbq : w.heap.size ≠ b := by have := hrd.lt; omega
  have hGb : 5 < b := Nat.lt_of_lt_of_le hG hB
  have d0 := hrd.at6
  have hr := Below.refl w.heap.size w
  clear hL hW hr0 b0 hW0
  have HW0 := Lib.hid hw0
  clear hw0
  go_enter Tryz.func57, Tryz.ntmps57
  go_upto_region 1 with fail
  rw [HW0.out]
  generalize w.heap.size = q at *
  clear d0 hr dW hgw
  have d0 := h0.at6
  have dk := k0.at3
  have hr := Below.refl w0.heap.size w0
  go_upto_region 2 with fail
  obtain ⟨w1, hw1⟩ : ∃ w1, w0.setCell ⟨b, 3, none⟩ (.int .i64 1) = w1 := ⟨_, rfl⟩
  have g1 : w0.grownBy w1 (some b) := by rw [← hw1]; exact only_setCell (p := ⟨b, 3, none⟩) (only_below (Below.refl _ _) _) (.inl rfl) _
  have h1 : Rdr w1 b (.slice ao l.length cap) (.slice (some ⟨gw, 0, none⟩) W.length wcap) len ⟨1, cl, 0⟩ := by rw [← hw1]; exact Rdr.next h0 rfl
  have k1 := k0.grown g1 (fun e => hbq (Option.some.inj e))
  have L1 := L0.off h0 g1 (by decide) (by decide) (by decide) (by decide)
  have W1 := W0.grown h0 g1
  have r1 := range_grown r0 g1 hGb
  have t1 := t0.trans (Stp.reader h0 g1 hB)
  rw [hw1]
  clear hw1 d0 dk hr h0 k0 L0 W0 r0 t0 g1
  have d0 := h1.at6
  have dk := k1.at3
  have hr := Below.refl w1.heap.size w1
  have P := Lib.hid (rPlace ⟨tx, qx, px⟩ l ao cap B b len (.slice (some ⟨gw, 0, none⟩) W.length wcap) ⟨1, cl, 0⟩ w1 h1 L1 (by omega))
  rw [hpl] at P
  simp only [wcells] at P
  go_wp2_with fail
  refine P.out.mono ?_; rintro e w2 ⟨rfl, b2⟩
  have h2 := Blk.later h1 b2
  have k2 := k1.later b2
  have L2 := L1.later b2
  have W2 := W1.later b2
  have r2 := range_later r1 b2
  have t2 := t1.trans (Stp.later b2 (Nat.le_trans hB (Nat.le_of_lt h1.lt)))
  clear d0 dk hr h1 k1 L1 W1 r1 t1 P b2 hpl
  have d0 := h2.at6
  have dk := k2.at3
  have hr := Below.refl w2.heap.size w2
  have hneb := ne_b hne
  go_wp2_with fail
  refine (rFail b len 0 _ _ ⟨1, cl, 0⟩ er w2 h2 (by omega)).mono ?_; rintro e w3 ⟨rfl, h3, g3⟩
  have t3 := t2.trans (Stp.reader h2 g3 hB)
  have hf : failS ⟨1, cl, 0⟩ 0 er = ⟨1, 1, er⟩ := by unfold failS; rw [if_pos ⟨rfl, hne⟩]
  rw [hf] at h3
  go_wp2_with fail
  refine bodyPost_ret (results_none rfl _ _ _) rfl ?_
  exact ⟨rfl, t3, h3⟩
end Go.Proofs.YtmnkekepccdlcaaGreatDoor
