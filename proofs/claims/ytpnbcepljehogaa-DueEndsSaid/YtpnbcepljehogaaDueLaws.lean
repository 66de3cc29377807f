/-
  The walks of DueMakes and DueEnds: both return true, whatever the input; they make new memory alone.
  Conditions: the numbers are of their Go kinds.
-/
import Derived.Test.YtpnbcepljehogaaDue
import Derived.Test.YtpnbcepljehogaaCalm
import Derived.Test.YtpnbcepljehogaaBlk
import Derived.Deep.RegionHeld3
import Derived.Deep.DeepCutAuto
import Derived.Deep.DeepMust
namespace Go.Proofs.Ytpnbcepljehogaa
open Go.RowKit

theorem dLives (w : World) : Calls Try.prog 22 #[] w fun e w' => e = .returned (.bool true) ∧ Below w.heap.size w w' := by
  have f1 : overN (behT 4 5) (leastT [9223372036854775807, 9]) 9 = 3 := by decide
  have f2 : overN (behT 4 5) (leastT [9223372036854775807, 8]) 9 = 5 := by decide
  have f3 : overN 9223372036854775807 9223372036854775807 9 = 0 := by decide
  have i4 : i64 4 := by unfold i64; omega
  have i5 : i64 5 := by unfold i64; omega
  go_enter Try.func22, Try.ntmps22
  go_wp2_with fail
  refine (dBegin 4 5 _ i4 i5).mono ?_; rintro e w1 ⟨rfl, b1⟩
  go_wp2_with fail
  refine (dCuts _ _ _ _ _).mono ?_; rintro e w2 ⟨rfl, b2⟩
  go_wp2_with fail
  refine (dOver _ _ _ _ _).mono ?_; rintro e w3 ⟨rfl, b3⟩
  go_wp2_with fail
  refine (dBegin 4 5 _ i4 i5).mono ?_; rintro e w4 ⟨rfl, b4⟩
  go_wp2_with fail
  refine (dCuts _ _ _ _ _).mono ?_; rintro e w5 ⟨rfl, b5⟩
  go_wp2_with fail
  refine (dOver _ _ _ _ _).mono ?_; rintro e w6 ⟨rfl, b6⟩
  go_wp2_with fail
  refine (dFree _).mono ?_; rintro e w7 ⟨rfl, b7⟩
  go_wp2_with fail
  refine (dOver _ _ _ _ _).mono ?_; rintro e w8 ⟨rfl, b8⟩
  go_wp2_with fail
  go_ret
  exact ⟨rfl, ((((((b1.up b2).up b3).up b4).up b5).up b6).up b7).up b8⟩

/-- The two deadlines lie in two blocks, as they should, and all that was there is as it was. -/
structure Two (w0 : World) (b3 b4 : Nat) (x l c x' l' c' : Int) (wx : World) : Prop where
  ne_ : b3 ≠ b4
  lo3 : w0.heap.size ≤ b3
  lo4 : w0.heap.size ≤ b4
  k3 : Blk wx b3 25 #[.int .i64 x, .int .i64 l, .int .i64 c]
  k4 : Blk wx b4 26 #[.int .i64 x', .int .i64 l', .int .i64 c']
  below : Below w0.heap.size w0 wx

theorem two_set3 {w0 : World} {b3 b4 : Nat} {wx : World} {p q r p' q' r' : Value} {x l c x' l' c' : Int} (hne : b3 ≠ b4) (lo3 : w0.heap.size ≤ b3) (lo4 : w0.heap.size ≤ b4) (k3 : Blk wx b3 25 #[p, q, r]) (k4 : Blk wx b4 26 #[p', q', r']) (hb : Below w0.heap.size w0 wx) :
    Two w0 b3 b4 x l c x' l' c' ((((((wx.setCell ⟨b3, 0, none⟩ (.int .i64 x)).setCell ⟨b3, 1, none⟩ (.int .i64 l)).setCell ⟨b3, 2, none⟩ (.int .i64 c)).setCell ⟨b4, 0, none⟩ (.int .i64 x')).setCell ⟨b4, 1, none⟩ (.int .i64 l')).setCell ⟨b4, 2, none⟩ (.int .i64 c')) :=
  ⟨hne, lo3, lo4, (k3.set3 _ _ _).far3 hne _ _ _, (k4.far3 (Ne.symm hne) _ _ _).set3 _ _ _, below_set3 (below_set3 hb lo3 _ _ _) lo4 _ _ _⟩

theorem two_set31 {w0 : World} {b3 b4 : Nat} {wc wx : World} {x l c x' l' c' : Int} (h : Two w0 b3 b4 x l c x' l' c' wc) (hb : Below wc.heap.size wc wx) {y m d y' : Int} :
    Two w0 b3 b4 y m d y' l' c' ((((wx.setCell ⟨b3, 0, none⟩ (.int .i64 y)).setCell ⟨b3, 1, none⟩ (.int .i64 m)).setCell ⟨b3, 2, none⟩ (.int .i64 d)).setCell ⟨b4, 0, none⟩ (.int .i64 y')) :=
  ⟨h.ne_, h.lo3, h.lo4, ((h.k3.later hb).set3 _ _ _).far (p := ⟨b4, 0, none⟩) h.ne_ _, by simpa using ((h.k4.later hb).far3 (Ne.symm h.ne_) _ _ _).set_ 0 (.int .i64 y'),
    (below_set3 (h.below.up hb) h.lo3 _ _ _).setCell (p := ⟨b4, 0, none⟩) h.lo4 _⟩
theorem two_later {w0 : World} {b3 b4 : Nat} {wc wx : World} {x l c x' l' c' : Int} (h : Two w0 b3 b4 x l c x' l' c' wc) (hb : Below wc.heap.size wc wx) : Two w0 b3 b4 x l c x' l' c' wx :=
  ⟨h.ne_, h.lo3, h.lo4, h.k3.later hb, h.k4.later hb, h.below.up hb⟩

theorem two_until {w0 : World} {b3 b4 : Nat} {wc wx : World} {x l c x' l' c' : Int} (h : Two w0 b3 b4 x l c x' l' c' wc) (hb : Below wc.heap.size wc wx) {y' : Int} :
    Two w0 b3 b4 x l c y' l' c' (wx.setCell ⟨b4, 0, none⟩ (.int .i64 y')) :=
  ⟨h.ne_, h.lo3, h.lo4, (h.k3.later hb).far (p := ⟨b4, 0, none⟩) h.ne_ _, by simpa using (h.k4.later hb).set_ 0 (.int .i64 y'), (h.below.up hb).setCell (p := ⟨b4, 0, none⟩) h.lo4 _⟩

set_option maxHeartbeats 1000000 in
theorem dueMakes (f l n a o : Int) (hf : i64 f) (hl : i64 l) (hn : i64 n) (ho : i64 o) (w : World) :
    Calls Try.prog 4 #[.agg #[.int .i64 f, .int .i64 l, .int .i64 n, .int .i64 a, .int .i64 o]] w fun e w' => e = .returned (.bool true) ∧ Below w.heap.size w w' := by
  have za : Makes Try.prog (fun _ => #[.int .i64 0, .int .i64 0, .int .i64 0]) 25 := fun _ => by kernel_rfl
  have zb : Makes Try.prog (fun _ => #[.int .i64 0, .int .i64 0, .int .i64 0]) 26 := fun _ => by kernel_rfl
  obtain ⟨w0, hw0⟩ : ∃ w0, w0 = w.alloc (.cells #[.int .i64 f, .int .i64 l, .int .i64 n, .int .i64 a, .int .i64 o] 23) := ⟨_, rfl⟩
  have hk : Blk w0 w.heap.size 23 #[.int .i64 f, .int .i64 l, .int .i64 n, .int .i64 a, .int .i64 o] := by rw [hw0]; exact Blk.new _ _ _
  have HW0 := Lib.hid hw0
  clear hw0
  have c0 := hk.at5
  go_enter Try.func4, Try.ntmps4
  go_upto_region 1 with fail
  rw [← HW0.out]
  go_cut [3, 4] (fun s3 s4 wx => ∃ b3 b4 : Nat, s3 = .pointer (some ⟨b3, 0, none⟩) ∧ s4 = .pointer (some ⟨b4, 0, none⟩) ∧ Two w0 b3 b4 9223372036854775807 (behT f l) 9223372036854775807 9223372036854775807 (behT f l) 9223372036854775807 wx)
  case first =>
    refine wp_region_calm w0.heap.size 12 (fun _ => #[.int .i64 0, .int .i64 0, .int .i64 0]) (Nat.le_refl _) (by kernel_rfl) (by kernel_rfl) (by kernel_rfl) ?_ ?_
    · simp [allocsOK, za, zb]
    simp only [List.take_succ_cons, List.take_zero, List.drop_succ_cons, List.drop_zero]
    have hu : ∀ u : Later w0.heap.size w0, Below w0.heap.size w0 u.world := Later.below
    repeat (refine wpCalm_step (fun K hK => ?_); go_simp; first | (refine hK _ ?_; clear hK K) | (apply Exists.intro; refine ⟨fun _ => ?_, hK _ ?_⟩; (first | (go_at_call 23; exact dBegin _ _ _ hf hl) | (go_at_call 24; exact xBegin _ _ _ hf hl)); clear hK K))
    refine wpCalm_nil ?_
    intro w1 hb1
    simp only [newThen, newAt]
    intro b3 lo3 _ h3 b4 lo4 hne h4
    clear hu za zb
    have k3 : Blk w1 b3 25 _ := h3
    have k4 : Blk w1 b4 26 _ := h4
    have hne' : b3 ≠ b4 := hne b3 (by simp)
    clear h3 h4 hne
    have hr := Below.refl w1.heap.size w1
    have d3 := k3.at3
    have d4 := k4.at3
    go_wp2_with fail
    go_meet
    exact ⟨b3, b4, rfl, rfl, two_set3 hne' lo3 lo4 k3 k4 hb1⟩
  case rest =>
    obtain ⟨b3, b4, rfl, rfl, ht⟩ := hcut
    have c0 := (hk.later ht.below).at5
    have hr := Below.refl wc.heap.size wc
    have d3 := ht.k3.at3
    have d4 := ht.k4.at3
    have i0 : i64 0 := by unfold i64; omega
    have inv_ : i64 9223372036854775807 := by unfold i64; omega
    have hn9 : behT 0 9223372036854775807 = 9223372036854775807 := by decide
    go_wp2_with fail
    refine (dSame _ _ _ _).mono ?_; rintro e w1 ⟨rfl, hb1⟩
    go_wp2_with fail
    refine (dFree _).mono ?_; rintro e w2 ⟨rfl, hb2'⟩
    have hb2 := hb1.up hb2'
    clear hb1 hb2'
    go_wp2_with fail
    refine (xBegin _ _ _ i0 inv_).mono ?_; rintro e w3 ⟨rfl, hb3'⟩
    have hb3 := hb2.up hb3'
    clear hb2 hb3'
    go_wp2_with fail
    refine (dSame _ _ _ _).mono ?_; rintro e w4 ⟨rfl, hb4'⟩
    have hb4 := hb3.up hb4'
    clear hb3 hb4' i0 inv_ hn9
    go_upto_region 4 with fail
    go_cut [] (fun wx => Two w0 b3 b4 (behT o n) (behT f l) 9223372036854775807 (behT o n) (behT f l) 9223372036854775807 wx)
    case first =>
      refine wp_region_later_tail w4.heap.size 11 (by kernel_rfl) (by kernel_rfl) ?_
      simp only [List.take_succ_cons, List.take_zero, List.drop_succ_cons, List.drop_zero]
      have hu : ∀ u : Later w4.heap.size w4, Below wc.heap.size wc u.world := fun u => hb4.up u.below
      repeat (go_big_quiet_step ((first | (go_at_call 27; exact later_below (Nat.le_refl _) (dWait _ _ _ _ _ _ ho hn)) | (go_at_call 28; exact later_same (xBehind _ _ _ ho hn)))))
      refine wpQuiet_nil ?_
      intro w5 hb5'
      have hb5 := hb4.up hb5'
      have hne := ht.ne_
      clear hu hb4 hb5'
      go_wp2_with fail
      go_meet
      exact two_set31 ht hb5
    case rest =>
      clear c0 d3 d4 hr hb4 ht
      have ht := hcut
      clear hcut
      have c0 := (hk.later ht.below).at5
      have hr := Below.refl wc.heap.size wc
      have d3 := ht.k3.at3
      have d4 := ht.k4.at3
      go_wp2_with fail
      refine (dSame _ _ _ _).mono ?_; rintro e w1 ⟨rfl, hb1⟩
      go_upto_region 7 with fail
      go_cut [] (fun wx => Two w0 b3 b4 (behT o n) (behT f l) (leastT [9223372036854775807, a]) (behT o n) (behT f l) (leastT [9223372036854775807, a]) wx)
      case first =>
        refine wp_region_later_tail w1.heap.size 8 (by kernel_rfl) (by kernel_rfl) ?_
        simp only [List.take_succ_cons, List.take_zero, List.drop_succ_cons, List.drop_zero]
        have hu : ∀ u : Later w1.heap.size w1, Below wc.heap.size wc u.world := fun u => hb1.up u.below
        repeat (go_big_quiet_step ((first | (go_at_call 29; exact later_below (Nat.le_refl _) (dCuts _ _ _ _ _)) | (go_at_call 30; exact later_below (Nat.le_refl _) (xCuts _ _ _ _ _)))))
        refine wpQuiet_nil ?_
        intro w5 hb5'
        have hb5 := hb1.up hb5'
        have hne := ht.ne_
        clear hu hb1 hb5'
        go_wp2_with fail
        go_meet
        exact two_set3 ht.ne_ ht.lo3 ht.lo4 (ht.k3.later hb5) (ht.k4.later hb5) (ht.below.up hb5)
      case rest =>
        clear c0 d3 d4 hr hb1 ht
        have ht := hcut
        clear hcut
        have c0 := (hk.later ht.below).at5
        have hr := Below.refl wc.heap.size wc
        have d3 := ht.k3.at3
        have d4 := ht.k4.at3
        go_wp2_with fail
        have hu : ∀ u : Later wc.heap.size wc, Below wc.heap.size wc u.world := Later.below
        refine wp_region_later wc.heap.size (by kernel_rfl) (by kernel_rfl) ?_
        repeat (go_big_quiet_step ((first | (go_at_call 25; exact later_below (Nat.le_refl _) (dSame _ _ _ _)) | (go_at_call 29; exact later_below (Nat.le_refl _) (dCuts _ _ _ _ _)) | (go_at_call 30; exact later_below (Nat.le_refl _) (xCuts _ _ _ _ _)))))
        refine wpQuiet_nil ?_
        intro w5 hb5
        clear hu
        go_upto_region 10 with fail
        go_cut [] (fun wx => Two w0 b3 b4 (behT o n) (behT f l) (leastT [9223372036854775807, a]) 9223372036854775807 (behT f l) (leastT [9223372036854775807, a]) wx)
        case first =>
          go_wp2_with fail
          go_meet
          exact two_until ht hb5
        case rest =>
          clear c0 d3 d4 hr hb5 ht
          have ht := hcut
          clear hcut
          have hr := Below.refl wc.heap.size wc
          have d3 := ht.k3.at3
          have d4 := ht.k4.at3
          go_wp2_with fail
          have hu : ∀ u : Later wc.heap.size wc, Below wc.heap.size wc u.world := Later.below
          refine wp_region_later wc.heap.size (by kernel_rfl) (by kernel_rfl) ?_
          repeat (go_big_quiet_step ((first | (go_at_call 25; exact later_below (Nat.le_refl _) (dSame _ _ _ _)) | (go_at_call 31; exact later_below (Nat.le_refl _) (dRest _ _ _ _)) | (go_at_call 22; exact later_below (Nat.le_refl _) (dLives _)))))
          refine wpQuiet_nil ?_
          intro w6 hb6
          clear hu
          go_wp2_with fail
          go_ret
          have hz : Below w.heap.size w w0 := by rw [HW0.out]; exact (Below.refl _ _).alloc (Nat.le_refl _) _
          exact ⟨rfl, (hz.up ht.below).up hb6⟩
end Go.Proofs.Ytpnbcepljehogaa
