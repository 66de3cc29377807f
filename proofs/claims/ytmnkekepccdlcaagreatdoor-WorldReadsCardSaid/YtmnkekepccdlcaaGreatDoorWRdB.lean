/-
  What is wrong of a line of rounds by its first word, as the reference tells it.
  Conditions: the rounds lie in a row; at most 10000 of them.
-/
import Derived.Test.YtmnkekepccdlcaaGreatDoorWRdA
import Derived.Test.YtmnkekepccdlcaaGreatDoorWorldC
namespace Go.Proofs.YtmnkekepccdlcaaGreatDoor
set_option linter.unusedVariables false
set_option linter.unusedSimpArgs false
open Go.RowKit

theorem shape_mem {t : List UInt8} (h : t ∈ kWords) : (shapeT t).isSome = true := by
  simp only [kWords, List.mem_cons, List.not_mem_nil, or_false] at h
  rcases h with rfl | rfl | rfl | rfl | rfl | rfl | rfl | rfl | rfl <;> rfl
theorem shape_out {t : List UInt8} (h : ¬ t ∈ kWords) : shapeT t = none := shape_none fun k hk e => h (by rw [← e]; exact List.getElem_mem _)

set_option maxHeartbeats 8000000 in
set_option maxRecDepth 100000 in
theorem gPlace (x : Wd) (l : List (Hd × Rd)) (ao : Option Addr) (cap B : Nat) (w : World) (hl : Rnds B w ao cap l) (hn : l.length ≤ 10000) :
    Calls Tryz.prog 89 #[.slice ao l.length cap, .agg (wcells x).toArray] w fun e w' => e = .returned (.int .i64 (placeT (l.map Prod.snd) x)) ∧ Below w.heap.size w w' := by
  obtain ⟨tx, qx, px⟩ := x
  simp only [wcells]
  obtain ⟨w0, hw0⟩ : ∃ w0, w.alloc (.cells #[.string (bt tx), .bool qx, .int .i64 (px : Nat)] 123) = w0 := ⟨_, rfl⟩
  have k0 : Blk w0 w.heap.size 123 #[.string (bt tx), .bool qx, .int .i64 (px : Nat)] := by rw [← hw0]; exact Blk.new _ _ _
  have b0 : Below w.heap.size w w0 := by rw [← hw0]; exact (Below.refl _ _).alloc (Nat.le_refl _) _
  have L0 := hl.later b0
  have F := gShape tx w0
  generalize bt ((shapeT tx).getD []) = SH at *
  have HW0 := Lib.hid hw0
  have dk := k0.at3
  have hr := Below.refl w0.heap.size w0
  have mq : (l.map Prod.snd).length = l.length := List.length_map _
  clear hw0 hl
  cases qx
  case true =>
    have HR : Hid (placeT (l.map Prod.snd) ⟨tx, true, px⟩ = 11) := Lib.hid (place_bad (.inl rfl))
    generalize (shapeT tx).isSome = KN at *
    have FH := Lib.hid F
    clear F
    go_enter Tryz.func89, Tryz.ntmps89
    go_upto_region 1 with fail
    rw [HW0.out]
    go_wp2_with fail
    refine FH.out.mono ?_; rintro e w1 ⟨rfl, b1⟩
    have bb := b0.up b1
    have k1 := k0.later b1
    clear dk hr b0 b1 L0 k0 FH
    have dk := k1.at3
    have hr := Below.refl w1.heap.size w1
    go_wp2_with fail
    go_ret
    exact ⟨by rw [HR.out]; rfl, bb⟩
  case false =>
  by_cases hm : tx ∈ kWords
  case neg =>
    rw [shape_out hm] at F
    simp only [Option.isSome_none] at F
    have HR : Hid (placeT (l.map Prod.snd) ⟨tx, false, px⟩ = 11) := Lib.hid (place_bad (.inr hm))
    clear hm
    have FH := Lib.hid F
    clear F
    go_enter Tryz.func89, Tryz.ntmps89
    go_upto_region 1 with fail
    rw [HW0.out]
    go_wp2_with fail
    refine FH.out.mono ?_; rintro e w1 ⟨rfl, b1⟩
    have bb := b0.up b1
    have k1 := k0.later b1
    clear dk hr b0 b1 L0 k0 FH
    have dk := k1.at3
    have hr := Below.refl w1.heap.size w1
    go_wp2_with fail
    go_ret
    exact ⟨by rw [HR.out]; rfl, bb⟩
  rw [shape_mem hm] at F
  by_cases hc : tx = kTick
  · subst hc
    have f1 : (kTick == [116, 105, 99, 107]) = true := by decide
    have f2 : (kTick == [100, 114, 97, 105, 110]) = false := by decide
    have f3 : (kTick == [97, 98, 111, 114, 116]) = false := by decide
    clear hm
    by_cases c : l.length = 10000
    · have c1 : (9999 : Int) < (l.length : Int) := by omega
      have HR : Hid (placeT (l.map Prod.snd) ⟨kTick, false, px⟩ = 4) := Lib.hid (by rw [place_tick, mq, if_pos c])
      clear c
      have FH := Lib.hid F
      clear F
      go_enter Tryz.func89, Tryz.ntmps89
      go_upto_region 1 with fail
      rw [HW0.out]
      go_wp2_with fail
      refine FH.out.mono ?_; rintro e w1 ⟨rfl, b1⟩
      have bb := b0.up b1
      have k1 := k0.later b1
      clear dk hr b0 b1 L0 k0 FH
      have dk := k1.at3
      have hr := Below.refl w1.heap.size w1
      go_wp2_with fail
      go_ret
      exact ⟨by rw [HR.out]; rfl, bb⟩
    · have c1 : ¬ (9999 : Int) < (l.length : Int) := by omega
      have HR : Hid (placeT (l.map Prod.snd) ⟨kTick, false, px⟩ = 0) := Lib.hid (by rw [place_tick, mq, if_neg c])
      clear c
      have FH := Lib.hid F
      clear F
      go_enter Tryz.func89, Tryz.ntmps89
      go_upto_region 1 with fail
      rw [HW0.out]
      go_wp2_with fail
      refine FH.out.mono ?_; rintro e w1 ⟨rfl, b1⟩
      have bb := b0.up b1
      have k1 := k0.later b1
      clear dk hr b0 b1 L0 k0 FH
      have dk := k1.at3
      have hr := Below.refl w1.heap.size w1
      go_wp2_with fail
      go_ret
      exact ⟨by rw [HR.out]; rfl, bb⟩
  have f1 : (tx == [116, 105, 99, 107]) = false := beq_eq_false_iff_ne.2 hc
  by_cases c : l.length = 0
  · have c1 : ((l.length : Int) == 0) = true := beq_iff_eq.2 (by omega)
    have c2 : (l.length : Int) = 0 := by omega
    have HR : Hid (placeT (l.map Prod.snd) ⟨tx, false, px⟩ = 8) := Lib.hid (by rw [place_other _ _ _ hm hc, mq, if_pos c])
    clear hc hm c
    have FH := Lib.hid F
    clear F
    go_enter Tryz.func89, Tryz.ntmps89
    go_upto_region 1 with fail
    rw [HW0.out]
    go_wp2_with fail
    refine FH.out.mono ?_; rintro e w1 ⟨rfl, b1⟩
    have bb := b0.up b1
    have k1 := k0.later b1
    clear dk hr b0 b1 L0 k0 FH
    have dk := k1.at3
    have hr := Below.refl w1.heap.size w1
    go_wp2_with fail
    go_ret
    exact ⟨by rw [HR.out]; rfl, bb⟩
  have c1 : ((l.length : Int) == 0) = false := ne_b (by omega)
  have c2 : ¬ (l.length : Int) = 0 := by omega
  have s1 : IntKind.i64.wrap ((l.length : Int) - 1) = ((l.length - 1 : Nat) : Int) := by rw [IntWalk.i64_in _ (by omega)]; omega
  have e1 : (0 : Int) ≤ ((l.length - 1 : Nat) : Int) := by omega
  have e2 : ((l.length - 1 : Nat) : Int) < (l.length : Int) := by omega
  have hlast : (l.map Prod.snd).getLast?.getD rd0 = (l[l.length - 1]'(by omega)).2 := by
    rw [List.getLast?_eq_getElem?, List.length_map, List.getElem?_map, List.getElem?_eq_getElem (by omega)]; rfl
  have HPL : Hid (placeT (l.map Prod.snd) ⟨tx, false, px⟩ = if (tx = kDrain ∧ 0 < (l[l.length - 1]'(by omega)).2.drain) ∨ (tx = kAbort ∧ (l[l.length - 1]'(by omega)).2.abort = true) then 6 else 0) := Lib.hid (by rw [place_other _ _ _ hm hc, mq, if_neg c, hlast])
  obtain ⟨g, rfl, hg, dl⟩ := L0.at_ (l.length - 1) (by omega)
  generalize (l[l.length - 1]'(by omega)).1 = p1 at *
  generalize (l[l.length - 1]'(by omega)).2 = p2 at *
  clear hlast c mq hc hm
  by_cases t1 : tx = kDrain
  · subst t1
    have f2 : (kDrain == [100, 114, 97, 105, 110]) = true := by decide
    have f3 : (kDrain == [97, 98, 111, 114, 116]) = false := by decide
    by_cases c3 : 0 < p2.drain
    · have HR : Hid (placeT (l.map Prod.snd) ⟨kDrain, false, px⟩ = 6) := Lib.hid (by rw [HPL.out, if_pos (.inl ⟨rfl, c3⟩)])
      have FH := Lib.hid F
      clear F
      go_enter Tryz.func89, Tryz.ntmps89
      go_upto_region 1 with fail
      rw [HW0.out]
      go_wp2_with fail
      refine FH.out.mono ?_; rintro e w1 ⟨rfl, b1⟩
      have bb := b0.up b1
      have dl := fun w' (hw : Below w1.heap.size w1 w') => dl w' (b1.up hw)
      have k1 := k0.later b1
      clear dk hr b0 b1 L0 k0 FH
      have dk := k1.at3
      have hr := Below.refl w1.heap.size w1
      go_wp2_with fail
      go_ret
      exact ⟨by rw [HR.out]; rfl, bb⟩
    · have HR : Hid (placeT (l.map Prod.snd) ⟨kDrain, false, px⟩ = 0) := Lib.hid (by rw [HPL.out, if_neg (by rintro (⟨_, h⟩ | ⟨h, _⟩); exact c3 h; exact absurd h (by decide))])
      have FH := Lib.hid F
      clear F
      go_enter Tryz.func89, Tryz.ntmps89
      go_upto_region 1 with fail
      rw [HW0.out]
      go_wp2_with fail
      refine FH.out.mono ?_; rintro e w1 ⟨rfl, b1⟩
      have bb := b0.up b1
      have dl := fun w' (hw : Below w1.heap.size w1 w') => dl w' (b1.up hw)
      have k1 := k0.later b1
      clear dk hr b0 b1 L0 k0 FH
      have dk := k1.at3
      have hr := Below.refl w1.heap.size w1
      go_wp2_with fail
      go_ret
      exact ⟨by rw [HR.out]; rfl, bb⟩
  have f2 : (tx == [100, 114, 97, 105, 110]) = false := beq_eq_false_iff_ne.2 t1
  by_cases t2 : tx = kAbort
  · subst t2
    have f3 : (kAbort == [97, 98, 111, 114, 116]) = true := by decide
    cases c3 : p2.abort
    · have HR : Hid (placeT (l.map Prod.snd) ⟨kAbort, false, px⟩ = 0) := Lib.hid (by rw [HPL.out, if_neg (by rintro (⟨h, _⟩ | ⟨_, h⟩); exact t1 h; rw [c3] at h; cases h)])
      rw [c3] at dl
      clear t1
      have FH := Lib.hid F
      clear F
      go_enter Tryz.func89, Tryz.ntmps89
      go_upto_region 1 with fail
      rw [HW0.out]
      go_wp2_with fail
      refine FH.out.mono ?_; rintro e w1 ⟨rfl, b1⟩
      have bb := b0.up b1
      have dl := fun w' (hw : Below w1.heap.size w1 w') => dl w' (b1.up hw)
      have k1 := k0.later b1
      clear dk hr b0 b1 L0 k0 FH
      have dk := k1.at3
      have hr := Below.refl w1.heap.size w1
      go_wp2_with fail
      go_ret
      exact ⟨by rw [HR.out]; rfl, bb⟩
    · have HR : Hid (placeT (l.map Prod.snd) ⟨kAbort, false, px⟩ = 6) := Lib.hid (by rw [HPL.out, if_pos (.inr ⟨rfl, c3⟩)])
      rw [c3] at dl
      clear t1
      have FH := Lib.hid F
      clear F
      go_enter Tryz.func89, Tryz.ntmps89
      go_upto_region 1 with fail
      rw [HW0.out]
      go_wp2_with fail
      refine FH.out.mono ?_; rintro e w1 ⟨rfl, b1⟩
      have bb := b0.up b1
      have dl := fun w' (hw : Below w1.heap.size w1 w') => dl w' (b1.up hw)
      have k1 := k0.later b1
      clear dk hr b0 b1 L0 k0 FH
      have dk := k1.at3
      have hr := Below.refl w1.heap.size w1
      go_wp2_with fail
      go_ret
      exact ⟨by rw [HR.out]; rfl, bb⟩
  have f3 : (tx == [97, 98, 111, 114, 116]) = false := beq_eq_false_iff_ne.2 t2
  have HR : Hid (placeT (l.map Prod.snd) ⟨tx, false, px⟩ = 0) := Lib.hid (by rw [HPL.out, if_neg (by rintro (⟨h, _⟩ | ⟨h, _⟩); exact t1 h; exact t2 h)])
  clear t1 t2
  have FH := Lib.hid F
  clear F
  go_enter Tryz.func89, Tryz.ntmps89
  go_upto_region 1 with fail
  rw [HW0.out]
  go_wp2_with fail
  refine FH.out.mono ?_; rintro e w1 ⟨rfl, b1⟩
  have bb := b0.up b1
  have dl := fun w' (hw : Below w1.heap.size w1 w') => dl w' (b1.up hw)
  have k1 := k0.later b1
  clear dk hr b0 b1 L0 k0 FH
  have dk := k1.at3
  have hr := Below.refl w1.heap.size w1
  go_wp2_with fail
  go_ret
  exact ⟨by rw [HR.out]; rfl, bb⟩
end Go.Proofs.YtmnkekepccdlcaaGreatDoor
