/-
  Contracts of package purse, of one id: 0.
  Conditions: the purse's blocks are known.
-/
import Derived.Test.YtbhgmccaecmpjaaGreatW03
import Derived.Test.YtbhgmccaecmpjaaGreatW01
import Derived.Test.YtbhgmccaecmpjaaGreatW05
import Derived.Deep.RegionLaw
import Derived.Test.YtbhgmccaecmpjaaGreatW02
import Derived.OwnWalk
import Derived.OrdersHeld
namespace Go.Proofs.YtbhgmccaecmpjaaGreat
set_option linter.unusedVariables false
set_option linter.unusedSimpArgs false
open Go.RowKit

/-- A purse in block x, its array in block a: what id 0 has is p. -/
structure Pur (w : World) (x a n : Nat) (q p : Int) : Prop where
  blk : Blk w x 159 #[.slice (some ⟨a, 0, none⟩) n n, .int .i64 q]
  arr : Arr w a 3 n (.int .i64 p)
  qb : 1 ≤ q ∧ q ≤ 1000000
  pb : 0 ≤ p ∧ p ≤ 2000000000
section
variable {w w' : World} {x a n : Nat} {q p : Int} {F : Nat → Prop}
theorem Pur.later (h : Pur w x a n q p) (k : Below w.heap.size w w') : Pur w' x a n q p := ⟨h.blk.later k, h.arr.later k, h.qb, h.pb⟩
theorem Pur.foot (h : Pur w x a n q p) (k : Foot F w w') (hx : ¬ F x) (ha : ¬ F a) : Pur w' x a n q p := ⟨h.blk.foot k hx, h.arr.foot k ha, h.qb, h.pb⟩
end

theorem Pur.put {w : World} {x a n : Nat} {q p : Int} (h : Pur w x a n q p) (hxa : x ≠ a) (v : Int) (hv : 0 ≤ v ∧ v ≤ 2000000000) : Pur (w.setCell ⟨a, 0, none⟩ (.int .i64 v)) x a n q v := ⟨h.blk.far (p := ⟨a, 0, none⟩) hxa _, h.arr.set _, h.qb, hv⟩
theorem foot_put {w w' : World} {a : Nat} (h : Below w.heap.size w w') (v : Value) : Foot (fun i => i = a) w (w'.setCell ⟨a, 0, none⟩ v) := Foot.set (F := fun i => i = a) (p := ⟨a, 0, none⟩) (Foot.later h) (.inl rfl) v
theorem puMay {w : World} {x a n : Nat} {q p : Int} (h : Pur w x a n q p) : Calls Tryz.prog 130 #[.pointer (some ⟨x, 0, none⟩), .int .i64 0] w fun e w' => e = .returned (.bool true) ∧ w = w' := by
  have d := h.blk.at2
  have hn := h.arr.2
  have h1 : (0 : Int) < (n : Int) := by omega
  have h2 : 0 < n := hn.1
  have hr := Below.refl w.heap.size w
  go_enter Tryz.func130, Tryz.ntmps130
  go_wp2_with fail
  go_ret
  exact ⟨rfl, rfl⟩

set_option maxRecDepth 100000 in
set_option maxHeartbeats 4000000 in
theorem puGive {w : World} {x a n : Nat} {q p : Int} (h : Pur w x a n q p) (hxa : x ≠ a) : Calls Tryz.prog 93 #[.pointer (some ⟨x, 0, none⟩), .int .i64 0] w fun e w' => (∃ k, e = .returned (.int .i64 k)) ∧ Pur w' x a n q (min (p + q) 2000000000) ∧ Foot (fun i => i = a) w w' := by
  have d := h.blk.at2
  have da := h.arr.at_
  have hn := h.arr.2
  have h1 : (0 : Int) < (n : Int) := by omega
  have h2 : 0 < n := hn.1
  have hr := Below.refl w.heap.size w
  have FM := Lib.hid (puMay h)
  have hq := h.qb
  have hp := h.pb
  have s1 : IntKind.i64.wrap (p + q) = p + q := IntWalk.i64_in _ (by omega)
  have HH := Lib.hid h
  have HX := Lib.hid hxa
  by_cases hc : p + q ≤ 2000000000
  all_goals (
    have hc2 : 2000000000 < p + q ∨ p + q ≤ 2000000000 := by omega
    clear hc2
    go_enter Tryz.func93, Tryz.ntmps93
    go_wp2_with fail
    refine FM.out.mono ?_; rintro e w1 ⟨rfl, rfl⟩
    go_upto_region 3 with fail
    refine wp_region_later_tail w.heap.size 19 (by kernel_rfl) (by kernel_rfl) ?_
    simp only [List.take_succ_cons, List.take_zero, List.drop_succ_cons, List.drop_zero]
    have hu : ∀ u : Later w.heap.size w, Below w.heap.size w u.world := Later.below
    repeat (go_big_quiet_step ((fail)))
    refine wpQuiet_nil ?_
    intro w2 b2
    have h2' := HH.out.later b2
    have d := h2'.blk.at2
    have da := h2'.arr.at_
    have hr := Below.refl w2.heap.size w2
    clear hu
    go_wp2_with fail)
  · go_ret
    exact ⟨⟨_, rfl⟩, by rw [show min (p + q) 2000000000 = p + q by omega]; exact h2'.put HX.out _ (by omega), foot_put b2 _⟩
  · go_ret
    exact ⟨⟨_, rfl⟩, by rw [show min (p + q) 2000000000 = 2000000000 by omega]; exact h2'.put HX.out _ (by omega), foot_put b2 _⟩

set_option maxRecDepth 100000 in
set_option maxHeartbeats 4000000 in
theorem puPayNo {w : World} {x a n : Nat} {q p k : Int} (h : Pur w x a n q p) (hk : 0 ≤ k) (hp : p < k) : Calls Tryz.prog 96 #[.pointer (some ⟨x, 0, none⟩), .int .i64 0, .int .i64 k] w fun e w' => e = .returned (.bool false) ∧ w = w' := by
  have d := h.blk.at2
  have da := h.arr.at_
  have hn := h.arr.2
  have h1 : (0 : Int) < (n : Int) := by omega
  have h2 : 0 < n := hn.1
  have hr := Below.refl w.heap.size w
  have FM := Lib.hid (puMay h)
  go_enter Tryz.func96, Tryz.ntmps96
  go_wp2_with fail
  refine FM.out.mono ?_; rintro e w1 ⟨rfl, rfl⟩
  go_wp2_with fail
  go_ret
  exact ⟨rfl, rfl⟩

set_option maxRecDepth 100000 in
set_option maxHeartbeats 4000000 in
theorem puPay {w : World} {x a n : Nat} {q p k : Int} (h : Pur w x a n q p) (hxa : x ≠ a) (hk : 0 ≤ k) (hkp : k ≤ p) : Calls Tryz.prog 96 #[.pointer (some ⟨x, 0, none⟩), .int .i64 0, .int .i64 k] w fun e w' => e = .returned (.bool true) ∧ Pur w' x a n q (p - k) ∧ Foot (fun i => i = a) w w' := by
  have d := h.blk.at2
  have da := h.arr.at_
  have hn := h.arr.2
  have h1 : (0 : Int) < (n : Int) := by omega
  have h2 : 0 < n := hn.1
  have h3 : ¬ p < k := by omega
  have hr := Below.refl w.heap.size w
  have hp := h.pb
  have FM := Lib.hid (puMay h)
  have s1 : IntKind.i64.wrap (p - k) = p - k := IntWalk.i64_in _ (by omega)
  have HH := Lib.hid h
  have HX := Lib.hid hxa
  go_enter Tryz.func96, Tryz.ntmps96
  go_wp2_with fail
  refine FM.out.mono ?_; rintro e w1 ⟨rfl, rfl⟩
  go_wp2_with fail
  go_ret
  exact ⟨rfl, HH.out.put HX.out _ (by omega), foot_put (Below.refl _ _) _⟩

set_option maxRecDepth 100000 in
set_option maxHeartbeats 4000000 in
theorem puClear {w : World} {x a n : Nat} {q p : Int} (h : Pur w x a n q p) (hxa : x ≠ a) : Calls Tryz.prog 109 #[.pointer (some ⟨x, 0, none⟩), .int .i64 0] w fun e w' => (∃ k, e = .returned (.int .i64 k)) ∧ Pur w' x a n q 0 ∧ Foot (fun i => i = a) w w' := by
  have d := h.blk.at2
  have da := h.arr.at_
  have hn := h.arr.2
  have h1 : (0 : Int) < (n : Int) := by omega
  have h2 : 0 < n := hn.1
  have hr := Below.refl w.heap.size w
  have FM := Lib.hid (puMay h)
  have HH := Lib.hid h
  have HX := Lib.hid hxa
  go_enter Tryz.func109, Tryz.ntmps109
  go_wp2_with fail
  refine FM.out.mono ?_; rintro e w1 ⟨rfl, rfl⟩
  go_wp2_with fail
  go_ret
  exact ⟨⟨_, rfl⟩, HH.out.put HX.out _ (by omega), foot_put (Below.refl _ _) _⟩

theorem info_intT : (Tryz.prog.info? 3).map (fun i => (i.zero, i.size, i.bytes)) = some (some (.int .i64 0), 1, 8) := by kernel_rfl
set_option maxRecDepth 100000 in
set_option maxHeartbeats 4000000 in
theorem puNew (w : World) (n : Nat) (q : Int) (hn : 1 ≤ n ∧ n ≤ 1024) (hq : 1 ≤ q ∧ q ≤ 1000000) : Calls Tryz.prog 41 #[.int .i64 n, .int .i64 q] w fun e w' => ∃ x a, e = .returned (.pointer (some ⟨x, 0, none⟩)) ∧ Pur w' x a n q 0 ∧ a < x ∧ w.heap.size ≤ a ∧ Below w.heap.size w w' := by
  have h1 : (1 : Int) ≤ (n : Int) := by omega
  have h2 : (n : Int) ≤ 1024 := by omega
  obtain ⟨i0, hi0, hz0, hz1, hz2⟩ := info_parts info_intT
  go_enter Tryz.func41, Tryz.ntmps41
  go_wp2_with (at_make; refine wpList_make_full _ rfl _ _ 33 rfl w.heap.size 3 i0 (.int .i64 0) 1 Tryz.underlying33 hi0 hz0 hz1 .i64 .i64 _ _ n rfl rfl ?m1 ?m2 ?m3 ?m4 (Nat.le_refl _) ?m5)
  case m1 => first | rfl | omega
  case m2 => first | rfl | omega
  case m3 => rw [hz2]; omega
  case m4 => unfold maxLen; omega
  case m5 =>
  intro w1 r1 g1
  have A1 := Arr.made (by omega) (by omega) r1
  have b1 : Below w.heap.size w w1 := ⟨g1.os, g1.tape, g1.output, g1.size, fun k hk => g1.block k hk (fun e => by cases e)⟩
  clear r1 g1
  have hw : w.heap.size < w1.heap.size := A1.lt
  go_wp2_with fail
  go_ret
  have ba := Below.alloc (Below.refl w1.heap.size w1) (Nat.le_refl _) (.cells #[.slice (some ⟨w.heap.size, 0, none⟩) n n, .int .i64 q] 159)
  exact ⟨w1.heap.size, w.heap.size, rfl, ⟨Blk.new _ _ _, A1.later ba, hq, by omega⟩, hw, Nat.le_refl _, b1.up ba⟩
end Go.Proofs.YtbhgmccaecmpjaaGreat

namespace Go.Proofs.YtbhgmccaecmpjaaGreat
set_option linter.unusedVariables false
set_option linter.unusedSimpArgs false
open Go.RowKit

/-- The blocks of turns. -/
structure TB where
  x : Nat
  fx : Nat
  fa : Nat
  fb : Nat
  fc : Nat
  px : Nat
  pa : Nat
def TB.in_ (t : TB) (i : Nat) : Prop := i = t.x ∨ (i = t.fx ∨ i = t.fa ∨ i = t.fb ∨ i = t.fc) ∨ i = t.px ∨ i = t.pa
structure TB.ok (t : TB) : Prop where
  f : FifD t.fx t.fa t.fb t.fc
  p : t.px ≠ t.pa
  xf : t.x ≠ t.fx ∧ t.x ≠ t.fa ∧ t.x ≠ t.fb ∧ t.x ≠ t.fc ∧ t.x ≠ t.px ∧ t.x ≠ t.pa
  pf : t.px ≠ t.fx ∧ t.px ≠ t.fa ∧ t.px ≠ t.fb ∧ t.px ≠ t.fc
  af : t.pa ≠ t.fx ∧ t.pa ≠ t.fa ∧ t.pa ≠ t.fb ∧ t.pa ≠ t.fc
def whI (on : Bool) : Int := if on then 0 else -1
/-- Turns: whether 0 waits, whether it has the turn, what it has, how many turns there were. -/
structure Tur (w : World) (t : TB) (n : Nat) (q : Int) (waits turn : Bool) (p : Int) (k : Nat) : Prop where
  blk : Blk w t.x 117 #[.pointer (some ⟨t.fx, 0, none⟩), .pointer (some ⟨t.px, 0, none⟩), .int .i64 (whI turn), .int .i64 k]
  row : Fif w t.fx t.fa t.fb t.fc n waits
  prs : Pur w t.px t.pa n q p
section
variable {w w' : World} {t : TB} {n : Nat} {q p : Int} {waits turn : Bool} {k : Nat} {F : Nat → Prop}
theorem Tur.later (h : Tur w t n q waits turn p k) (b : Below w.heap.size w w') : Tur w' t n q waits turn p k := ⟨h.blk.later b, h.row.later b, h.prs.later b⟩
theorem Tur.foot (h : Tur w t n q waits turn p k) (f : Foot F w w') (hF : ∀ i, t.in_ i → ¬ F i) : Tur w' t n q waits turn p k :=
  ⟨h.blk.foot f (hF _ (.inl rfl)), h.row.foot f (hF _ (.inr (.inl (.inl rfl)))) (hF _ (.inr (.inl (.inr (.inl rfl))))) (hF _ (.inr (.inl (.inr (.inr (.inl rfl)))))) (hF _ (.inr (.inl (.inr (.inr (.inr rfl)))))), h.prs.foot f (hF _ (.inr (.inr (.inl rfl)))) (hF _ (.inr (.inr (.inr rfl))))⟩
end
theorem tuOn {w : World} {t : TB} {n : Nat} {q p : Int} {waits turn : Bool} {k : Nat} (h : Tur w t n q waits turn p k) : Calls Tryz.prog 91 #[.pointer (some ⟨t.x, 0, none⟩)] w fun e w' => e = .returned (.bool turn) ∧ w = w' := by
  have K := h.blk
  cases turn
  all_goals (
    simp only [whI, if_true, Bool.false_eq_true, if_false] at K
    have d := K.at4
    have hr := Below.refl w.heap.size w
    go_enter Tryz.func91, Tryz.ntmps91
    go_wp2_with fail
    go_ret
    exact ⟨rfl, rfl⟩)

theorem tuBeginNo {w : World} {t : TB} {n : Nat} {q p : Int} {k : Nat} (h : Tur w t n q false false p k) : Calls Tryz.prog 59 #[.pointer (some ⟨t.x, 0, none⟩)] w fun e w' => e = .returned (.tuple #[.int .i64 0, .bool false]) ∧ w = w' := by
  have d := h.blk.at4
  have hr := Below.refl w.heap.size w
  have FO := Lib.hid (tuOn h)
  have FP := Lib.hid (fiPopNo h.row)
  go_enter Tryz.func59, Tryz.ntmps59
  go_wp2_with fail
  refine FO.out.mono ?_; rintro e w1 ⟨rfl, rfl⟩
  go_wp2_with fail
  refine FP.out.mono ?_; rintro e w1 ⟨rfl, rfl⟩
  go_wp2_with fail
  go_ret2
  exact ⟨rfl, rfl⟩

set_option maxRecDepth 100000 in
set_option maxHeartbeats 4000000 in
theorem tuBegin {w : World} {t : TB} {n : Nat} {q p : Int} {k : Nat} (h : Tur w t n q true false p k) (ht : t.ok) (hk : k ≤ 1000000) : Calls Tryz.prog 59 #[.pointer (some ⟨t.x, 0, none⟩)] w fun e w' => e = .returned (.tuple #[.int .i64 0, .bool true]) ∧ Tur w' t n q false true (min (p + q) 2000000000) (k + 1) ∧ Foot t.in_ w w' := by
  have d := h.blk.at4
  have hr := Below.refl w.heap.size w
  have FO := Lib.hid (tuOn h)
  have FP := Lib.hid (fiPop h.row ht.f)
  have HH := Lib.hid h
  have HT := Lib.hid ht
  clear h ht
  go_enter Tryz.func59, Tryz.ntmps59
  go_wp2_with fail
  refine FO.out.mono ?_; rintro e w1 ⟨rfl, rfl⟩
  go_wp2_with fail
  refine FP.out.mono ?_; rintro e w1 ⟨rfl, r1, f1⟩
  have xf := HT.out.xf
  have pf := HT.out.pf
  have af := HT.out.af
  have K1 := HH.out.blk.foot f1 (by omega)
  have P1 := HH.out.prs.foot f1 (by omega) (by omega)
  simp only [whI, Bool.false_eq_true, if_false] at K1
  clear d hr
  have d := K1.at4
  have hr := Below.refl w1.heap.size w1
  have s1 : IntKind.i64.wrap ((k : Int) + 1) = ((k + 1 : Nat) : Int) := by rw [IntWalk.i64_in _ (by omega)]; omega
  obtain ⟨w2, hw2⟩ : ∃ w2, (w1.setCell ⟨t.x, 2, none⟩ (.int .i64 0)).setCell ⟨t.x, 3, none⟩ (.int .i64 ((k : Int) + 1)) = w2 := ⟨_, rfl⟩
  have K2 : Blk w2 t.x 117 #[.pointer (some ⟨t.fx, 0, none⟩), .pointer (some ⟨t.px, 0, none⟩), .int .i64 0, .int .i64 ((k : Int) + 1)] := by
    rw [← hw2]
    have := (K1.set_ 2 (.int .i64 0)).set_ 3 (.int .i64 ((k : Int) + 1))
    simpa using this
  have f2 : Foot (fun i => i = t.x) w1 w2 := by rw [← hw2]; exact foot_set (fun i => i = t.x) (foot_set (fun i => i = t.x) (Foot.refl _ _) t.x 2 rfl _) t.x 3 rfl _
  have R2 := r1.foot f2 (Ne.symm xf.1) (Ne.symm xf.2.1) (Ne.symm xf.2.2.1) (Ne.symm xf.2.2.2.1)
  have P2 := P1.foot f2 (Ne.symm xf.2.2.2.2.1) (Ne.symm xf.2.2.2.2.2)
  have FG := Lib.hid (puGive P2 HT.out.p)
  have d2 := K2.at4
  have hr2 := Below.refl w2.heap.size w2
  have f02 : Foot t.in_ w w2 := (f1.mono fun i hi => .inr (.inl hi)).trans (f2.mono fun i hi => .inl hi)
  go_wp2_with fail
  try rw [hw2]
  refine FG.out.mono ?_; rintro e w3 ⟨⟨g, rfl⟩, P3, f3⟩
  go_wp2_with fail
  go_ret2
  refine ⟨rfl, ⟨(show Blk w2 t.x 117 #[.pointer (some ⟨t.fx, 0, none⟩), .pointer (some ⟨t.px, 0, none⟩), .int .i64 (whI true), .int .i64 ((k + 1 : Nat) : Int)] from K2).foot f3 xf.2.2.2.2.2, R2.foot f3 (Ne.symm af.1) (Ne.symm af.2.1) (Ne.symm af.2.2.1) (Ne.symm af.2.2.2), P3⟩, f02.trans (f3.mono fun i hi => .inr (.inr (.inr hi)))⟩

set_option maxRecDepth 100000 in
set_option maxHeartbeats 4000000 in
theorem tuWakeNo {w : World} {t : TB} {n : Nat} {q p : Int} {waits turn : Bool} {k : Nat} (h : Tur w t n q waits turn p k) (hw : waits = true ∨ turn = true) : Calls Tryz.prog 80 #[.pointer (some ⟨t.x, 0, none⟩), .int .i64 0] w fun e w' => e = .returned (.bool false) ∧ w = w' := by
  have FO := Lib.hid (tuOn h)
  have K := h.blk
  have hr := Below.refl w.heap.size w
  cases turn
  · obtain rfl : waits = true := by simpa using hw
    have FP := Lib.hid (fiPushNo h.row)
    simp only [whI, Bool.false_eq_true, if_false] at K
    have d := K.at4
    go_enter Tryz.func80, Tryz.ntmps80
    go_wp2_with fail
    refine FO.out.mono ?_; rintro e w1 ⟨rfl, rfl⟩
    go_wp2_with fail
    refine FP.out.mono ?_; rintro e w1 ⟨rfl, rfl⟩
    go_wp2_with fail
    go_ret
    exact ⟨rfl, rfl⟩
  · simp only [whI, if_true] at K
    have d := K.at4
    go_enter Tryz.func80, Tryz.ntmps80
    go_wp2_with fail
    refine FO.out.mono ?_; rintro e w1 ⟨rfl, rfl⟩
    go_wp2_with fail
    go_ret
    exact ⟨rfl, rfl⟩
set_option maxRecDepth 100000 in
set_option maxHeartbeats 4000000 in
theorem tuWake {w : World} {t : TB} {n : Nat} {q p : Int} {k : Nat} (h : Tur w t n q false false p k) (ht : t.ok) : Calls Tryz.prog 80 #[.pointer (some ⟨t.x, 0, none⟩), .int .i64 0] w fun e w' => e = .returned (.bool true) ∧ Tur w' t n q true false p k ∧ Foot t.in_ w w' := by
  have FO := Lib.hid (tuOn h)
  have K := h.blk
  have hr := Below.refl w.heap.size w
  have FP := Lib.hid (fiPush h.row ht.f)
  have HH := Lib.hid h
  have HT := Lib.hid ht
  simp only [whI, Bool.false_eq_true, if_false] at K
  have d := K.at4
  clear h ht
  go_enter Tryz.func80, Tryz.ntmps80
  go_wp2_with fail
  refine FO.out.mono ?_; rintro e w1 ⟨rfl, rfl⟩
  go_wp2_with fail
  refine FP.out.mono ?_; rintro e w1 ⟨rfl, r1, f1⟩
  have xf := HT.out.xf
  have pf := HT.out.pf
  have af := HT.out.af
  go_wp2_with fail
  go_ret
  exact ⟨rfl, ⟨HH.out.blk.foot f1 (by omega), r1, HH.out.prs.foot f1 (by omega) (by omega)⟩, f1.mono fun i hi => .inr (.inl hi)⟩

/-- The turn is over: its block's third cell. -/
theorem tu_off {w : World} {t : TB} {n : Nat} {q p : Int} {waits : Bool} {k : Nat} (h : Tur w t n q waits true p k) (ht : t.ok) : Tur (w.setCell ⟨t.x, 2, none⟩ (.int .i64 (-1))) t n q waits false p k ∧ Foot (fun i => i = t.x) w (w.setCell ⟨t.x, 2, none⟩ (.int .i64 (-1))) := by
  have f2 := foot_set (fun i => i = t.x) (Foot.refl _ w) t.x 2 rfl (.int .i64 (-1))
  have xf := ht.xf
  refine ⟨⟨?_, h.row.foot f2 (Ne.symm xf.1) (Ne.symm xf.2.1) (Ne.symm xf.2.2.1) (Ne.symm xf.2.2.2.1), h.prs.foot f2 (Ne.symm xf.2.2.2.2.1) (Ne.symm xf.2.2.2.2.2)⟩, f2⟩
  have := h.blk.set_ 2 (.int .i64 (-1))
  simpa [whI] using this

set_option maxRecDepth 100000 in
set_option maxHeartbeats 4000000 in
theorem tuEndAgain {w : World} {t : TB} {n : Nat} {q p : Int} {k : Nat} (h : Tur w t n q false true p k) (ht : t.ok) : Calls Tryz.prog 64 #[.pointer (some ⟨t.x, 0, none⟩), .bool true] w fun e w' => e = .returned (.bool true) ∧ Tur w' t n q true false p k ∧ Foot t.in_ w w' := by
  have FO := Lib.hid (tuOn h)
  have hr := Below.refl w.heap.size w
  have K := h.blk
  simp only [whI, if_true] at K
  have d := K.at4
  obtain ⟨w2, hw2⟩ : ∃ w2, w.setCell ⟨t.x, 2, none⟩ (.int .i64 (-1)) = w2 := ⟨_, rfl⟩
  have h2 := tu_off h ht
  rw [hw2] at h2
  obtain ⟨T2, f2⟩ := h2
  have d2 := T2.blk.at4
  have hr2 := Below.refl w2.heap.size w2
  have FP := Lib.hid (fiPush T2.row ht.f)
  have HT := Lib.hid ht
  have HT2 := Lib.hid T2
  clear h ht T2
  go_enter Tryz.func64, Tryz.ntmps64
  go_wp2_with fail
  refine FO.out.mono ?_; rintro e w1 ⟨rfl, rfl⟩
  go_wp2_with fail
  try rw [hw2]
  refine FP.out.mono ?_; rintro e w3 ⟨rfl, r3, f3⟩
  have xf := HT.out.xf
  have pf := HT.out.pf
  have af := HT.out.af
  go_wp2_with fail
  go_ret
  exact ⟨rfl, ⟨HT2.out.blk.foot f3 (by omega), r3, HT2.out.prs.foot f3 (by omega) (by omega)⟩, (f2.mono fun i hi => .inl hi).trans (f3.mono fun i hi => .inr (.inl hi))⟩
set_option maxRecDepth 100000 in
set_option maxHeartbeats 4000000 in
theorem tuEnd {w : World} {t : TB} {n : Nat} {q p : Int} {k : Nat} (h : Tur w t n q false true p k) (ht : t.ok) : Calls Tryz.prog 64 #[.pointer (some ⟨t.x, 0, none⟩), .bool false] w fun e w' => e = .returned (.bool true) ∧ Tur w' t n q false false 0 k ∧ Foot t.in_ w w' := by
  have FO := Lib.hid (tuOn h)
  have hr := Below.refl w.heap.size w
  have K := h.blk
  simp only [whI, if_true] at K
  have d := K.at4
  obtain ⟨w2, hw2⟩ : ∃ w2, w.setCell ⟨t.x, 2, none⟩ (.int .i64 (-1)) = w2 := ⟨_, rfl⟩
  have h2 := tu_off h ht
  rw [hw2] at h2
  obtain ⟨T2, f2⟩ := h2
  have d2 := T2.blk.at4
  have hr2 := Below.refl w2.heap.size w2
  have FP := Lib.hid (puClear T2.prs ht.p)
  have HT := Lib.hid ht
  have HT2 := Lib.hid T2
  clear h ht T2
  go_enter Tryz.func64, Tryz.ntmps64
  go_wp2_with fail
  refine FO.out.mono ?_; rintro e w1 ⟨rfl, rfl⟩
  go_wp2_with fail
  try rw [hw2]
  refine FP.out.mono ?_; rintro e w3 ⟨⟨g, rfl⟩, r3, f3⟩
  have xf := HT.out.xf
  have pf := HT.out.pf
  have af := HT.out.af
  go_wp2_with fail
  go_ret
  exact ⟨rfl, ⟨HT2.out.blk.foot f3 (by omega), HT2.out.row.foot f3 (by omega) (by omega) (by omega) (by omega), r3⟩, (f2.mono fun i hi => .inl hi).trans (f3.mono fun i hi => .inr (.inr (.inr hi)))⟩
set_option maxRecDepth 100000 in
set_option maxHeartbeats 4000000 in
/-- Who has the turn leaves. -/
theorem tuLeave {w : World} {t : TB} {n : Nat} {q p : Int} {k : Nat} (h : Tur w t n q false true p k) (ht : t.ok) : Calls Tryz.prog 106 #[.pointer (some ⟨t.x, 0, none⟩), .int .i64 0] w fun e w' => e = .returned (.bool true) ∧ Tur w' t n q false false 0 k ∧ Foot t.in_ w w' := by
  have FO := Lib.hid (tuOn h)
  have FE := Lib.hid (tuEnd h ht)
  have hr := Below.refl w.heap.size w
  have K := h.blk
  simp only [whI, if_true] at K
  have d := K.at4
  clear h ht
  go_enter Tryz.func106, Tryz.ntmps106
  go_wp2_with fail
  refine FO.out.mono ?_; rintro e w1 ⟨rfl, rfl⟩
  go_wp2_with fail
  refine FE.out.mono ?_; rintro e w3 ⟨rfl, h3⟩
  go_wp2_with fail
  go_ret
  exact ⟨rfl, h3⟩
end Go.Proofs.YtbhgmccaecmpjaaGreat

namespace Go.Proofs.YtbhgmccaecmpjaaGreat
set_option linter.unusedVariables false
set_option linter.unusedSimpArgs false
open Go.RowKit

set_option maxRecDepth 100000 in
set_option maxHeartbeats 4000000 in
theorem tuPayNo {w : World} {t : TB} {n : Nat} {q p c : Int} {waits : Bool} {k : Nat} (h : Tur w t n q waits true p k) (hc : 0 ≤ c) (hp : p < c) : Calls Tryz.prog 61 #[.pointer (some ⟨t.x, 0, none⟩), .int .i64 c] w fun e w' => e = .returned (.bool false) ∧ Below w.heap.size w w' := by
  have FO : Hid (∀ w', Below w.heap.size w w' → Calls Tryz.prog 91 #[.pointer (some ⟨t.x, 0, none⟩)] w' fun e w'' => e = .returned (.bool true) ∧ w' = w'') := Lib.hid fun w' hw => tuOn (h.later hw)
  have FP : Hid (∀ w', Below w.heap.size w w' → Calls Tryz.prog 96 #[.pointer (some ⟨t.px, 0, none⟩), .int .i64 0, .int .i64 c] w' fun e w'' => e = .returned (.bool false) ∧ w' = w'') := Lib.hid fun w' hw => puPayNo (h.prs.later hw) hc hp
  have K := h.blk
  simp only [whI, if_true] at K
  have d := K.at4
  have hr := Below.refl w.heap.size w
  have D : Below w.heap.size w w.drew := (Below.refl _ _).drew
  clear h
  go_enter Tryz.func61, Tryz.ntmps61
  go_upto_region 1 with fail
  go_region_law (first
    | (go_simp; go_at_call 91; with_reducible (refine (FO.out w.drew D).mono ?_); rintro e wn ⟨rfl, rfl⟩)
    | (go_simp; go_at_call 96; with_reducible (refine (FP.out w.drew D).mono ?_); rintro e wn ⟨rfl, rfl⟩))
  all_goals (
    go_wp2_with fail
    go_ret
    exact ⟨rfl, D⟩)
set_option maxRecDepth 100000 in
set_option maxHeartbeats 4000000 in
theorem tuPay {w : World} {t : TB} {n : Nat} {q p c : Int} {waits : Bool} {k : Nat} (h : Tur w t n q waits true p k) (ht : t.ok) (hc : 0 ≤ c) (hp : c ≤ p) : Calls Tryz.prog 61 #[.pointer (some ⟨t.x, 0, none⟩), .int .i64 c] w fun e w' => e = .returned (.bool true) ∧ Tur w' t n q waits true (p - c) k ∧ Foot t.in_ w w' := by
  have FO : Hid (∀ w', Below w.heap.size w w' → Calls Tryz.prog 91 #[.pointer (some ⟨t.x, 0, none⟩)] w' fun e w'' => e = .returned (.bool true) ∧ w' = w'') := Lib.hid fun w' hw => tuOn (h.later hw)
  have FP : Hid (∀ w', Below w.heap.size w w' → Calls Tryz.prog 96 #[.pointer (some ⟨t.px, 0, none⟩), .int .i64 0, .int .i64 c] w' fun e w'' => e = .returned (.bool true) ∧ Pur w'' t.px t.pa n q (p - c) ∧ Foot (fun i => i = t.pa) w' w'') := Lib.hid fun w' hw => puPay (h.prs.later hw) ht.p hc hp
  have K := h.blk
  simp only [whI, if_true] at K
  have d := K.at4
  have hr := Below.refl w.heap.size w
  have D : Below w.heap.size w w.drew := (Below.refl _ _).drew
  have HH := Lib.hid h
  have HT := Lib.hid ht
  clear h ht
  go_enter Tryz.func61, Tryz.ntmps61
  go_upto_region 1 with fail
  go_region_law (first
    | (go_simp; go_at_call 91; with_reducible (refine (FO.out w.drew D).mono ?_); rintro e wn ⟨rfl, rfl⟩)
    | (go_simp; go_at_call 96; with_reducible (refine (FP.out w.drew D).mono ?_); rintro e wn ⟨rfl, P1, f1⟩))
  all_goals (
    have xf := HT.out.xf
    have af := HT.out.af
    go_wp2_with fail
    go_ret
    exact ⟨rfl, ⟨(HH.out.blk.later D).foot f1 (by omega), (HH.out.row.later D).foot f1 (by omega) (by omega) (by omega) (by omega), P1⟩, (Foot.later D).trans (f1.mono fun i hi => .inr (.inr (.inr hi)))⟩)
end Go.Proofs.YtbhgmccaecmpjaaGreat

namespace Go.Proofs.YtbhgmccaecmpjaaGreat
set_option linter.unusedVariables false
set_option linter.unusedSimpArgs false
open Go.RowKit

section
variable {P : Program} {ops : Array Oper} {md : Region.Mode} {B : Nat} {w0 : World}

/-- A variable that the region makes. -/
def isAlloc (o : Oper) : Bool := match o.op with | .alloc _ => o.guard.isNone | _ => false

/-- In every later world the operation yields v, and what it found stays as it was. -/
def calmAt (P : Program) (o : Oper) (a : Act) (B : Nat) (w0 : World) (v : Value) : Prop :=
  ∀ u : Later B w0, o.quietAt P a (fun w'' => Below u.world.heap.size u.world w'') u.world v

def calmOp (P : Program) (ops : Array Oper) (B : Nat) (w0 : World) (o : Oper) (K : Act → Prop) (a : Act) : Prop :=
  if isAlloc o = true then K a
  else if Region.wanted o (yielded ops a.tmps) = true then ∃ v, calmAt P o a B w0 v ∧ K (a.put o.dst v) else K (a.put o.dst undef)

attribute [go_sem] isAlloc calmAt calmOp

/-- What the walk in the text's order shows of one operation. -/
def CalmIs (P : Program) (ops : Array Oper) (B : Nat) (w0 : World) (o : Oper) (v : Value) (a : Act) : Prop :=
  isAlloc o = true ∨ isAlloc o = false ∧ (Region.wanted o (yielded ops a.tmps) = true ∧ calmAt P o a B w0 v ∨ Region.wanted o (yielded ops a.tmps) = false ∧ v = undef)
def putC (o : Oper) (v : Value) (a : Act) : Act := if isAlloc o = true then a else a.put o.dst v

theorem CalmIs.op {o : Oper} {v : Value} {a : Act} (h : CalmIs P ops B w0 o v a) {K : Act → Prop} (hk : K (putC o v a)) : calmOp P ops B w0 o K a := by
  unfold calmOp
  unfold putC at hk
  rcases h with h | ⟨h, ⟨h2, h3⟩ | ⟨h2, rfl⟩⟩
  · rw [if_pos h] at hk ⊢; exact hk
  · have h' : ¬ isAlloc o = true := by rw [h]; exact Bool.false_ne_true
    rw [if_neg h'] at hk ⊢; rw [if_pos h2]; exact ⟨v, h3, hk⟩
  · have h' : ¬ isAlloc o = true := by rw [h]; exact Bool.false_ne_true
    rw [if_neg h'] at hk ⊢; rw [if_neg (by rw [h2]; exact Bool.false_ne_true)]; exact hk
theorem CalmIs.put {oi oj : Oper} {v u : Value} {a : Act} (hsi : ∀ cs b, oi.op ≠ .select cs b) (h : ∀ d, oj.dst = some d → d ∉ oi.looksAt ops) (hy : CalmIs P ops B w0 oi v a) : CalmIs P ops B w0 oi v (a.put oj.dst u) := by
  unfold CalmIs calmAt Oper.quietAt at *
  rw [execOp_put oi hsi a oj.dst u h, wanted_put oi a oj.dst u h]
  exact hy

/-! The new variables: where each lies is not said; that each is new, and holds its type's zero, is. -/
/-- The variables made so far. -/
structure Made (ops : Array Oper) (n B : Nat) (zs : TypeId → Array Value) (β : Nat → Nat) (s : Nat → Bool) (w : World) : Prop where
  here : ∀ i o t, i < n → ops[i]? = some o → isAlloc o = true → o.op = .alloc t → s i = true → B ≤ β i ∧ w.heap[β i]? = some (.cells (zs t) t (0, 0))
  ne_ : ∀ i j oi oj, i < n → j < n → i ≠ j → ops[i]? = some oi → ops[j]? = some oj → isAlloc oi = true → isAlloc oj = true → s i = true → s j = true → β i ≠ β j

theorem isAlloc_op {o : Oper} (h : isAlloc o = true) : ∃ t, o.op = .alloc t ∧ o.guard = none := by
  unfold isAlloc at h
  split at h
  · rename_i t ht; exact ⟨t, ht, by simpa using h⟩
  · cases h

theorem Made.lt {n : Nat} {zs : TypeId → Array Value} {β : Nat → Nat} {s : Nat → Bool} {w : World} (h : Made ops n B zs β s w) {i : Nat} {o : Oper} (hi : i < n) (ho : ops[i]? = some o) (ha : isAlloc o = true) (hs : s i = true) : β i < w.heap.size := by
  obtain ⟨t, ht, _⟩ := isAlloc_op ha
  have := (h.here i o t hi ho ha ht hs).2
  exact (Array.getElem?_eq_some_iff.1 this).1

theorem Made.later {n : Nat} {zs : TypeId → Array Value} {β : Nat → Nat} {s : Nat → Bool} {w w' : World} (h : Made ops n B zs β s w) (hb : Below w.heap.size w w') : Made ops n B zs β s w' :=
  ⟨fun i o t hi ho ha ht hs => ⟨(h.here i o t hi ho ha ht hs).1, (hb.block _ (h.lt hi ho ha hs)).trans (h.here i o t hi ho ha ht hs).2⟩, h.ne_⟩

theorem getD_set {listed : Array Bool} {i : Nat} (hi : i < listed.size) (k : Nat) : (listed.setIfInBounds i true).getD k false = if k = i then true else listed.getD k false := by
  by_cases h : k = i
  · subst h; simp [hi]
  · rw [if_neg h, getD_set_ne false (Ne.symm h)]

end
end Go.Proofs.YtbhgmccaecmpjaaGreat

namespace Go.Proofs.YtbhgmccaecmpjaaGreat
set_option linter.unusedVariables false
set_option linter.unusedSimpArgs false
open Go.RowKit

end Go.Proofs.YtbhgmccaecmpjaaGreat
