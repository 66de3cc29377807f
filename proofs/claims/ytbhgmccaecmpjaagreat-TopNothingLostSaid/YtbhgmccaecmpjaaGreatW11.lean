/-
  Contracts of package class: sets of one byte.
  Conditions: none.
-/
import Derived.Test.YtbhgmccaecmpjaaGreatW04
import Derived.Test.YtbhgmccaecmpjaaGreatW10
namespace Go.Proofs.YtbhgmccaecmpjaaGreat
set_option linter.unusedVariables false
set_option linter.unusedSimpArgs false
open Go.RowKit

theorem results_cell_one {fn : Func} {p : Tmp} {ty : TypeId} (h : fn.results = #[.cell p ty]) (tmps : Array Value) (P : Program) (w : World) :
    (results fn tmps).run P w = ((asAddr (tmps.getD p undef)).run P w).andThen fun a w₁ => (loadVar ty a).run P w₁ := by
  simp only [results, h]
  simp [Sem.run_bind, Result.andThen]
theorem results_cell_three {fn : Func} {p u v : Tmp} {ty : TypeId} (h : fn.results = #[.cell p ty, .tmp u, .tmp v]) (tmps : Array Value) (P : Program) (w : World) :
    (results fn tmps).run P w = ((asAddr (tmps.getD p undef)).run P w).andThen fun a w₁ => ((loadVar ty a).run P w₁).andThen fun x w₂ => .ok (.tuple #[x, tmps.getD u undef, tmps.getD v undef]) w₂ := by
  simp only [results, h]
  simp [Sem.run_bind, Result.andThen]
theorem below_set4 {B g : Nat} {a w : World} (h : Below B a w) (hg : B ≤ g) (x0 x1 x2 x3 : Value) : Below B a ((((w.setCell ⟨g, 0, none⟩ x0).setCell ⟨g, 1, none⟩ x1).setCell ⟨g, 2, none⟩ x2).setCell ⟨g, 3, none⟩ x3) :=
  (((h.setCell (p := ⟨g, 0, none⟩) hg x0).setCell (p := ⟨g, 1, none⟩) hg x1).setCell (p := ⟨g, 2, none⟩) hg x2).setCell (p := ⟨g, 3, none⟩) hg x3
theorem blk_set4 {g : Nat} {t : TypeId} {w : World} {y0 y1 y2 y3 : Value} (h : Blk w g t #[y0, y1, y2, y3]) (x0 x1 x2 x3 : Value) : Blk ((((w.setCell ⟨g, 0, none⟩ x0).setCell ⟨g, 1, none⟩ x1).setCell ⟨g, 2, none⟩ x2).setCell ⟨g, 3, none⟩ x3) g t #[x0, x1, x2, x3] := by
  have := (((h.set_ 0 x0).set_ 1 x1).set_ 2 x2).set_ 3 x3
  simpa using this
theorem below_set5 {B g : Nat} {a w : World} (h : Below B a w) (hg : B ≤ g) (x0 x1 x2 x3 x4 : Value) : Below B a (((((w.setCell ⟨g, 0, none⟩ x0).setCell ⟨g, 1, none⟩ x1).setCell ⟨g, 2, none⟩ x2).setCell ⟨g, 3, none⟩ x3).setCell ⟨g, 4, none⟩ x4) :=
  (below_set4 h hg x0 x1 x2 x3).setCell (p := ⟨g, 4, none⟩) hg x4
theorem blk_set5' {g : Nat} {t : TypeId} {w : World} {y0 y1 y2 y3 y4 : Value} (h : Blk w g t #[y0, y1, y2, y3, y4]) (x0 x1 x2 x3 x4 : Value) : Blk (((((w.setCell ⟨g, 0, none⟩ x0).setCell ⟨g, 1, none⟩ x1).setCell ⟨g, 2, none⟩ x2).setCell ⟨g, 3, none⟩ x3).setCell ⟨g, 4, none⟩ x4) g t #[x0, x1, x2, x3, x4] := by
  have := ((((h.set_ 0 x0).set_ 1 x1).set_ 2 x2).set_ 3 x3).set_ 4 x4
  simpa using this
/-- A set of bytes, as its four words. -/
structure SetT where
  w0 : Nat
  w1 : Nat
  w2 : Nat
  w3 : Nat
def SetT.val (s : SetT) : Value := .agg #[.int .u64 s.w0, .int .u64 s.w1, .int .u64 s.w2, .int .u64 s.w3]
def SetT.cells (s : SetT) : List Value := [.int .u64 s.w0, .int .u64 s.w1, .int .u64 s.w2, .int .u64 s.w3]
def SetT.word (s : SetT) (q : Nat) : Nat := if q = 0 then s.w0 else if q = 1 then s.w1 else if q = 2 then s.w2 else s.w3
structure SetT.ok (s : SetT) : Prop where
  h : s.w0 < 2 ^ 64 ∧ s.w1 < 2 ^ 64 ∧ s.w2 < 2 ^ 64 ∧ s.w3 < 2 ^ 64
def hasS (s : SetT) (c : Nat) : Bool := (s.word (c / 64) >>> (c % 64)) &&& 1 == 1
def oneS (b : Nat) : SetT := ⟨if b / 64 = 0 then 2 ^ (b % 64) else 0, if b / 64 = 1 then 2 ^ (b % 64) else 0, if b / 64 = 2 then 2 ^ (b % 64) else 0, if b / 64 = 3 then 2 ^ (b % 64) else 0⟩
theorem SetT.word_lt {s : SetT} (h : s.ok) (q : Nat) : s.word q < 2 ^ 64 := by
  have := h.h
  unfold SetT.word
  split <;> (try split) <;> (try split) <;> omega
set_option maxRecDepth 100000 in
set_option maxHeartbeats 4000000 in
theorem clHasI (s : SetT) (hs : s.ok) (c : Nat) (hc : c < 256) (w : World) : Calls Tryz.prog 212 #[s.val, .int .u8 c] w fun e w' => e = .returned (.bool (hasS s c)) ∧ Below w.heap.size w w' := by
  obtain ⟨q, hq⟩ : ∃ q, c / 64 = q := ⟨_, rfl⟩
  obtain ⟨r, hr⟩ : ∃ r, c % 64 = r := ⟨_, rfl⟩
  have hr1 : r < 64 := by omega
  have hq1 : q < 4 := by omega
  obtain ⟨b, hb⟩ : ∃ b, w.heap.size = b := ⟨_, rfl⟩
  obtain ⟨w0, hw0⟩ : ∃ w0, w0 = w.alloc (.cells #[.int .u64 s.w0, .int .u64 s.w1, .int .u64 s.w2, .int .u64 s.w3] 276) := ⟨_, rfl⟩
  have b0 : Below w.heap.size w w0 := by rw [hw0]; exact Below.alloc (Below.refl _ _) (Nat.le_refl _) _
  have K0 : Blk w0 b 276 #[.int .u64 s.w0, .int .u64 s.w1, .int .u64 s.w2, .int .u64 s.w3] := by rw [hw0, ← hb]; exact Blk.new _ _ _
  have hx := SetT.word_lt hs q
  have hcell : w0.cell? ⟨b, q, none⟩ = some (.int .u64 (s.word q : Nat)) := by
    rw [K0.cell q]
    have : q = 0 ∨ q = 1 ∨ q = 2 ∨ q = 3 := by omega
    rcases this with rfl | rfl | rfl | rfl <;> rfl
  unfold hasS
  rw [hq, hr]
  generalize s.word q = x at *
  have hz : x >>> r ≤ x := by rw [Nat.shiftRight_eq_div_pow]; exact Nat.div_le_self _ _
  have e1 : ((x >>> r : Nat) : Int) = (x : Int) / 2 ^ r := by rw [Nat.shiftRight_eq_div_pow]; push_cast; rfl
  have e3 := band (x >>> r) 1 (by omega) (by omega)
  have e4 : (((x >>> r &&& 1 : Nat) : Int) == 1) = (x >>> r &&& 1 == 1) := by
    by_cases hq : x >>> r &&& 1 = 1
    · rw [hq]; rfl
    · rw [beq_eq_false_iff_ne.2 hq]; exact beq_eq_false_iff_ne.2 (by omega)
  rw [← e4]
  obtain ⟨z, hzz⟩ : ∃ z, x >>> r &&& 1 = z := ⟨_, rfl⟩
  rw [hzz] at e3 ⊢
  rw [e1] at e3
  have e5 : bits .and .u64 ((x : Int) / 2 ^ r) 1 = (z : Int) := e3
  have q1 : (c : Int) / 64 = (q : Int) := by omega
  have q2 : (c : Int) % 64 = (r : Int) := by omega
  have HW0 := Lib.hid hw0
  have HBB := Lib.hid hb
  clear e1 e3 e4 hz hzz K0 hw0 hb hq hr hs
  unfold SetT.val
  go_enter Tryz.func212, Tryz.ntmps212
  go_upto_region 1 with fail
  rw [← HW0.out, HBB.out]
  go_wp2_with fail
  go_ret
  exact ⟨rfl, b0⟩
theorem clHas (s : SetT) (hs : s.ok) (c : Nat) (hc : c < 256) (w : World) : Calls Tryz.prog 200 #[s.val, .int .u8 c] w fun e w' => e = .returned (.bool (hasS s c)) ∧ Below w.heap.size w w' := by
  have FH : Hid (∀ w, Calls Tryz.prog 212 #[.agg #[.int .u64 s.w0, .int .u64 s.w1, .int .u64 s.w2, .int .u64 s.w3], .int .u8 c] w fun e w' => e = .returned (.bool (hasS s c)) ∧ Below w.heap.size w w') := Lib.hid fun w => clHasI s hs c hc w
  unfold SetT.val
  generalize hasS s c = z at *
  clear hs
  go_enter Tryz.func200, Tryz.ntmps200
  go_wp2_with fail
  refine (FH.out _).mono ?_; rintro e w1 ⟨rfl, b1⟩
  go_wp2_with fail
  go_ret
  exact ⟨rfl, ((Below.refl w.heap.size w).alloc (Nat.le_refl _) _).up b1⟩
theorem oneS_ok (b : Nat) : (oneS b).ok := by
  have h : 2 ^ (b % 64) < 2 ^ 64 := Nat.pow_lt_pow_right (by decide) (Nat.mod_lt _ (by decide))
  have h0 : (0 : Nat) < 2 ^ 64 := by decide
  unfold oneS
  refine ⟨?_, ?_, ?_, ?_⟩ <;> simp only <;> split <;> assumption
theorem bor0 (x : Nat) (hx : x < 2 ^ 64) : bits .or .u64 0 (x : Int) = (x : Int) := by
  have := bor 0 x (by decide) hx
  rw [Nat.zero_or] at this
  exact this
set_option maxRecDepth 100000 in
set_option maxHeartbeats 8000000 in
theorem clWith0 (b : Nat) (hb : b < 256) (w : World) : Calls Tryz.prog 221 #[.agg #[.int .u64 0, .int .u64 0, .int .u64 0, .int .u64 0], .int .u8 b] w fun e w' => e = .returned (oneS b).val ∧ Below w.heap.size w w' := by
  obtain ⟨q, hq⟩ : ∃ q, b / 64 = q := ⟨_, rfl⟩
  obtain ⟨r, hr⟩ : ∃ r, b % 64 = r := ⟨_, rfl⟩
  have hr1 : r < 64 := by omega
  have hq1 : q = 0 ∨ q = 1 ∨ q = 2 ∨ q = 3 := by omega
  have q1 : (b : Int) / 64 = (q : Int) := by omega
  have q2 : (b : Int) % 64 = (r : Int) := by omega
  have hp : 2 ^ r < 2 ^ 64 := Nat.pow_lt_pow_right (by decide) hr1
  have e1 : IntKind.u64.wrap (1 * 2 ^ r) = ((2 ^ r : Nat) : Int) := by rw [Int.one_mul]; have := wrap64 (2 ^ r) hp; push_cast at this ⊢; exact this
  have e1' : IntKind.u64.wrap (2 ^ r) = ((2 ^ r : Nat) : Int) := by have := wrap64 (2 ^ r) hp; push_cast at this ⊢; exact this
  have e2 := bor0 _ hp
  have hv : (oneS b).val = .agg #[.int .u64 (if q = 0 then 2 ^ r else 0 : Nat), .int .u64 (if q = 1 then 2 ^ r else 0 : Nat), .int .u64 (if q = 2 then 2 ^ r else 0 : Nat), .int .u64 (if q = 3 then 2 ^ r else 0 : Nat)] := by
    unfold SetT.val oneS
    simp only [hq, hr]
  rw [hv]
  generalize (2 ^ r : Nat) = p at *
  have hr := Below.refl w.heap.size w
  clear hv hp
  rcases hq1 with rfl | rfl | rfl | rfl
  all_goals (
    simp only [Nat.zero_ne_one, if_true, if_false, show ¬ (0 : Nat) = 2 by decide, show ¬ (0 : Nat) = 3 by decide, show ¬ (1 : Nat) = 0 by decide, show ¬ (1 : Nat) = 2 by decide, show ¬ (1 : Nat) = 3 by decide, show ¬ (2 : Nat) = 0 by decide, show ¬ (2 : Nat) = 1 by decide, show ¬ (2 : Nat) = 3 by decide, show ¬ (3 : Nat) = 0 by decide, show ¬ (3 : Nat) = 1 by decide, show ¬ (3 : Nat) = 2 by decide]
    go_enter Tryz.func221, Tryz.ntmps221
    go_wp2_with fail
    (try simp only [Exit.inBlock, Exit.then])
    refine bodyPost_ret (v := _) ?_ rfl ⟨rfl, by (repeat' (first | exact Below.refl _ _ | assumption | apply Below.drew | apply below_drewN | refine Below.setCell ?_ (by first | assumption | (simp; done) | (simp <;> omega)) _ | refine Below.alloc ?_ (by first | exact Nat.le_refl _ | assumption | (simp; done) | (simp <;> omega)) _))⟩
    rw [results_cell_one rfl]
    go_simp)

set_option maxRecDepth 100000 in
set_option maxHeartbeats 8000000 in
theorem clSpan1I (b : Nat) (hb : b < 256) (w : World) : Calls Tryz.prog 216 #[.int .u8 b, .int .u8 b] w fun e w' => e = .returned (oneS b).val ∧ Below w.heap.size w w' := by
  have FW : Hid (∀ w, Calls Tryz.prog 221 #[.agg #[.int .u64 0, .int .u64 0, .int .u64 0, .int .u64 0], .int .u8 b] w fun e w' => e = .returned (.agg #[.int .u64 (oneS b).w0, .int .u64 (oneS b).w1, .int .u64 (oneS b).w2, .int .u64 (oneS b).w3]) ∧ Below w.heap.size w w') := Lib.hid fun w => clWith0 b hb w
  unfold SetT.val
  generalize (oneS b).w0 = a0 at *
  generalize (oneS b).w1 = a1 at *
  generalize (oneS b).w2 = a2 at *
  generalize (oneS b).w3 = a3 at *
  have e1 : IntKind.u8.wrap (b : Int) = (b : Int) := IntWalk.u8_in _ (by omega)
  have e2 : IntKind.i64.wrap (b : Int) = (b : Int) := IntWalk.i64_in _ (by omega)
  have e3 : IntKind.i64.wrap ((b : Int) + 1) = (b : Int) + 1 := IntWalk.i64_in _ (by omega)
  have e4 : ¬ (b : Int) + 1 ≤ (b : Int) := by omega
  obtain ⟨w0, hw0⟩ : ∃ w0, w0 = (w.alloc (.cells #[.int .u64 0, .int .u64 0, .int .u64 0, .int .u64 0] 276)).alloc (.cells #[.int .u64 0, .int .u64 0, .int .u64 0, .int .u64 0] 276) := ⟨_, rfl⟩
  obtain ⟨p, hp⟩ : ∃ p, w.heap.size = p := ⟨_, rfl⟩
  have b0 : Below w.heap.size w w0 := by rw [hw0]; exact ((Below.refl _ _).alloc (Nat.le_refl _) _).alloc (by simp) _
  have K4 : Blk w0 p 276 #[.int .u64 0, .int .u64 0, .int .u64 0, .int .u64 0] := by rw [hw0, ← hp]; exact (Blk.new _ _ _).alloc _
  have K5 : Blk w0 (p + 1) 276 #[.int .u64 0, .int .u64 0, .int .u64 0, .int .u64 0] := by
    rw [hw0, ← hp]
    have := Blk.new (w.alloc (.cells #[.int .u64 0, .int .u64 0, .int .u64 0, .int .u64 0] 276)) 276 #[.int .u64 0, .int .u64 0, .int .u64 0, .int .u64 0]
    simpa using this
  have HW0 := Lib.hid hw0
  have HPP := Lib.hid hp
  have B0 := Lib.hid b0
  have d5 := K5.at4
  clear hw0 hp b0
  go_enter Tryz.func216, Tryz.ntmps216
  go_upto_region 2 with fail
  rw [← HW0.out, HPP.out]
  have hr := Below.refl w0.heap.size w0
  go_wp2_with fail
  refine wp_loop_rounds 2 ?_
  rw [rounds_succ]
  go_wp2_with fail
  refine (FW.out _).mono ?_; rintro e w1 ⟨rfl, b1⟩
  have k5 := K5.later b1
  have k4 := K4.later b1
  clear d5 hr
  have d5 := k5.at4
  have d4 := k4.at4
  have hr := Below.refl w1.heap.size w1
  go_wp2_with fail
  rw [rounds_succ]
  go_wp2_with fail
  have hlo : w.heap.size ≤ p := by rw [HPP.out]; exact Nat.le_refl _
  have hlo1 : w.heap.size ≤ p + 1 := by omega
  have bb := below_set4 (below_set4 (B0.out.up b1) hlo1 (.int .u64 a0) (.int .u64 a1) (.int .u64 a2) (.int .u64 a3)) hlo (.int .u64 a0) (.int .u64 a1) (.int .u64 a2) (.int .u64 a3)
  (try simp only [Exit.inBlock, Exit.then])
  refine bodyPost_ret (v := .agg #[.int .u64 a0, .int .u64 a1, .int .u64 a2, .int .u64 a3]) ?_ rfl ⟨rfl, bb⟩
  rw [results_cell_one rfl]
  go_simp
theorem clSpan1 (b : Nat) (hb : b < 256) (w : World) : Calls Tryz.prog 206 #[.int .u8 b, .int .u8 b] w fun e w' => e = .returned (oneS b).val ∧ Below w.heap.size w w' := by
  have FW : Hid (∀ w, Calls Tryz.prog 216 #[.int .u8 b, .int .u8 b] w fun e w' => e = .returned (.agg #[.int .u64 (oneS b).w0, .int .u64 (oneS b).w1, .int .u64 (oneS b).w2, .int .u64 (oneS b).w3]) ∧ Below w.heap.size w w') := Lib.hid fun w => clSpan1I b hb w
  unfold SetT.val
  generalize (oneS b).w0 = a0 at *
  generalize (oneS b).w1 = a1 at *
  generalize (oneS b).w2 = a2 at *
  generalize (oneS b).w3 = a3 at *
  obtain ⟨p, hp⟩ : ∃ p, w.heap.size = p := ⟨_, rfl⟩
  obtain ⟨w0, hw0⟩ : ∃ w0, w0 = w.alloc (.cells #[.int .u64 0, .int .u64 0, .int .u64 0, .int .u64 0] 276) := ⟨_, rfl⟩
  have b0 : Below w.heap.size w w0 := by rw [hw0]; exact (Below.refl _ _).alloc (Nat.le_refl _) _
  have K4 : Blk w0 p 276 #[.int .u64 0, .int .u64 0, .int .u64 0, .int .u64 0] := by rw [hw0, ← hp]; exact Blk.new _ _ _
  have HW0 := Lib.hid hw0
  have HPP := Lib.hid hp
  clear hw0 hp
  go_enter Tryz.func206, Tryz.ntmps206
  go_upto_region 1 with fail
  rw [← HW0.out, HPP.out]
  have hr := Below.refl w0.heap.size w0
  go_wp2_with fail
  refine (FW.out _).mono ?_; rintro e w1 ⟨rfl, b1⟩
  have k4 := K4.later b1
  have d4 := k4.at4
  clear hr
  have hr := Below.refl w1.heap.size w1
  go_wp2_with fail
  have hlo : w.heap.size ≤ p := by rw [HPP.out]; exact Nat.le_refl _
  have bb := below_set4 (b0.up b1) hlo (.int .u64 a0) (.int .u64 a1) (.int .u64 a2) (.int .u64 a3)
  (try simp only [Exit.inBlock, Exit.then])
  refine bodyPost_ret (v := .agg #[.int .u64 a0, .int .u64 a1, .int .u64 a2, .int .u64 a3]) ?_ rfl ⟨rfl, bb⟩
  rw [results_cell_one rfl]
  go_simp
theorem glSingle (b : Nat) (hb : b < 256) (w : World) : Calls Tryz.prog 208 #[.int .u8 b] w fun e w' => e = .returned (oneS b).val ∧ Below w.heap.size w w' := by
  have FW : Hid (∀ w, Calls Tryz.prog 206 #[.int .u8 b, .int .u8 b] w fun e w' => e = .returned (.agg #[.int .u64 (oneS b).w0, .int .u64 (oneS b).w1, .int .u64 (oneS b).w2, .int .u64 (oneS b).w3]) ∧ Below w.heap.size w w') := Lib.hid fun w => clSpan1 b hb w
  unfold SetT.val
  generalize (oneS b).w0 = a0 at *
  generalize (oneS b).w1 = a1 at *
  generalize (oneS b).w2 = a2 at *
  generalize (oneS b).w3 = a3 at *
  obtain ⟨p, hp⟩ : ∃ p, w.heap.size = p := ⟨_, rfl⟩
  obtain ⟨w0, hw0⟩ : ∃ w0, w0 = w.alloc (.cells #[.int .u64 0, .int .u64 0, .int .u64 0, .int .u64 0] 276) := ⟨_, rfl⟩
  have b0 : Below w.heap.size w w0 := by rw [hw0]; exact (Below.refl _ _).alloc (Nat.le_refl _) _
  have K4 : Blk w0 p 276 #[.int .u64 0, .int .u64 0, .int .u64 0, .int .u64 0] := by rw [hw0, ← hp]; exact Blk.new _ _ _
  have HW0 := Lib.hid hw0
  have HPP := Lib.hid hp
  clear hw0 hp
  go_enter Tryz.func208, Tryz.ntmps208
  go_upto_region 1 with fail
  rw [← HW0.out, HPP.out]
  have hr := Below.refl w0.heap.size w0
  go_wp2_with fail
  refine (FW.out _).mono ?_; rintro e w1 ⟨rfl, b1⟩
  have k4 := K4.later b1
  have d4 := k4.at4
  clear hr
  have hr := Below.refl w1.heap.size w1
  go_wp2_with fail
  have hlo : w.heap.size ≤ p := by rw [HPP.out]; exact Nat.le_refl _
  have bb := below_set4 (b0.up b1) hlo (.int .u64 a0) (.int .u64 a1) (.int .u64 a2) (.int .u64 a3)
  (try simp only [Exit.inBlock, Exit.then])
  refine bodyPost_ret (v := .agg #[.int .u64 a0, .int .u64 a1, .int .u64 a2, .int .u64 a3]) ?_ rfl ⟨rfl, bb⟩
  rw [results_cell_one rfl]
  go_simp
/-- An item of one plain byte. -/
def plainC (b : Nat) : Prop := b < 256 ∧ b ≠ 42 ∧ b ≠ 63 ∧ b ≠ 91 ∧ b ≠ 93 ∧ b ≠ 37
set_option maxRecDepth 100000 in
set_option maxHeartbeats 8000000 in
theorem glItem (s : ByteArray) (b : Nat) (hb : plainC b) (h0 : 0 < s.size) (hs : s[0].toNat = b) (w : World) : Calls Tryz.prog 197 #[.string s] w fun e w' => e = .returned (.tuple #[.agg #[.bool false, .int .u64 (oneS b).w0, .int .u64 (oneS b).w1, .int .u64 (oneS b).w2, .int .u64 (oneS b).w3], .int .i64 1, .int .i64 0]) ∧ Below w.heap.size w w' := by
  obtain ⟨hb0, n1, n2, n3, n4, n5⟩ := hb
  have FW : Hid (∀ w, Calls Tryz.prog 208 #[.int .u8 b] w fun e w' => e = .returned (.agg #[.int .u64 (oneS b).w0, .int .u64 (oneS b).w1, .int .u64 (oneS b).w2, .int .u64 (oneS b).w3]) ∧ Below w.heap.size w w') := Lib.hid fun w => glSingle b hb0 w
  generalize (oneS b).w0 = a0 at *
  generalize (oneS b).w1 = a1 at *
  generalize (oneS b).w2 = a2 at *
  generalize (oneS b).w3 = a3 at *
  have f1 : ((b : Int) == 42) = false := ne_b (by omega)
  have f2 : ((b : Int) == 63) = false := ne_b (by omega)
  have f3 : ((b : Int) == 91) = false := ne_b (by omega)
  have f4 : ((b : Int) == 93) = false := ne_b (by omega)
  have f5 : ((b : Int) == 37) = false := ne_b (by omega)
  have e0 : (0 : Int) < (s.size : Int) := by omega
  have hs' : (s[0].toNat : Int) = (b : Int) := by omega
  obtain ⟨p, hp⟩ : ∃ p, w.heap.size = p := ⟨_, rfl⟩
  obtain ⟨w0, hw0⟩ : ∃ w0, w0 = w.alloc (.cells #[.bool false, .int .u64 0, .int .u64 0, .int .u64 0, .int .u64 0] 278) := ⟨_, rfl⟩
  have b0 : Below w.heap.size w w0 := by rw [hw0]; exact (Below.refl _ _).alloc (Nat.le_refl _) _
  have K4 : Blk w0 p 278 #[.bool false, .int .u64 0, .int .u64 0, .int .u64 0, .int .u64 0] := by rw [hw0, ← hp]; exact Blk.new _ _ _
  have HW0 := Lib.hid hw0
  have HPP := Lib.hid hp
  clear hw0 hp n1 n2 n3 n4 n5
  go_enter Tryz.func197, Tryz.ntmps197
  go_upto_region 1 with fail
  rw [← HW0.out, HPP.out]
  have hr := Below.refl w0.heap.size w0
  go_wp2_with fail
  refine (FW.out _).mono ?_; rintro e w1 ⟨rfl, b1⟩
  have k4 := K4.later b1
  have d4 := k4.at5
  clear hr
  have hr := Below.refl w1.heap.size w1
  go_wp2_with fail
  have hlo : w.heap.size ≤ p := by rw [HPP.out]; exact Nat.le_refl _
  have bb := below_set5 (b0.up b1) hlo (.bool false) (.int .u64 a0) (.int .u64 a1) (.int .u64 a2) (.int .u64 a3)
  (try simp only [Exit.inBlock, Exit.then])
  refine bodyPost_ret (v := .tuple #[.agg #[.bool false, .int .u64 a0, .int .u64 a1, .int .u64 a2, .int .u64 a3], .int .i64 1, .int .i64 0]) ?_ rfl ⟨rfl, bb⟩
  rw [results_cell_three rfl]
  go_simp
end Go.Proofs.YtbhgmccaecmpjaaGreat
