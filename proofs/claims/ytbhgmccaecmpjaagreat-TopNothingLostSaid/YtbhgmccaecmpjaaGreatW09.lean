/-
  Contracts of package heap, of one id: 0.
  Conditions: the blocks are known.
-/
import Derived.Test.YtbhgmccaecmpjaaGreatW08
namespace Go.Proofs.YtbhgmccaecmpjaaGreat
set_option linter.unusedVariables false
set_option linter.unusedSimpArgs false
open Go.RowKit Go.ChangeMaps

def cntE (at_ : Option Int) : Nat := if at_.isSome then 1 else 0
/-- A slice of at most one entry: of id 0, at a tick. -/
def EntR (w : World) (lv : Value) (at_ : Option Int) : Prop := (lv = .slice none 0 0 ∧ at_ = none) ∨
  ∃ g cap cur, lv = .slice (some ⟨g, 0, none⟩) (cntE at_) cap ∧ Blk w g 100 cur ∧ 1 ≤ cap ∧ cap ≤ maxLen ∧ cur.size = cap * 2 ∧ ∀ t, at_ = some t → cur[0]? = some (.int .i64 t) ∧ cur[1]? = some (.int .i64 0)
theorem EntR.lt {w : World} {lv : Value} {at_ : Option Int} (h : EntR w lv at_) {g : Nat} (hg : lv.ownBlock = some g) : g < w.heap.size := by
  rcases h with ⟨rfl, _⟩ | ⟨g', cap, cur, rfl, hb, _⟩
  · cases hg
  · cases hg; exact hb.lt
theorem EntR.same {w w' : World} {lv : Value} {at_ : Option Int} (h : EntR w lv at_) (k : ∀ g, lv.ownBlock = some g → w'.heap[g]? = w.heap[g]?) : EntR w' lv at_ := by
  rcases h with ⟨rfl, h⟩ | ⟨g', cap, cur, rfl, hb, r⟩
  · exact .inl ⟨rfl, h⟩
  · exact .inr ⟨g', cap, cur, rfl, (k g' rfl).trans hb, r⟩
theorem EntR.later {w w' : World} {lv : Value} {at_ : Option Int} (h : EntR w lv at_) (b : Below w.heap.size w w') : EntR w' lv at_ := h.same fun g hg => b.block g (h.lt hg)
theorem EntR.foot {w w' : World} {lv : Value} {at_ : Option Int} {F : Nat → Prop} (h : EntR w lv at_) (b : Foot F w w') (hF : ∀ g, lv.ownBlock = some g → ¬ F g) : EntR w' lv at_ := h.same fun g hg => b.block g (h.lt hg) (hF g hg)
theorem EntR.set {w : World} {lv : Value} {at_ : Option Int} (h : EntR w lv at_) {p : Addr} (hp : lv.ownBlock ≠ some p.block) (u : Value) : EntR (w.setCell p u) lv at_ := h.same fun g hg => Below.heap_setCell _ _ _ _ (fun e => hp (by rw [hg, e]))
theorem EntR.row {w : World} {lv : Value} (h : EntR w lv none) : ORow 100 2 0 w lv 0 [] := by
  rcases h with ⟨rfl, _⟩ | ⟨g, cap, cur, rfl, hb, _, hm, hs, _⟩
  · exact ⟨rfl, .inl ⟨rfl, rfl⟩⟩
  · exact ⟨rfl, .inr ⟨g, cap, cur, rfl, Nat.zero_le _, hb, Nat.zero_le _, hm, hs, rfl⟩⟩
theorem EntR.of {w : World} {ao : Option Addr} {cap : Nat} {t : Int} (h : ORow 100 2 0 w (.slice ao 1 cap) 1 [.int .i64 t, .int .i64 0]) : EntR w (.slice ao 1 cap) (some t) := by
  rcases h.2 with ⟨_, h0⟩ | ⟨g, cap', cur, hv, _, hb, h1, h2, h3, h4⟩
  · cases h0
  · cases hv
    refine .inr ⟨g, cap, cur, rfl, hb, h1, h2, h3, fun t' ht => ?_⟩
    cases ht
    have e0 : cur.toList[0]? = some (.int .i64 t) := by
      have := congrArg (fun l => l[0]?) h4
      simpa [List.getElem?_take] using this
    have e1 : cur.toList[1]? = some (.int .i64 0) := by
      have := congrArg (fun l => l[1]?) h4
      simpa [List.getElem?_take] using this
    exact ⟨by simpa using e0, by simpa using e1⟩

/-- A heap: its entry, and what stands where 0's place stands. -/
structure HeaR (w : World) (x wh : Nat) (lv : Value) (n : Nat) (at_ : Option Int) (p : Int) : Prop where
  blk : Blk w x 119 #[lv, .slice (some ⟨wh, 0, none⟩) n n]
  whA : Arr w wh 3 n (.int .i64 p)
  row : EntR w lv at_
  d : x ≠ wh ∧ lv.ownBlock ≠ some x ∧ lv.ownBlock ≠ some wh
def heF (x wh : Nat) (lv : Value) (i : Nat) : Prop := i = x ∨ i = wh ∨ lv.ownBlock = some i
def plI (at_ : Option Int) : Int := if at_.isSome then 0 else -1
abbrev Hea (w : World) (x wh : Nat) (lv : Value) (n : Nat) (at_ : Option Int) : Prop := HeaR w x wh lv n at_ (plI at_)
/-- Its slice may be another one: the same block, or a new one. -/
def Grew (lv lv' : Value) (w : World) : Prop := ∀ g, lv'.ownBlock = some g → lv.ownBlock = some g ∨ w.heap.size ≤ g
section
variable {w w' : World} {x wh n : Nat} {lv : Value} {at_ : Option Int} {p : Int} {F : Nat → Prop}
theorem HeaR.lt (h : HeaR w x wh lv n at_ p) : ∀ i, heF x wh lv i → i < w.heap.size := by
  rintro i (rfl | rfl | hi)
  · exact h.blk.lt
  · exact h.whA.lt
  · exact h.row.lt hi
theorem HeaR.later (h : HeaR w x wh lv n at_ p) (b : Below w.heap.size w w') : HeaR w' x wh lv n at_ p := ⟨h.blk.later b, h.whA.later b, h.row.later b, h.d⟩
theorem HeaR.foot (h : HeaR w x wh lv n at_ p) (f : Foot F w w') (hF : ∀ i, heF x wh lv i → ¬ F i) : HeaR w' x wh lv n at_ p :=
  ⟨h.blk.foot f (hF _ (.inl rfl)), h.whA.foot f (hF _ (.inr (.inl rfl))), h.row.foot f (fun g hg => hF _ (.inr (.inr hg))), h.d⟩
theorem HeaR.here (h : HeaR w x wh lv n at_ p) (q : Int) : HeaR (w.setCell ⟨wh, 0, none⟩ (.int .i64 q)) x wh lv n at_ q :=
  ⟨h.blk.far (p := ⟨wh, 0, none⟩) h.d.1 _, h.whA.set _, h.row.set (p := ⟨wh, 0, none⟩) h.d.2.2 _, h.d⟩
/-- The one entry's block and cells. -/
theorem HeaR.one {t : Int} (h : HeaR w x wh lv n (some t) p) : ∃ g cap, lv = .slice (some ⟨g, 0, none⟩) 1 cap ∧ 1 ≤ cap ∧ g ≠ x ∧ g ≠ wh ∧ g < w.heap.size ∧
    (∀ w', Below w.heap.size w w' → w'.cell? ⟨g, 0, none⟩ = some (.int .i64 t) ∧ w'.cell? ⟨g, 1, none⟩ = some (.int .i64 0) ∧ ∀ i, w'.frozen? ⟨g, i, none⟩ = false) ∧
    ∀ u : Int, HeaR ((w.setCell ⟨g, 0, none⟩ (.int .i64 u)).setCell ⟨g, 1, none⟩ (.int .i64 0)) x wh lv n (some u) p := by
  rcases h.row with ⟨_, hc⟩ | ⟨g, cap, cur, rfl, hb, h1, h2, h3, h4⟩
  · cases hc
  obtain ⟨c0, c1⟩ := h4 t rfl
  have hgx : g ≠ x := fun e => h.d.2.1 (by rw [e]; rfl)
  have hgw : g ≠ wh := fun e => h.d.2.2 (by rw [e]; rfl)
  refine ⟨g, cap, rfl, h1, hgx, hgw, hb.lt, fun w' b => ⟨((hb.later b).cell 0).trans c0, ((hb.later b).cell 1).trans c1, fun i => (hb.later b).frozen i⟩, fun u => ⟨?_, ?_, ?_, h.d⟩⟩
  · exact (h.blk.far (p := ⟨g, 0, none⟩) (Ne.symm hgx) _).far (p := ⟨g, 1, none⟩) (Ne.symm hgx) _
  · exact (h.whA.far (p := ⟨g, 0, none⟩) (Ne.symm hgw) _).far (p := ⟨g, 1, none⟩) (Ne.symm hgw) _
  · refine .inr ⟨g, cap, (cur.setIfInBounds 0 (.int .i64 u)).setIfInBounds 1 (.int .i64 0), rfl, (hb.set_ 0 _).set_ 1 _, h1, h2, by simp [h3], fun t' ht => ?_⟩
    cases ht
    refine ⟨?_, ?_⟩
    · have s0 : 0 < cur.size := by omega
      rw [Array.getElem?_setIfInBounds_ne (by omega)]; simp [s0]
    · have s1 : 1 < cur.size := by omega
      simp [s1]
end
theorem foot_set2 {F : Nat → Prop} {w w' : World} {g : Nat} (h : Foot F w w') (hg : F g) (u v : Value) : Foot F w ((w'.setCell ⟨g, 0, none⟩ u).setCell ⟨g, 1, none⟩ v) := foot_set F (foot_set F h g 0 hg u) g 1 hg v

theorem heMay {w : World} {x wh n : Nat} {lv : Value} {at_ : Option Int} {p : Int} (h : HeaR w x wh lv n at_ p) : Calls Tryz.prog 110 #[.pointer (some ⟨x, 0, none⟩), .int .i64 0] w fun e w' => e = .returned (.bool true) ∧ w = w' := by
  have d := h.blk.at2
  have hn := h.whA.2
  have h1 : (0 : Int) < (n : Int) := by omega
  have h2 : 0 < n := hn.1
  have hr := Below.refl w.heap.size w
  go_enter Tryz.func110, Tryz.ntmps110
  go_wp2_with fail
  go_ret
  exact ⟨rfl, rfl⟩
set_option maxRecDepth 100000 in
set_option maxHeartbeats 4000000 in
theorem hePut {w : World} {x wh n : Nat} {lv : Value} {t u p : Int} (h : HeaR w x wh lv n (some t) p) : Calls Tryz.prog 89 #[.pointer (some ⟨x, 0, none⟩), .int .i64 0, .agg #[.int .i64 u, .int .i64 0]] w fun e w' => e = .returned (.tuple #[]) ∧ Hea w' x wh lv n (some u) ∧ Foot (heF x wh lv) w w' := by
  have hn := h.whA.2
  have h1 : (0 : Int) < (n : Int) := by omega
  have h2 : 0 < n := hn.1
  obtain ⟨b, hb⟩ : ∃ b, w.heap.size = b := ⟨_, rfl⟩
  obtain ⟨w0, hw0⟩ : ∃ w0, w0 = w.alloc (.cells #[.int .i64 u, .int .i64 0] 100) := ⟨_, rfl⟩
  have b0 : Below w.heap.size w w0 := by rw [hw0]; exact Below.alloc (Below.refl _ _) (Nat.le_refl _) _
  have K0 : Blk w0 b 100 #[.int .i64 u, .int .i64 0] := by rw [hw0, ← hb]; exact Blk.new _ _ _
  have H0 := h.later b0
  have l0 := h.lt
  obtain ⟨g, cap, rfl, hc1, hgx, hgw, hgl, dg, hput⟩ := H0.one
  have hbx : b ≠ x := fun e => by have := l0 x (.inl rfl); omega
  have hbw : b ≠ wh := fun e => by have := l0 wh (.inr (.inl rfl)); omega
  have hbg : b ≠ g := fun e => by have := l0 g (.inr (.inr rfl)); omega
  have HP := Lib.hid hput
  have HB := Lib.hid b0
  have HK := Lib.hid K0
  have HH := Lib.hid H0
  have HW0 := Lib.hid hw0
  have HBB := Lib.hid hb
  clear hput b0 h l0 hw0 hb
  go_enter Tryz.func89, Tryz.ntmps89
  go_upto_region 1 with fail
  rw [← HW0.out, HBB.out]
  have d := H0.blk.at2
  have db := K0.at2
  have hr := Below.refl w0.heap.size w0
  clear K0 H0
  refine wp_region_later_tail w0.heap.size 7 (by kernel_rfl) (by kernel_rfl) ?_
  simp only [List.take_succ_cons, List.take_zero, List.drop_succ_cons, List.drop_zero]
  have hu : ∀ u : Later w0.heap.size w0, Below w0.heap.size w0 u.world := Later.below
  repeat (go_big_quiet_step ((fail)))
  refine wpQuiet_nil ?_
  intro w1 b1
  have dg1 : ∀ w', Below w1.heap.size w1 w' → w'.cell? ⟨g, 0, none⟩ = some (.int .i64 t) ∧ w'.cell? ⟨g, 1, none⟩ = some (.int .i64 0) ∧ ∀ i, w'.frozen? ⟨g, i, none⟩ = false := fun w' hb => dg w' (b1.up hb)
  have H1 := HH.out.later b1
  obtain ⟨g', cap', hgg, -, -, -, -, -, hput1⟩ := H1.one
  cases hgg
  have H2 := hput1 u
  have K1 := HK.out.later b1
  have K2 := (K1.far (p := ⟨g, 0, none⟩) hbg (.int .i64 u)).far (p := ⟨g, 1, none⟩) hbg (.int .i64 0)
  have F2 : Foot (heF x wh (.slice (some ⟨g, 0, none⟩) 1 cap)) w ((w1.setCell ⟨g, 0, none⟩ (.int .i64 u)).setCell ⟨g, 1, none⟩ (.int .i64 0)) := foot_set2 (Foot.later (HB.out.up b1)) (.inr (.inr rfl)) _ _
  obtain ⟨w2, hw2⟩ : ∃ w2, w2 = (w1.setCell ⟨g, 0, none⟩ (.int .i64 u)).setCell ⟨g, 1, none⟩ (.int .i64 0) := ⟨_, rfl⟩
  have HW2 := Lib.hid hw2
  rw [← hw2] at H2 K2 F2
  clear hw2 hput1 hu dg d db hr
  have hr := Below.refl w1.heap.size w1
  go_upto_region 2 with fail
  rw [← HW2.out]
  clear dg1 hr H1 K1
  have d := H2.blk.at2
  have db := K2.at2
  have dw := H2.whA.at_
  have hr := Below.refl w2.heap.size w2
  refine wp_region_later_tail w2.heap.size 8 (by kernel_rfl) (by kernel_rfl) ?_
  simp only [List.take_succ_cons, List.take_zero, List.drop_succ_cons, List.drop_zero]
  have hu : ∀ u : Later w2.heap.size w2, Below w2.heap.size w2 u.world := Later.below
  repeat (go_big_quiet_step ((fail)))
  refine wpQuiet_nil ?_
  intro w3 b3
  have H3 := H2.later b3
  clear d db dw hr hu
  have dw := H3.whA.at_
  have hr := Below.refl w3.heap.size w3
  go_wp2_with fail
  go_end0
  exact ⟨rfl, H3.here 0, foot_set _ (F2.up b3) wh 0 (.inr (.inl rfl)) _⟩

set_option maxRecDepth 100000 in
set_option maxHeartbeats 4000000 in
theorem heUp {w : World} {x wh n : Nat} {lv : Value} {t p : Int} (h : HeaR w x wh lv n (some t) p) : Calls Tryz.prog 111 #[.pointer (some ⟨x, 0, none⟩), .int .i64 0] w fun e w' => e = .returned (.tuple #[]) ∧ Hea w' x wh lv n (some t) ∧ Foot (heF x wh lv) w w' := by
  have FP : Hid (∀ w', Below w.heap.size w w' → Calls Tryz.prog 89 #[.pointer (some ⟨x, 0, none⟩), .int .i64 0, .agg #[.int .i64 t, .int .i64 0]] w' fun e w'' => e = .returned (.tuple #[]) ∧ Hea w'' x wh lv n (some t) ∧ Foot (heF x wh lv) w' w'') := Lib.hid fun w' hb => hePut (h.later hb)
  obtain ⟨g, cap, rfl, hc1, hgx, hgw, hgl, dg, hput⟩ := h.one
  have d := h.blk.at2
  have hr := Below.refl w.heap.size w
  clear h hput
  go_enter Tryz.func111, Tryz.ntmps111
  go_wp2_with fail
  refine wp_loop_rounds 1 ?_
  rw [rounds_succ]
  go_wp2_with fail
  refine (FP.out _ (by (repeat' (first | exact Below.refl _ _ | assumption | apply Below.drew | apply below_drewN | refine Below.setCell ?_ (by first | assumption | (simp; done) | (simp <;> omega)) _ | refine Below.alloc ?_ (by first | exact Nat.le_refl _ | assumption | (simp; done) | (simp <;> omega)) _)))).mono ?_; rintro e w1 ⟨rfl, h1, f1⟩
  go_wp2_with fail
  go_end0
  exact ⟨rfl, h1, (Foot.later (by (repeat' (first | exact Below.refl _ _ | assumption | apply Below.drew | apply below_drewN | refine Below.setCell ?_ (by first | assumption | (simp; done) | (simp <;> omega)) _ | refine Below.alloc ?_ (by first | exact Nat.le_refl _ | assumption | (simp; done) | (simp <;> omega)) _)))).trans f1⟩
set_option maxRecDepth 100000 in
set_option maxHeartbeats 4000000 in
theorem heDown {w : World} {x wh n : Nat} {lv : Value} {t p : Int} (h : HeaR w x wh lv n (some t) p) : Calls Tryz.prog 128 #[.pointer (some ⟨x, 0, none⟩), .int .i64 0] w fun e w' => e = .returned (.tuple #[]) ∧ Hea w' x wh lv n (some t) ∧ Foot (heF x wh lv) w w' := by
  have FP : Hid (∀ w', Below w.heap.size w w' → Calls Tryz.prog 89 #[.pointer (some ⟨x, 0, none⟩), .int .i64 0, .agg #[.int .i64 t, .int .i64 0]] w' fun e w'' => e = .returned (.tuple #[]) ∧ Hea w'' x wh lv n (some t) ∧ Foot (heF x wh lv) w' w'') := Lib.hid fun w' hb => hePut (h.later hb)
  obtain ⟨g, cap, rfl, hc1, hgx, hgw, hgl, dg, hput⟩ := h.one
  have d := h.blk.at2
  have hr := Below.refl w.heap.size w
  obtain ⟨b, hb⟩ : ∃ b, w.heap.size = b := ⟨_, rfl⟩
  obtain ⟨w0, hw0⟩ : ∃ w0, w0 = w.alloc (.cells #[.int .i64 t, .int .i64 0] 100) := ⟨_, rfl⟩
  have b0 : Below w.heap.size w w0 := by rw [hw0]; exact Below.alloc (Below.refl _ _) (Nat.le_refl _) _
  have K0 : Blk w0 b 100 #[.int .i64 t, .int .i64 0] := by rw [hw0, ← hb]; exact Blk.new _ _ _
  have B0 := Lib.hid b0
  have HX := Lib.hid (h.blk.later b0)
  have HW0 := Lib.hid hw0
  have HBB := Lib.hid hb
  have HK := Lib.hid K0
  clear h hput hw0 hb b0 K0
  go_enter Tryz.func128, Tryz.ntmps128
  go_upto_region 1 with fail
  rw [← HW0.out, HBB.out]
  clear d hr dg
  have d := HX.out.at2
  have db := HK.out.at2
  have hr := Below.refl w0.heap.size w0
  refine wp_loop_rounds 1 ?_
  rw [rounds_succ]
  go_wp2_with fail
  refine (FP.out _ B0.out).mono ?_; rintro e w1 ⟨rfl, h1, f1⟩
  go_wp2_with fail
  go_end0
  exact ⟨rfl, h1, (Foot.later B0.out).trans f1⟩
set_option maxRecDepth 100000 in
set_option maxHeartbeats 4000000 in
theorem heSettle {w : World} {x wh n : Nat} {lv : Value} {t p : Int} (h : HeaR w x wh lv n (some t) p) : Calls Tryz.prog 90 #[.pointer (some ⟨x, 0, none⟩), .int .i64 0] w fun e w' => e = .returned (.tuple #[]) ∧ Hea w' x wh lv n (some t) ∧ Foot (heF x wh lv) w w' := by
  have FU := Lib.hid (heUp h)
  obtain ⟨g, cap, rfl, hc1, hgx, hgw, hgl, dg, hput⟩ := h.one
  have hn := h.whA.2
  have hn1 : (0 : Int) < (n : Int) := by omega
  have hn2 : 0 < n := hn.1
  have d := h.blk.at2
  have hr := Below.refl w.heap.size w
  clear h hput
  go_enter Tryz.func90, Tryz.ntmps90
  go_wp2_with fail
  refine FU.out.mono ?_; rintro e w1 ⟨rfl, h1, f1⟩
  clear d dg hr
  have d := h1.blk.at2
  have dw := h1.whA.at_
  simp only [plI, Option.isSome_some, if_true] at dw
  have hr := Below.refl w1.heap.size w1
  have FD := Lib.hid (heDown h1)
  go_wp2_with fail
  refine FD.out.mono ?_; rintro e w2 ⟨rfl, h2, f2⟩
  go_wp2_with fail
  go_end0
  exact ⟨rfl, h2, f1.trans f2⟩
end Go.Proofs.YtbhgmccaecmpjaaGreat
