/-
  Contracts of package pend: a writer behind a pointer, and what no writer tells.
  Conditions: the writer's block is known whole; its places lie within its text.
-/
import Derived.Test.YtbhgmccaecmpjaaGreatW01
import Derived.Test.YtbhgmccaecmpjaaGreatW02
namespace Go.Proofs.YtbhgmccaecmpjaaGreat
set_option linter.unusedVariables false
set_option linter.unusedSimpArgs false
open Go.RowKit

/-- A writer in block b. -/
def Pnd (w : World) (b : Nat) (out : Int) (t : ByteArray) (s d tr : Int) : Prop :=
  Blk w b 196 #[.int .i64 out, .string t, .int .i64 s, .int .i64 d, .int .i64 tr]

theorem only_setCell {a w : World} {g : Nat} (h : a.grownBy w (some g)) {p : Addr} (hp : p.block = g ∨ a.heap.size ≤ p.block) (u : Value) : a.grownBy (w.setCell p u) (some g) :=
  ⟨h.os, h.tape, h.output, by simpa [World.setCell] using h.size, fun i hi hne => (Below.heap_setCell w p u i (by
    rintro rfl
    rcases hp with hp | hp
    · exact hne (by rw [hp])
    · omega)).trans (h.block i hi hne)⟩
theorem only_below {a w : World} (h : Below a.heap.size a w) (row : Option Nat) : a.grownBy w row := ⟨h.os, h.tape, h.output, h.size, fun i hi _ => h.block i hi⟩
theorem only_trans {a b c : World} {row : Option Nat} (h : a.grownBy b row) (k : b.grownBy c row) : a.grownBy c row :=
  ⟨k.os.trans h.os, k.tape.trans h.tape, k.output.trans h.output, Nat.le_trans h.size k.size, fun i hi hne => (k.block i (Nat.lt_of_lt_of_le hi h.size) hne).trans (h.block i hi hne)⟩
theorem pNew (out : Int) (w : World) : Calls Tryz.prog 78 #[.int .i64 out] w
    fun e w' => e = .returned (.pointer (some ⟨w.heap.size, 0, none⟩)) ∧ Pnd w' w.heap.size (min (max out 1) 4096) ⟨#[]⟩ 0 0 0 ∧ Below w.heap.size w w' := by
  generalize hm : min (max out 1) 4096 = m
  go_enter Tryz.func78, Tryz.ntmps78
  go_wp2
  all_goals (
    go_ret
    refine ⟨rfl, ?_, (Below.refl _ _).alloc (Nat.le_refl _) _⟩
    first | exact hm ▸ Blk.new _ _ _ | (have e1 : m = 1 := by omega
                                        subst e1; exact Blk.new _ _ _) | (have e1 : m = 4096 := by omega
                                                                          subst e1; exact Blk.new _ _ _) | (have e1 : m = out := by omega
                                                                                                            subst e1; exact Blk.new _ _ _))

theorem blk_set5 {w : World} {b : Nat} {t : TypeId} {p0 p1 p2 p3 p4 : Value} (h : Blk w b t #[p0, p1, p2, p3, p4]) (q0 q1 q2 q3 q4 : Value) :
    Blk (((((w.setCell ⟨b, 0, none⟩ q0).setCell ⟨b, 1, none⟩ q1).setCell ⟨b, 2, none⟩ q2).setCell ⟨b, 3, none⟩ q3).setCell ⟨b, 4, none⟩ q4) b t #[q0, q1, q2, q3, q4] := by
  have := ((((h.set_ 0 q0).set_ 1 q1).set_ 2 q2).set_ 3 q3).set_ 4 q4
  simpa using this
theorem only_set5 {w : World} {b : Nat} (q0 q1 q2 q3 q4 : Value) :
    w.grownBy (((((w.setCell ⟨b, 0, none⟩ q0).setCell ⟨b, 1, none⟩ q1).setCell ⟨b, 2, none⟩ q2).setCell ⟨b, 3, none⟩ q3).setCell ⟨b, 4, none⟩ q4) (some b) := by
  refine only_setCell (p := ⟨b, 4, none⟩) ?_ (.inl rfl) _
  refine only_setCell (p := ⟨b, 3, none⟩) ?_ (.inl rfl) _
  refine only_setCell (p := ⟨b, 2, none⟩) ?_ (.inl rfl) _
  refine only_setCell (p := ⟨b, 1, none⟩) ?_ (.inl rfl) _
  refine only_setCell (p := ⟨b, 0, none⟩) ?_ (.inl rfl) _
  exact only_below (Below.refl _ _) _

set_option maxHeartbeats 400000 in
theorem pBegin (b : Nat) (out tr : Int) (t u : ByteArray) (s d : Nat) (w : World) (h : Pnd w b out t s d tr) : Calls Tryz.prog 119 #[.pointer (some ⟨b, 0, none⟩), .string u] w
    fun e w' => e = .returned (.tuple #[]) ∧ Pnd w' b out u 0 0 0 ∧ w.grownBy w' (some b) := by
  have d0 := Blk.at5 h
  have hr := Below.refl w.heap.size w
  go_enter Tryz.func119, Tryz.ntmps119
  go_wp2
  go_end0
  exact ⟨rfl, blk_set5 h _ _ _ _ _, only_set5 _ _ _ _ _⟩

theorem pLeft (b : Nat) (out tr : Int) (t : ByteArray) (s d : Nat) (w : World) (h : Pnd w b out t s d tr) (hs : s ≤ d) (hd : d ≤ t.size) (ht : t.size ≤ 9223372036854775807) : Calls Tryz.prog 132 #[.pointer (some ⟨b, 0, none⟩)] w
    fun e w' => e = .returned (.int .i64 ((d - s : Nat) : Int)) ∧ Below w.heap.size w w' := by
  have d0 := Blk.at5 h
  have hr := Below.refl w.heap.size w
  have s1 : IntKind.i64.wrap ((d : Int) - (s : Int)) = (d : Int) - (s : Int) := IntWalk.i64_in _ (by omega)
  go_enter Tryz.func132, Tryz.ntmps132
  go_wp2_with fail
  go_quiet (fail)
  go_wp2_with fail
  go_ret
  exact ⟨ret_int (by omega), below_drewN (Below.refl _ _) _⟩
theorem pRest (b : Nat) (out tr : Int) (t : ByteArray) (s d : Nat) (w : World) (h : Pnd w b out t s d tr) (hs : s ≤ d) (hd : d ≤ t.size) (ht : t.size ≤ 9223372036854775807) : Calls Tryz.prog 99 #[.pointer (some ⟨b, 0, none⟩)] w
    fun e w' => e = .returned (.int .i64 ((t.size - d : Nat) : Int)) ∧ Below w.heap.size w w' := by
  have d0 := Blk.at5 h
  have hr := Below.refl w.heap.size w
  have s1 : IntKind.i64.wrap ((t.size : Int) - (d : Int)) = (t.size : Int) - (d : Int) := IntWalk.i64_in _ (by omega)
  go_enter Tryz.func99, Tryz.ntmps99
  go_wp2_with fail
  go_quiet (fail)
  go_wp2_with fail
  go_ret
  exact ⟨ret_int (by omega), below_drewN (Below.refl _ _) _⟩
theorem pnd2 {w : World} {b : Nat} {out : Int} {t : ByteArray} {s d tr x y : Int} (h : Pnd w b out t s d tr) (e : y = x) : Pnd (w.setCell ⟨b, 2, none⟩ (.int .i64 x)) b out t y d tr := by
  subst e; have := Blk.set_ h 2 (.int .i64 y); simpa [Pnd] using this
theorem pnd3 {w : World} {b : Nat} {out : Int} {t : ByteArray} {s d tr x y : Int} (h : Pnd w b out t s d tr) (e : y = x) : Pnd (w.setCell ⟨b, 3, none⟩ (.int .i64 x)) b out t s y tr := by
  subst e; have := Blk.set_ h 3 (.int .i64 y); simpa [Pnd] using this
theorem pnd4 {w : World} {b : Nat} {out : Int} {t : ByteArray} {s d tr x y : Int} (h : Pnd w b out t s d tr) (e : y = x) : Pnd (w.setCell ⟨b, 4, none⟩ (.int .i64 x)) b out t s d y := by
  subst e; have := Blk.set_ h 4 (.int .i64 y); simpa [Pnd] using this
theorem only3 {w w' : World} {b i : Nat} {u : Value} (h : Below w.heap.size w w') : w.grownBy (w'.setCell ⟨b, i, none⟩ u) (some b) := only_setCell (p := ⟨b, i, none⟩) (only_below h _) (.inl rfl) _

/-- How much more is laid out. -/
def loadT (o : Int) (t : ByteArray) (s d : Nat) : Nat := if s < d then 0 else min (t.size - d) o.toNat
/-- How much is taken, and how often not all was. -/
def takeT (n : Int) (s d : Nat) : Nat := min n.toNat (d - s)
def tryT (n : Int) (s d : Nat) (tr : Int) : Int := if s + takeT n s d < d then IntKind.i64.wrap (tr + 1) else tr

set_option maxHeartbeats 1000000 in
theorem pLoad (b : Nat) (out tr : Int) (t : ByteArray) (s d : Nat) (w : World) (h : Pnd w b out t s d tr) (hs : s ≤ d) (hd : d ≤ t.size) (ht : t.size ≤ 9223372036854775807) (ho : 1 ≤ out ∧ out ≤ 4096) : Calls Tryz.prog 177 #[.pointer (some ⟨b, 0, none⟩)] w
    fun e w' => e = .returned (.int .i64 (loadT out t s d)) ∧ Pnd w' b out t s (d + loadT out t s d) tr ∧ w.grownBy w' (some b) := by
  have d0 := Blk.at5 h
  have hr := Below.refl w.heap.size w
  by_cases c : s < d
  · have c1 : (s : Int) < (d : Int) := by omega
    have e : loadT out t s d = 0 := by unfold loadT; rw [if_pos c]
    rw [e]
    go_enter Tryz.func177, Tryz.ntmps177
    go_wp2_with fail
    go_quiet (fail)
    go_wp2_with fail
    go_ret
    exact ⟨rfl, Blk.drewN h _, only_below (below_drewN (Below.refl _ _) _) _⟩
  · have c1 : ¬ (s : Int) < (d : Int) := by omega
    have s1 : IntKind.i64.wrap ((t.size : Int) - (d : Int)) = (t.size : Int) - (d : Int) := IntWalk.i64_in _ (by omega)
    have e : (if out < (t.size : Int) - (d : Int) then out else (t.size : Int) - (d : Int)) = (loadT out t s d : Int) := by
      unfold loadT; rw [if_neg c]; split <;> omega
    have e0 : loadT out t s d ≤ t.size - d := by unfold loadT; rw [if_neg c]; omega
    generalize hL : loadT out t s d = L at e e0 ⊢
    have s2 : IntKind.i64.wrap ((d : Int) + (L : Int)) = ((d + L : Nat) : Int) := by rw [IntWalk.i64_in _ (by omega)]; omega
    go_enter Tryz.func177, Tryz.ntmps177
    go_wp2_with fail
    go_quiet (fail)
    go_wp2_with fail
    go_quiet (fail)
    go_wp2_with fail
    go_ret
    exact ⟨rfl, pnd3 (Blk.drewN h _) rfl, only3 (below_drewN (Below.refl _ _) _)⟩

theorem takeT_le (n : Int) {s d : Nat} (h : s ≤ d) : s + takeT n s d ≤ d := by unfold takeT; omega

set_option maxHeartbeats 1000000 in
theorem pTake (b : Nat) (n out tr : Int) (t : ByteArray) (s d : Nat) (w : World) (h : Pnd w b out t s d tr) (hs : s ≤ d) (hd : d ≤ t.size) (ht : t.size ≤ 9223372036854775807) : Calls Tryz.prog 127 #[.pointer (some ⟨b, 0, none⟩), .int .i64 n] w
    fun e w' => e = .returned (.string (t.extract s (s + takeT n s d))) ∧ Pnd w' b out t (s + takeT n s d) d (if s = d then tr else tryT n s d tr) ∧ w.grownBy w' (some b) := by
  have d0 := Blk.at5 h
  have hr := Below.refl w.heap.size w
  by_cases c : s = d
  · have c1 : (s : Int) = (d : Int) := by omega
    have e : takeT n s d = 0 := by unfold takeT; omega
    have e2 : t.extract s s = ⟨#[]⟩ := by
      apply ByteArray.ext
      simp
    rw [e, if_pos c, Nat.add_zero, e2]
    go_enter Tryz.func127, Tryz.ntmps127
    go_wp2_with fail
    go_quiet (fail)
    go_wp2_with fail
    go_ret
    exact ⟨rfl, Blk.drewN h _, only_below (below_drewN (Below.refl _ _) _) _⟩
  · have c1 : ¬ (d : Int) = (s : Int) := by omega
    have s1 : IntKind.i64.wrap ((d : Int) - (s : Int)) = (d : Int) - (s : Int) := IntWalk.i64_in _ (by omega)
    have e0 : s + takeT n s d ≤ d := takeT_le n hs
    have e1 : (if (d : Int) - (s : Int) < (if n < 0 then 0 else n) then (d : Int) - (s : Int) else if n < 0 then 0 else n) = (takeT n s d : Int) := by unfold takeT; repeat (split <;> try omega)
    rw [if_neg c]
    generalize hT : takeT n s d = T at e0 e1 ⊢
    have hq : tryT n s d tr = if s + T < d then IntKind.i64.wrap (tr + 1) else tr := by unfold tryT; rw [hT]
    rw [IntWalk.i64_left] at hq
    generalize tryT n s d tr = Z at hq ⊢
    have s2 : IntKind.i64.wrap ((s : Int) + (T : Int)) = ((s + T : Nat) : Int) := by rw [IntWalk.i64_in _ (by omega)]; omega
    go_enter Tryz.func127, Tryz.ntmps127
    go_wp2_with fail
    refine wp_region_later w.heap.size (by kernel_rfl) (by kernel_rfl) ?_
    have hu : ∀ u : Later w.heap.size w, Below w.heap.size w u.world := Later.below
    repeat (go_big_quiet_step ((fail)))
    refine wpQuiet_nil ?_
    intro w1 hb1
    clear hu
    go_wp2_with fail
    refine wp_region_later_tail w1.heap.size 19 (by kernel_rfl) (by kernel_rfl) ?_
    simp only [List.take_succ_cons, List.take_zero, List.drop_succ_cons, List.drop_zero]
    have hu : ∀ u : Later w1.heap.size w1, Below w.heap.size w u.world := fun u => hb1.up u.below
    repeat (go_big_quiet_step ((fail)))
    refine wpQuiet_nil ?_
    intro w2 hb2
    clear hu
    have hb := hb1.up hb2
    go_upto_region 5 with fail
    generalize hw3 : w2.setCell ⟨b, 2, none⟩ _ = w3
    have k3 : Pnd w3 b out t ((s + T : Nat) : Int) d tr := hw3 ▸ pnd2 (Blk.later h hb) (by omega)
    have g3 : w.grownBy w3 (some b) := hw3 ▸ only3 hb
    clear hw3 hb hb1 hb2 d0 hr
    have d3 := Blk.at5 k3
    have hr := Below.refl w3.heap.size w3
    refine wp_region_later w3.heap.size (by kernel_rfl) (by kernel_rfl) ?_
    have hu : ∀ u : Later w3.heap.size w3, Below w3.heap.size w3 u.world := Later.below
    repeat (go_big_quiet_step ((fail)))
    refine wpQuiet_nil ?_
    intro w4 hb4
    clear hu
    have k4 := Blk.later k3 hb4
    have g4 := only_trans g3 (only_below hb4 (some b))
    have e5 : (0 : Int) ≤ (s : Int) := by omega
    have e6 : (s : Int) ≤ ((s + T : Nat) : Int) := by omega
    have e7 : ((s + T : Nat) : Int) ≤ (t.size : Int) := by omega
    by_cases c2 : s + T < d
    · rw [if_pos c2] at hq
      have hq' := hq.symm
      clear hq
      have c3 : ((s + T : Nat) : Int) < (d : Int) := by omega
      have d4 := Blk.at5 k4
      clear d3 hr
      have hr := Below.refl w4.heap.size w4
      go_upto_region 7 with fail
      generalize hw5 : w4.setCell ⟨b, 4, none⟩ _ = w5
      have k5 : Pnd w5 b out t ((s + T : Nat) : Int) d Z := hw5 ▸ pnd4 k4 (by first | rfl | exact hq'.symm)
      have g5 : w.grownBy w5 (some b) := hw5 ▸ only_setCell (p := ⟨b, 4, none⟩) g4 (.inl rfl) _
      clear hw5 d4 hr hb4 k3
      have d5 := Blk.at5 k5
      have k6 : Pnd w5 b out t ((s : Int) + (T : Int)) d Z := by rw [← Int.natCast_add]; exact k5
      have hr := Below.refl w5.heap.size w5
      go_quiet (fail)
      go_wp2_with fail
      all_goals (
        go_ret
        exact ⟨rfl, Blk.drewN k6 _, only_trans g5 (only_below (below_drewN (Below.refl _ _) _) _)⟩)
    · rw [if_neg c2] at hq
      subst hq
      have k6 : Pnd w4 b out t ((s : Int) + (T : Int)) d Z := by rw [← Int.natCast_add]; exact k4
      have c3 : ¬ ((s + T : Nat) : Int) < (d : Int) := by omega
      have d4 := Blk.at5 k4
      clear d3 hr
      have hr := Below.refl w4.heap.size w4
      go_upto_region 7 with fail
      go_quiet (fail)
      go_wp2_with fail
      all_goals (
        go_ret
        exact ⟨rfl, Blk.drewN k6 _, only_trans g4 (only_below (below_drewN (Below.refl _ _) _) _)⟩)

/-! What no writer tells. -/
end Go.Proofs.YtbhgmccaecmpjaaGreat
