/-
  Contracts of package cost and of its reference: which setups may be, and what a step costs.
  Conditions: the numbers are of their Go kinds.
-/
import Derived.Test.YtbhgmccaecmpjaaGreatW01
import Derived.Test.YtbhgmccaecmpjaaGreatW02
import Derived.Test.YtbhgmccaecmpjaaGreatW17
import Derived.Test.YtbhgmccaecmpjaaGreatW18
namespace Go.Proofs.YtbhgmccaecmpjaaGreat
set_option linter.unusedVariables false
set_option linter.unusedSimpArgs false
open Go.RowKit

def inB (n m : Int) : Bool := decide (1 ≤ n ∧ n ≤ m)
def goodB (l r n o q v : Int) : Bool := inB r 4096 && inB n 4096 && inB o 4096 && inB l 1024 && inB q 1000000 && inB v 64
theorem goodB_iff {l r n o q v : Int} : goodB l r n o q v = true ↔ (1 ≤ l ∧ l ≤ 1024) ∧ (1 ≤ r ∧ r ≤ 4096) ∧ (1 ≤ n ∧ n ≤ 4096) ∧ (1 ≤ o ∧ o ≤ 4096) ∧ (1 ≤ q ∧ q ≤ 1000000) ∧ (1 ≤ v ∧ v ≤ 64) := by
  unfold goodB inB
  simp only [Bool.and_eq_true, decide_eq_true_eq]
  omega

theorem cIn (n m : Int) (w : World) : Calls Tryz.prog 69 #[.int .i64 n, .int .i64 m] w fun e w' => e = .returned (.bool (inB n m)) ∧ w = w' := by
  by_cases h : 1 ≤ n
  · have e : inB n m = decide (n ≤ m) := by unfold inB; simp [h]
    rw [e]
    go_enter Tryz.func69, Tryz.ntmps69
    go_wp2
    go_ret
    exact ⟨rfl, rfl⟩
  · have e : inB n m = false := by unfold inB; simp; omega
    rw [e]
    go_enter Tryz.func69, Tryz.ntmps69
    go_wp2
    go_ret
    exact ⟨rfl, rfl⟩
theorem cInV {n m : Int} {b : Bool} (h : inB n m = b) (w : World) : Calls Tryz.prog 69 #[.int .i64 n, .int .i64 m] w fun e w' => e = .returned (.bool b) ∧ w = w' := by
  rw [← h]; exact cIn n m w

set_option maxHeartbeats 1000000 in
theorem cgood_no (l r n o q v : Int) (w : World) (h : goodB l r n o q v = false) : Calls Tryz.prog 39 #[.agg #[.int .i64 l, .int .i64 r, .int .i64 n, .int .i64 o, .int .i64 q, .int .i64 v]] w fun e w' => e = .returned (.bool false) ∧ Below w.heap.size w w' := by
  cases h1 : inB r 4096
  rotate_left
  cases h2 : inB n 4096
  rotate_left
  cases h3 : inB o 4096
  rotate_left
  cases h4 : inB l 1024
  rotate_left
  cases h5 : inB q 1000000
  rotate_left
  cases h6 : inB v 64
  rotate_left
  · exfalso; unfold goodB at h; rw [h1, h2, h3, h4, h5, h6] at h; cases h
  all_goals
    clear h
    go_enter Tryz.func39, Tryz.ntmps39
    go_wp2_with (go_at_call 69; (first | with_reducible refine (cInV h1 _).mono ?_ | with_reducible refine (cInV h2 _).mono ?_ | with_reducible refine (cInV h3 _).mono ?_ | with_reducible refine (cInV h4 _).mono ?_ | with_reducible refine (cInV h5 _).mono ?_ | with_reducible refine (cInV h6 _).mono ?_); rintro e w' ⟨rfl, rfl⟩)
    go_ret
    exact ⟨rfl, (Below.refl _ _).alloc (Nat.le_refl _) _⟩
theorem cgood_yes (l r n o q v : Int) (w : World) (h : goodB l r n o q v = true) : Calls Tryz.prog 39 #[.agg #[.int .i64 l, .int .i64 r, .int .i64 n, .int .i64 o, .int .i64 q, .int .i64 v]] w fun e w' => e = .returned (.bool true) ∧ Below w.heap.size w w' := by
  unfold goodB at h
  simp only [Bool.and_eq_true] at h
  obtain ⟨⟨⟨⟨⟨h1, h2⟩, h3⟩, h4⟩, h5⟩, h6⟩ := h
  go_enter Tryz.func39, Tryz.ntmps39
  go_wp2_with (go_at_call 69; (first | with_reducible refine (cInV h1 _).mono ?_ | with_reducible refine (cInV h2 _).mono ?_ | with_reducible refine (cInV h3 _).mono ?_ | with_reducible refine (cInV h4 _).mono ?_ | with_reducible refine (cInV h5 _).mono ?_ | with_reducible refine (cInV h6 _).mono ?_); rintro e w' ⟨rfl, rfl⟩)
  go_ret
  exact ⟨rfl, (Below.refl _ _).alloc (Nat.le_refl _) _⟩
theorem cgood (l r n o q v : Int) (w : World) : Calls Tryz.prog 39 #[.agg #[.int .i64 l, .int .i64 r, .int .i64 n, .int .i64 o, .int .i64 q, .int .i64 v]] w fun e w' => e = .returned (.bool (goodB l r n o q v)) ∧ Below w.heap.size w w' := by
  cases h : goodB l r n o q v
  · exact cgood_no _ _ _ _ _ _ _ h
  · exact cgood_yes _ _ _ _ _ _ _ h

theorem cGood (l r n o q v : Int) (w : World) : Calls Tryz.prog 20 #[.agg #[.int .i64 l, .int .i64 r, .int .i64 n, .int .i64 o, .int .i64 q, .int .i64 v]] w fun e w' => e = .returned (.bool (goodB l r n o q v)) ∧ Below w.heap.size w w' := by
  go_enter Tryz.func20, Tryz.ntmps20
  go_wp2_with fail
  refine (cgood _ _ _ _ _ _ _).mono ?_; rintro e w1 ⟨rfl, hb1⟩
  go_wp2_with fail
  go_ret
  exact ⟨rfl, ((Below.refl _ _).alloc (Nat.le_refl _) _).up hb1⟩

/-- The bounds of the six numbers, in the reference's order. -/
def mostL : List Int := [1024, 4096, 4096, 4096, 1000000, 64]
def inL (ls : List Int) (k : Nat) : Prop := ∀ j, j < k → ∀ a m, ls[j]? = some a → mostL[j]? = some m → 1 ≤ a ∧ a ≤ m
theorem inL_succ {ls : List Int} {k : Nat} {a m : Int} (h : inL ls k) (ha : ls[k]? = some a) (hm : mostL[k]? = some m) (h1 : 1 ≤ a) (h2 : a ≤ m) : inL ls (k + 1) := by
  intro j hj a' m' ha' hm'
  by_cases e : j = k
  · subst e; rw [ha] at ha'; rw [hm] at hm'; cases ha'; cases hm'; exact ⟨h1, h2⟩
  · exact h j (by omega) a' m' ha' hm'
theorem inL_all {l r n o q v : Int} (h : inL [l, r, n, o, q, v] 6) : goodB l r n o q v = true := by
  rw [goodB_iff]
  exact ⟨h 0 (by omega) _ _ rfl rfl, h 1 (by omega) _ _ rfl rfl, h 2 (by omega) _ _ rfl rfl, h 3 (by omega) _ _ rfl rfl, h 4 (by omega) _ _ rfl rfl, h 5 (by omega) _ _ rfl rfl⟩
theorem inL_not {l r n o q v : Int} {k : Nat} {a m : Int} (hk : k < 6) (ha : [l, r, n, o, q, v][k]? = some a) (hm : mostL[k]? = some m) (h : a < 1 ∨ m < a) : goodB l r n o q v = false := by
  cases hg : goodB l r n o q v
  · rfl
  · exfalso
    rw [goodB_iff] at hg
    unfold mostL at hm
    match k, hk with
    | 0, _ => simp at ha hm; omega
    | 1, _ => simp at ha hm; omega
    | 2, _ => simp at ha hm; omega
    | 3, _ => simp at ha hm; omega
    | 4, _ => simp at ha hm; omega
    | 5, _ => simp at ha hm; omega

theorem mostL_get {k : Nat} (hk : k < 6) : ∃ m, mostL[k]? = some m ∧ 1 ≤ m ∧ m ≤ 1000000 := by
  unfold mostL
  match k, hk with
  | 0, _ => exact ⟨_, rfl, by omega, by omega⟩
  | 1, _ => exact ⟨_, rfl, by omega, by omega⟩
  | 2, _ => exact ⟨_, rfl, by omega, by omega⟩
  | 3, _ => exact ⟨_, rfl, by omega, by omega⟩
  | 4, _ => exact ⟨_, rfl, by omega, by omega⟩
  | 5, _ => exact ⟨_, rfl, by omega, by omega⟩
theorem i64s_at {w : World} {b : Nat} {xs : List Int} (h : I64s w b 0 xs) {k : Nat} {a : Int} (ha : xs[k]? = some a) : w.cell? ⟨b, k, none⟩ = some (.int .i64 a) := by
  obtain ⟨hk, e⟩ := List.getElem?_eq_some_iff.1 ha
  have := h k hk
  rw [e, Nat.zero_add] at this
  exact this

set_option maxHeartbeats 1000000 in
theorem rGood (l r n o q v : Int) (w : World) : Calls Tryz.prog 5 #[.agg #[.int .i64 l, .int .i64 r, .int .i64 n, .int .i64 o, .int .i64 q, .int .i64 v]] w fun e w' => e = .returned (.bool (goodB l r n o q v)) ∧ Below w.heap.size w w' := by
  go_enter Tryz.func5, Tryz.ntmps5
  go_upto_region 2 with fail
  go_cut [3, 4, 5] (fun s3 s4 s5 wx => ∃ b1 b2 : Nat, s5 = .int .i64 0 ∧ s3 = .slice (some ⟨b1, 0, none⟩) 6 6 ∧ s4 = .slice (some ⟨b2, 0, none⟩) 6 6 ∧ I64s wx b1 0 [l, r, n, o, q, v] ∧ I64s wx b2 0 mostL ∧ Below w.heap.size w wx)
  case first =>
    go_wp2_with fail
    go_meet
    refine ⟨_, _, rfl, rfl, rfl, ?_, ?_, by (repeat' (first | exact Below.refl _ _ | assumption | apply Below.drew | apply below_drewN | refine Below.setCell ?_ (by first | assumption | (simp; done) | (simp <;> omega)) _ | refine Below.alloc ?_ (by first | exact Nat.le_refl _ | assumption | (simp; done) | (simp <;> omega)) _))⟩
    · intro k hk
      match k, hk with
      | 0, _ => simp [go_sem]
      | 1, _ => simp [go_sem]
      | 2, _ => simp [go_sem]
      | 3, _ => simp [go_sem]
      | 4, _ => simp [go_sem]
      | 5, _ => simp [go_sem]
    · intro k hk
      match k, hk with
      | 0, _ => simp [go_sem, mostL]
      | 1, _ => simp [go_sem, mostL]
      | 2, _ => simp [go_sem, mostL]
      | 3, _ => simp [go_sem, mostL]
      | 4, _ => simp [go_sem, mostL]
      | 5, _ => simp [go_sem, mostL]
  case rest =>
    obtain ⟨b1, b2, rfl, rfl, rfl, k1, k2, hb⟩ := hcut
    have K1 := Lib.hid k1
    have K2 := Lib.hid k2
    clear k1 k2
    go_wp2_with fail
    go_loopw [5] (fun i wr => ∃ k : Nat, k ≤ 6 ∧ i = .int .i64 k ∧ inL [l, r, n, o, q, v] k ∧ Below wc.heap.size wc wr) (fun i _ => 6 - (intOf i).toNat)
    case atStart => exact ⟨0, by omega, rfl, fun j hj => absurd hj (by omega), Below.refl _ _⟩
    case round =>
      obtain ⟨k, hk, rfl, hin, hbr⟩ := hrel
      by_cases hlt : k < 6
      · obtain ⟨a, ha⟩ : ∃ a, [l, r, n, o, q, v][k]? = some a := ⟨_, List.getElem?_eq_getElem (by simpa using hlt)⟩
        obtain ⟨m, hm, _, _⟩ := mostL_get hlt
        have f1 : ∀ w', Below wc.heap.size wc w' → w'.cell? ⟨b1, k, none⟩ = some (.int .i64 a) := fun w' h => (h.cell (p := ⟨b1, k, none⟩) (block_lt (i64s_at K1.out ha))).trans (i64s_at K1.out ha)
        have f2 : ∀ w', Below wc.heap.size wc w' → w'.cell? ⟨b2, k, none⟩ = some (.int .i64 m) := fun w' h => (h.cell (p := ⟨b2, k, none⟩) (block_lt (i64s_at K2.out hm))).trans (i64s_at K2.out hm)
        have HA := Lib.hid ha
        have HM := Lib.hid hm
        have HI := Lib.hid hin
        clear ha hm hin
        have e0 : (0 : Int) ≤ (k : Int) := by omega
        have e1 : (k : Int) < 6 := by omega
        have hu : ∀ u : Later wr.heap.size wr, Below wc.heap.size wc u.world := fun u => hbr.up u.below
        by_cases h1 : a < 1
        · go_wp2_with fail
          refine wp_region_later wr.heap.size (by kernel_rfl) (by kernel_rfl) ?_
          repeat (go_big_quiet_step ((fail)))
          refine wpQuiet_nil ?_
          intro w1 hb1
          go_wp2_with fail
          go_ret
          exact ⟨ret_bool (inL_not hlt HA.out HM.out (.inl h1)).symm, (hb.up hbr).up hb1⟩
        · have h1' : decide (a < 1) = false := by simpa using h1
          by_cases h2 : m < a
          · go_wp2_with fail
            refine wp_region_later wr.heap.size (by kernel_rfl) (by kernel_rfl) ?_
            repeat (go_big_quiet_step ((fail)))
            refine wpQuiet_nil ?_
            intro w1 hb1
            go_wp2_with fail
            go_ret
            exact ⟨ret_bool (inL_not hlt HA.out HM.out (.inr h2)).symm, (hb.up hbr).up hb1⟩
          · have h2' : decide (m < a) = false := by simpa using h2
            go_wp2_with fail
            refine wp_region_later wr.heap.size (by kernel_rfl) (by kernel_rfl) ?_
            repeat (go_big_quiet_step ((fail)))
            refine wpQuiet_nil ?_
            intro w1 hb1
            go_wp2_with fail
            go_roundw
            case rel => exact ⟨k + 1, by omega, by go_num, inL_succ HI.out HA.out HM.out (by omega) (by omega), hbr.up hb1⟩
            case measure => simp [intOf]; omega
      · obtain rfl : k = 6 := by omega
        have HI := Lib.hid (inL_all hin)
        clear hin
        go_wp2
        go_ret
        exact ⟨ret_bool HI.out.symm, hb.up hbr⟩
end Go.Proofs.YtbhgmccaecmpjaaGreat

namespace Go.Proofs.YtbhgmccaecmpjaaGreat
set_option linter.unusedVariables false
set_option linter.unusedSimpArgs false
open Go.RowKit

/-- What a dialogue's block holds. -/
structure DC where
  l : Int
  r : Int
  n : Int
  o : Int
  q : Int
  v : Int
  nm : ByteArray
  dl : Int
  jm : Int
  ov : Value
  at_ : Int
  st : Int
  ju : Int
  un : Int
  li : Int
  cu : Int
  rx : Nat
  hx : Nat
  px : Nat
  eof : Bool
  now : Int
def DC.cells (d : DC) : Array Value := #[.int .i64 d.l, .int .i64 d.r, .int .i64 d.n, .int .i64 d.o, .int .i64 d.q, .int .i64 d.v, .string d.nm, .int .i64 d.dl, .int .i64 d.jm, d.ov, .int .i64 d.at_, .int .i64 d.st, .int .i64 d.ju, .int .i64 d.un, .int .i64 d.li, .int .i64 d.cu, .pointer (some ⟨d.rx, 0, none⟩), .pointer (some ⟨d.hx, 0, none⟩), .pointer (some ⟨d.px, 0, none⟩), .bool d.eof, .int .i64 d.now]
abbrev DiB (w : World) (x : Nat) (d : DC) : Prop := Blk w x 168 d.cells
theorem DiB.at_ {w : World} {x : Nat} {d : DC} (h : DiB w x d) : ∀ w', Below w.heap.size w w' → w'.cell? ⟨x, 0, none⟩ = some (.int .i64 d.l) ∧ w'.cell? ⟨x, 1, none⟩ = some (.int .i64 d.r) ∧ w'.cell? ⟨x, 2, none⟩ = some (.int .i64 d.n) ∧ w'.cell? ⟨x, 3, none⟩ = some (.int .i64 d.o) ∧ w'.cell? ⟨x, 4, none⟩ = some (.int .i64 d.q) ∧ w'.cell? ⟨x, 5, none⟩ = some (.int .i64 d.v) ∧ w'.cell? ⟨x, 6, none⟩ = some (.string d.nm) ∧ w'.cell? ⟨x, 7, none⟩ = some (.int .i64 d.dl) ∧ w'.cell? ⟨x, 8, none⟩ = some (.int .i64 d.jm) ∧ w'.cell? ⟨x, 9, none⟩ = some (d.ov) ∧ w'.cell? ⟨x, 10, none⟩ = some (.int .i64 d.at_) ∧ w'.cell? ⟨x, 11, none⟩ = some (.int .i64 d.st) ∧ w'.cell? ⟨x, 12, none⟩ = some (.int .i64 d.ju) ∧ w'.cell? ⟨x, 13, none⟩ = some (.int .i64 d.un) ∧ w'.cell? ⟨x, 14, none⟩ = some (.int .i64 d.li) ∧ w'.cell? ⟨x, 15, none⟩ = some (.int .i64 d.cu) ∧ w'.cell? ⟨x, 16, none⟩ = some (.pointer (some ⟨d.rx, 0, none⟩)) ∧ w'.cell? ⟨x, 17, none⟩ = some (.pointer (some ⟨d.hx, 0, none⟩)) ∧ w'.cell? ⟨x, 18, none⟩ = some (.pointer (some ⟨d.px, 0, none⟩)) ∧ w'.cell? ⟨x, 19, none⟩ = some (.bool d.eof) ∧ w'.cell? ⟨x, 20, none⟩ = some (.int .i64 d.now) ∧ ∀ i, w'.frozen? ⟨x, i, none⟩ = false := fun w' hb => by
  have hk : Blk w' x 168 d.cells := Blk.later h hb
  exact ⟨hk.cell 0, hk.cell 1, hk.cell 2, hk.cell 3, hk.cell 4, hk.cell 5, hk.cell 6, hk.cell 7, hk.cell 8, hk.cell 9, hk.cell 10, hk.cell 11, hk.cell 12, hk.cell 13, hk.cell 14, hk.cell 15, hk.cell 16, hk.cell 17, hk.cell 18, hk.cell 19, hk.cell 20, fun i => hk.frozen i⟩
theorem DiB.setAt {w : World} {x : Nat} {d : DC} (h : DiB w x d) (i : Int) : DiB (w.setCell ⟨x, 10, none⟩ (.int .i64 i)) x { d with at_ := i } := Blk.set_ h 10 _
theorem DiB.setSt {w : World} {x : Nat} {d : DC} (h : DiB w x d) (i : Int) : DiB (w.setCell ⟨x, 11, none⟩ (.int .i64 i)) x { d with st := i } := Blk.set_ h 11 _
theorem DiB.setJu {w : World} {x : Nat} {d : DC} (h : DiB w x d) (i : Int) : DiB (w.setCell ⟨x, 12, none⟩ (.int .i64 i)) x { d with ju := i } := Blk.set_ h 12 _
theorem DiB.setDue {w : World} {x : Nat} {d : DC} (h : DiB w x d) (i j k : Int) : DiB (((w.setCell ⟨x, 13, none⟩ (.int .i64 i)).setCell ⟨x, 14, none⟩ (.int .i64 j)).setCell ⟨x, 15, none⟩ (.int .i64 k)) x { d with un := i, li := j, cu := k } := Blk.set_ (Blk.set_ (Blk.set_ h 13 _) 14 _) 15 _
theorem DiB.setIn {w : World} {x : Nat} {d : DC} (h : DiB w x d) (i : Nat) : DiB (w.setCell ⟨x, 16, none⟩ (.pointer (some ⟨i, 0, none⟩))) x { d with rx := i } := Blk.set_ h 16 _
theorem DiB.setWin {w : World} {x : Nat} {d : DC} (h : DiB w x d) (i : Nat) : DiB (w.setCell ⟨x, 17, none⟩ (.pointer (some ⟨i, 0, none⟩))) x { d with hx := i } := Blk.set_ h 17 _
theorem DiB.setOut {w : World} {x : Nat} {d : DC} (h : DiB w x d) (i : Nat) : DiB (w.setCell ⟨x, 18, none⟩ (.pointer (some ⟨i, 0, none⟩))) x { d with px := i } := Blk.set_ h 18 _
theorem DiB.setNow {w : World} {x : Nat} {d : DC} (h : DiB w x d) (i : Int) : DiB (w.setCell ⟨x, 20, none⟩ (.int .i64 i)) x { d with now := i } := Blk.set_ h 20 _

/-- An op of a script. -/
inductive OpT where
  | send (t : ByteArray)
  | expect (n : Int) (a : Option (ByteArray × Nat))
  | pause (n : Int)
def OpT.kind : OpT → Int
  | .send _ => 1
  | .expect _ _ => 2
  | .pause _ => 4
def OpT.text : OpT → ByteArray
  | .send t => t
  | .expect _ _ => ⟨#[]⟩
  | .pause _ => ⟨#[]⟩
def OpT.num : OpT → Int
  | .send _ => 0
  | .expect n _ => n
  | .pause n => n
def OpT.els : OpT → Int
  | .expect _ _ => -1
  | _ => 0
/-- The value of its arms, which lie in block ag. -/
def OpT.arms (ag ac : Nat) : OpT → Value
  | .expect _ (some _) => .slice (some ⟨ag, 0, none⟩) 1 ac
  | _ => .slice none 0 0
def OpT.cells (o : OpT) (ag ac : Nat) : List Value := [.int .i64 o.kind, .string o.text, .int .i64 o.num, .int .i64 0, o.arms ag ac, .int .i64 o.els, .int .i64 o.els]
def OpT.val (o : OpT) (ag ac : Nat) : Value := .agg (o.cells ag ac).toArray
/-- Where a script of two ops lies. -/
structure SB2 where
  g : Nat
  c : Nat
  a0 : Nat
  c0 : Nat
  a1 : Nat
  c1 : Nat
/-- An op's arms. -/
def ArmC (w : World) (ag : Nat) (o : OpT) : Prop := ∀ n p k, o = .expect n (some (p, k)) → ag < w.heap.size ∧ w.cell? ⟨ag, 0, none⟩ = some (.string p) ∧ w.cell? ⟨ag, 1, none⟩ = some (.int .i64 (k : Nat))
structure Scr (w : World) (b : SB2) (o0 o1 : OpT) : Prop where
  row : ∀ (i : Nat) v, (o0.cells b.a0 b.c0 ++ o1.cells b.a1 b.c1)[i]? = some v → w.cell? ⟨b.g, i, none⟩ = some v
  lt : b.g < w.heap.size
  arm0 : ArmC w b.a0 o0
  arm1 : ArmC w b.a1 o1
/-- The blocks of a script. -/
def SB2.in_ (b : SB2) (o0 o1 : OpT) (i : Nat) : Prop := i = b.g ∨ ((∃ n p k, o0 = .expect n (some (p, k))) ∧ i = b.a0) ∨ ((∃ n p k, o1 = .expect n (some (p, k))) ∧ i = b.a1)
theorem cell_same {w w' : World} {g i : Nat} (h : w'.heap[g]? = w.heap[g]?) : w'.cell? ⟨g, i, none⟩ = w.cell? ⟨g, i, none⟩ := by unfold World.cell?; simp only [h]
section
variable {w w' : World} {b : SB2} {o0 o1 o : OpT} {F : Nat → Prop} {ag : Nat}
theorem ArmC.later (h : ArmC w ag o) (k : Below w.heap.size w w') : ArmC w' ag o := fun n p j e => by
  obtain ⟨l, h1, h2⟩ := h n p j e
  exact ⟨Nat.lt_of_lt_of_le l k.size, (cell_same (k.block _ l)).trans h1, (cell_same (k.block _ l)).trans h2⟩
theorem ArmC.foot (h : ArmC w ag o) (k : Foot F w w') (hg : (∃ n p k, o = .expect n (some (p, k))) → ¬ F ag) : ArmC w' ag o := fun n p j e => by
  obtain ⟨l, h1, h2⟩ := h n p j e
  have hb := k.block _ l (hg ⟨n, p, j, e⟩)
  exact ⟨Nat.lt_of_lt_of_le l k.size, (cell_same hb).trans h1, (cell_same hb).trans h2⟩
theorem Scr.later (h : Scr w b o0 o1) (k : Below w.heap.size w w') : Scr w' b o0 o1 := ⟨fun i v e => (cell_same (k.block _ h.lt)).trans (h.row i v e), Nat.lt_of_lt_of_le h.lt k.size, h.arm0.later k, h.arm1.later k⟩
theorem Scr.foot (h : Scr w b o0 o1) (k : Foot F w w') (hF : ∀ i, b.in_ o0 o1 i → ¬ F i) : Scr w' b o0 o1 :=
  ⟨fun i v e => (cell_same (k.block _ h.lt (hF _ (.inl rfl)))).trans (h.row i v e), Nat.lt_of_lt_of_le h.lt k.size, h.arm0.foot k (fun e => hF _ (.inr (.inl ⟨e, rfl⟩))), h.arm1.foot k (fun e => hF _ (.inr (.inr ⟨e, rfl⟩)))⟩
theorem Scr.in_lt (h : Scr w b o0 o1) : ∀ i, b.in_ o0 o1 i → i < w.heap.size := by
  rintro i (rfl | ⟨⟨n, p, j, e⟩, rfl⟩ | ⟨⟨n, p, j, e⟩, rfl⟩)
  · exact h.lt
  · exact (h.arm0 n p j e).1
  · exact (h.arm1 n p j e).1
end
theorem below_set7 {B g : Nat} {a w : World} (h : Below B a w) (hg : B ≤ g) (x0 x1 x2 x3 x4 x5 x6 : Value) : Below B a (((((((w.setCell ⟨g, 0, none⟩ x0).setCell ⟨g, 1, none⟩ x1).setCell ⟨g, 2, none⟩ x2).setCell ⟨g, 3, none⟩ x3).setCell ⟨g, 4, none⟩ x4).setCell ⟨g, 5, none⟩ x5).setCell ⟨g, 6, none⟩ x6) :=
  ((below_set5 h hg x0 x1 x2 x3 x4).setCell (p := ⟨g, 5, none⟩) hg x5).setCell (p := ⟨g, 6, none⟩) hg x6
end Go.Proofs.YtbhgmccaecmpjaaGreat

namespace Go.Proofs.YtbhgmccaecmpjaaGreat
set_option linter.unusedVariables false
set_option linter.unusedSimpArgs false
open Go.RowKit

set_option maxRecDepth 100000 in
set_option maxHeartbeats 4000000 in
theorem diRuns {w : World} {x : Nat} {d : DC} {b : Bool} (h : DiB w x d) (hb : (d.st == 0) = b) : Calls Tryz.prog 94 #[.pointer (some ⟨x, 0, none⟩)] w fun e w' => e = .returned (.bool b) ∧ w = w' := by
  have h0 : ∀ w', Below w.heap.size w w' → w'.cell? ⟨x, 11, none⟩ = some (.int .i64 d.st) := fun w' hb => (Blk.later h hb).cell 11
  have hr := Below.refl w.heap.size w
  clear h
  go_enter Tryz.func94, Tryz.ntmps94
  go_wp2_with fail
  go_ret
  exact ⟨by first | rfl | (rw [← hb]), rfl⟩
/-- The op behind the last one. -/
def endOp : Value := .agg #[.int .i64 0, .string ⟨#[]⟩, .int .i64 0, .int .i64 0, .slice none 0 0, .int .i64 0, .int .i64 0]
set_option maxRecDepth 100000 in
set_option maxHeartbeats 4000000 in
theorem diOp2 {w : World} {x : Nat} {d : DC} {g c : Nat} (h : DiB w x d) (ho : d.ov = .slice (some ⟨g, 0, none⟩) 2 c) (ha : d.at_ = 2) : Calls Tryz.prog 98 #[.pointer (some ⟨x, 0, none⟩)] w fun e w' => e = .returned endOp ∧ Below w.heap.size w w' := by
  have h0 : ∀ w', Below w.heap.size w w' → w'.cell? ⟨x, 10, none⟩ = some (.int .i64 2) ∧ w'.cell? ⟨x, 9, none⟩ = some (.slice (some ⟨g, 0, none⟩) 2 c) := fun w' hb => by
    have k := Blk.later h hb
    exact ⟨(k.cell 10).trans (by show some (Value.int IntKind.i64 d.at_) = _; rw [ha]), (k.cell 9).trans (by show some d.ov = _; rw [ho])⟩
  clear h
  obtain ⟨q, hq⟩ : ∃ q, w.heap.size = q := ⟨_, rfl⟩
  obtain ⟨w1, hw1⟩ : ∃ w1, w1 = w.alloc (.cells #[.int .i64 0, .string ⟨#[]⟩, .int .i64 0, .int .i64 0, .slice none 0 0, .int .i64 0, .int .i64 0] 29) := ⟨_, rfl⟩
  have b1 : Below w.heap.size w w1 := by rw [hw1]; exact Below.alloc (Below.refl _ _) (Nat.le_refl _) _
  have K1 : Blk w1 q 29 #[.int .i64 0, .string ⟨#[]⟩, .int .i64 0, .int .i64 0, .slice none 0 0, .int .i64 0, .int .i64 0] := by rw [hw1, ← hq]; exact Blk.new _ _ _
  have h1 := fun w' hb => h0 w' (b1.up hb)
  have HW1 := Lib.hid hw1
  have HQ := Lib.hid hq
  have hlo : w.heap.size ≤ q := by rw [hq]; exact Nat.le_refl _
  have HLO := Lib.hid hlo
  clear hw1 hq h0 hlo
  go_enter Tryz.func98, Tryz.ntmps98
  go_upto_region 1 with fail
  rw [← HW1.out, HQ.out]
  have hr := Below.refl w1.heap.size w1
  refine wp_region_later w1.heap.size (by kernel_rfl) (by kernel_rfl) ?_
  have hu : ∀ u : Later w1.heap.size w1, Below w1.heap.size w1 u.world := Later.below
  repeat (go_big_quiet_step ((fail)))
  refine wpQuiet_nil ?_
  intro w2 b2
  have K2 := K1.later b2
  clear h1 hr hu
  have dq := K2.at7
  have hr := Below.refl w2.heap.size w2
  go_wp2_with fail
  (try simp only [Exit.inBlock, Exit.then])
  refine bodyPost_ret (v := endOp) ?_ rfl ⟨rfl, ?_⟩
  · rw [results_cell_one rfl]
    go_simp
    rfl
  · exact below_set7 (b1.up b2) HLO.out _ _ _ _ _ _ _
set_option maxRecDepth 100000 in
set_option maxHeartbeats 4000000 in
theorem diOpV {w : World} {x : Nat} {d : DC} {g c k : Nat} {a0 a2 a3 a5 a6 : Int} {s1 : ByteArray} {ao : Option Addr} {mm cc : Nat} (h : DiB w x d) (ho : d.ov = .slice (some ⟨g, 0, none⟩) 2 c) (ha : d.at_ = (k : Nat)) (hk : k < 2)
    (hc : ∀ w', Below w.heap.size w w' → w'.cell? ⟨g, k * 7, none⟩ = some (.int .i64 a0) ∧ w'.cell? ⟨g, k * 7 + 1, none⟩ = some (.string s1) ∧ w'.cell? ⟨g, k * 7 + 2, none⟩ = some (.int .i64 a2) ∧ w'.cell? ⟨g, k * 7 + 3, none⟩ = some (.int .i64 a3) ∧ w'.cell? ⟨g, k * 7 + 4, none⟩ = some (.slice ao mm cc) ∧ w'.cell? ⟨g, k * 7 + 5, none⟩ = some (.int .i64 a5) ∧ w'.cell? ⟨g, k * 7 + 6, none⟩ = some (.int .i64 a6)) :
    Calls Tryz.prog 98 #[.pointer (some ⟨x, 0, none⟩)] w fun e w' => e = .returned (.agg #[.int .i64 a0, .string s1, .int .i64 a2, .int .i64 a3, .slice ao mm cc, .int .i64 a5, .int .i64 a6]) ∧ Below w.heap.size w w' := by
  have h0 : ∀ w', Below w.heap.size w w' → w'.cell? ⟨x, 10, none⟩ = some (.int .i64 (k : Nat)) ∧ w'.cell? ⟨x, 9, none⟩ = some (.slice (some ⟨g, 0, none⟩) 2 c) := fun w' hb => by
    have k := Blk.later h hb
    exact ⟨(k.cell 10).trans (by show some (Value.int IntKind.i64 d.at_) = _; rw [ha]), (k.cell 9).trans (by show some d.ov = _; rw [ho])⟩
  clear h
  have e1 : ¬ (2 : Int) ≤ (k : Int) := by omega
  have e2 : (k : Int) < 2 := by omega
  obtain ⟨q, hq⟩ : ∃ q, w.heap.size = q := ⟨_, rfl⟩
  obtain ⟨w1, hw1⟩ : ∃ w1, w1 = w.alloc (.cells #[.int .i64 0, .string ⟨#[]⟩, .int .i64 0, .int .i64 0, .slice none 0 0, .int .i64 0, .int .i64 0] 29) := ⟨_, rfl⟩
  have b1 : Below w.heap.size w w1 := by rw [hw1]; exact Below.alloc (Below.refl _ _) (Nat.le_refl _) _
  have K1 : Blk w1 q 29 #[.int .i64 0, .string ⟨#[]⟩, .int .i64 0, .int .i64 0, .slice none 0 0, .int .i64 0, .int .i64 0] := by rw [hw1, ← hq]; exact Blk.new _ _ _
  have h1 := fun w' hb => h0 w' (b1.up hb)
  have HC := Lib.hid (fun w' (hb : Below w1.heap.size w1 w') => hc w' (b1.up hb))
  have HW1 := Lib.hid hw1
  have HQ := Lib.hid hq
  have hlo : w.heap.size ≤ q := by rw [hq]; exact Nat.le_refl _
  have HLO := Lib.hid hlo
  clear hw1 hq h0 hlo hc
  go_enter Tryz.func98, Tryz.ntmps98
  go_upto_region 1 with fail
  rw [← HW1.out, HQ.out]
  have hr := Below.refl w1.heap.size w1
  refine wp_region_later w1.heap.size (by kernel_rfl) (by kernel_rfl) ?_
  have hu : ∀ u : Later w1.heap.size w1, Below w1.heap.size w1 u.world := Later.below
  repeat (go_big_quiet_step ((fail)))
  refine wpQuiet_nil ?_
  intro w2 b2
  clear hr hu
  have h2 := fun w' hb => h1 w' (b2.up hb)
  clear h1
  have hr := Below.refl w2.heap.size w2
  go_upto_region 3 with fail
  have hc2 := fun w' (hb : Below w2.heap.size w2 w') => HC.out w' (b2.up hb)
  refine wp_region_later_tail w2.heap.size 11 (by kernel_rfl) (by kernel_rfl) ?_
  simp only [List.take_succ_cons, List.take_zero, List.drop_succ_cons, List.drop_zero]
  have hu : ∀ u : Later w2.heap.size w2, Below w2.heap.size w2 u.world := Later.below
  repeat (go_big_quiet_step ((fail)))
  refine wpQuiet_nil ?_
  intro w3 b3
  have K3 := K1.later (b2.up b3)
  clear h2 hr hu hc2
  have dq := K3.at7
  have hr := Below.refl w3.heap.size w3
  go_wp2_with fail
  (try simp only [Exit.inBlock, Exit.then])
  refine bodyPost_ret (v := .agg #[.int .i64 a0, .string s1, .int .i64 a2, .int .i64 a3, .slice ao mm cc, .int .i64 a5, .int .i64 a6]) ?_ rfl ⟨rfl, ?_⟩
  · rw [results_cell_one rfl]
    go_simp
  · exact below_set7 ((b1.up b2).up b3) HLO.out _ _ _ _ _ _ _
end Go.Proofs.YtbhgmccaecmpjaaGreat

namespace Go.Proofs.YtbhgmccaecmpjaaGreat
set_option linter.unusedVariables false
set_option linter.unusedSimpArgs false
open Go.RowKit

/-- A setup, and a script of two ops. -/
structure ScT where
  l : Nat
  r : Nat
  n : Nat
  o : Nat
  q : Nat
  v : Nat
  nm : ByteArray
  dl : Int
  jm : Nat
  o0 : OpT
  o1 : OpT
/-- A setup that may be, and ops that may. -/
structure ScT.ok (c : ScT) : Prop where
  l : 1 ≤ c.l ∧ c.l ≤ 1024
  r : 1 ≤ c.r ∧ c.r ≤ 4096
  n : 1 ≤ c.n ∧ c.n ≤ 4096
  o : 1 ≤ c.o ∧ c.o ≤ 4096
  q : 1 ≤ c.q ∧ c.q ≤ 1000000
  v : 1 ≤ c.v ∧ c.v ≤ 64
  jm : c.jm ≤ 1000
/-- How a dialogue that runs stands. -/
structure DT where
  at_ : Nat
  ju : Nat
  un : Int
  li : Int
  cu : Int
  inb : List UInt8
  win : List UInt8
  pat : Option Pat
  tx : ByteArray
  sd : Nat
  ld : Nat
  tr : Int
  now : Int
  lv : Bool
/-- Where it lies. -/
structure DB where
  x : Nat
  rx : Nat
  ra : Nat
  f : Nat
  hx : Nat
  bv : Value
  ar : AB
  px : Nat
  s : SB2
def DB.ap (b : DB) : Option Pat → Value
  | none => .pointer none
  | some _ => .pointer (some ⟨b.ar.x, 0, none⟩)
def DT.dc (t : DT) (c : ScT) (b : DB) (st : Int) : DC := ⟨c.l, c.r, c.n, c.o, c.q, c.v, c.nm, c.dl, c.jm, .slice (some ⟨b.s.g, 0, none⟩) 2 b.s.c, t.at_, st, t.ju, t.un, t.li, t.cu, b.rx, b.hx, b.px, false, t.now⟩
/-- The names of a dialogue's blocks. -/
def isD (c : Nat) : Prop := 20 ≤ c ∧ c ≤ 27
/-- .. its own names: the block, the ring, the window, the patterns, the writer, the script. -/
structure DLab (lab : Nat → Nat) (c : ScT) (b : DB) (pat : Option Pat) : Prop where
  x : lab b.x = 27
  hx : lab b.hx = 22
  row : ∀ g, b.bv.ownBlock = some g → lab g = 23
  arms : pat.isSome = true → ∀ i, b.ar.in_ i → lab i = 24
  rx : lab b.rx = 21
  ra : lab b.ra = 20
  px : lab b.px = 25
  scr : ∀ i, b.s.in_ c.o0 c.o1 i → lab i = 26
structure DiaR (w : World) (lab : Nat → Nat) (b : DB) (c : ScT) (t : DT) : Prop where
  blk : DiB w b.x (t.dc c b 0)
  rng : Rng w b.rx b.ra c.r b.f t.inb
  hol : HolV w b.hx b.bv c.n t.win.length t.win.length (b.ap t.pat)
  row : t.lv = true → OB 5 0 w b.bv t.win
  rowLt : ∀ g, b.bv.ownBlock = some g → g < w.heap.size
  arm : ∀ p, t.pat = some p → ArmS w b.ar p
  pnd : Pnd w b.px c.o t.tx t.sd t.ld t.tr
  pb : t.sd ≤ t.ld ∧ t.ld ≤ t.tx.size ∧ t.tx.size ≤ 1000000
  scr : Scr w b.s c.o0 c.o1
  lab : DLab lab c b t.pat
  ok : c.ok
section
variable {w w' : World} {lab lab' : Nat → Nat} {b : DB} {c : ScT} {t : DT} {F : Nat → Prop}
theorem DiaR.lt (h : DiaR w lab b c t) : b.x < w.heap.size ∧ b.rx < w.heap.size ∧ b.ra < w.heap.size ∧ b.hx < w.heap.size ∧ b.px < w.heap.size ∧ (∀ p, t.pat = some p → ∀ i, b.ar.in_ i → i < w.heap.size) ∧ (∀ i, b.s.in_ c.o0 c.o1 i → i < w.heap.size) := by
  refine ⟨Blk.lt h.blk, h.rng.blk.lt, ?_, h.hol.lt, Blk.lt h.pnd, fun p e => (h.arm p e).lt, h.scr.in_lt⟩
  obtain ⟨cs, hb, _⟩ := h.rng.arr; exact hb.lt
theorem DiaR.later (h : DiaR w lab b c t) (k : Below w.heap.size w w') : DiaR w' lab b c t :=
  ⟨Blk.later h.blk k, h.rng.later k, h.hol.later k, fun e => (h.row e).later k, fun g hg => Nat.lt_of_lt_of_le (h.rowLt g hg) k.size, fun p e => (h.arm p e).later k, Blk.later h.pnd k, h.pb, h.scr.later k, h.lab, h.ok⟩
/-- What has other names may turn. -/
theorem DiaR.foot (h : DiaR w lab b c t) (k : Foot F w w') (hF : ∀ i, isD (lab i) → ¬ F i) : DiaR w' lab b c t := by
  have n := h.lab
  have g : ∀ i m, lab i = m → 20 ≤ m → m ≤ 27 → ¬ F i := fun i m e h1 h2 => hF i (by rw [e]; exact ⟨h1, h2⟩)
  exact ⟨Blk.foot h.blk k (g _ _ n.x (by omega) (by omega)), h.rng.foot k (g _ _ n.rx (by omega) (by omega)) (g _ _ n.ra (by omega) (by omega)), h.hol.foot k (g _ _ n.hx (by omega) (by omega)), fun e => (h.row e).foot k (fun i hi => g _ _ (n.row i hi) (by omega) (by omega)), fun g hg => Nat.lt_of_lt_of_le (h.rowLt g hg) k.size,
    fun p e => (h.arm p e).foot k (fun i hi => g _ _ (n.arms (by rw [e]; rfl) i hi) (by omega) (by omega)), Blk.foot h.pnd k (g _ _ n.px (by omega) (by omega)), h.pb, h.scr.foot k (fun i hi => g _ _ (n.scr i hi) (by omega) (by omega)), n, h.ok⟩
theorem DiaR.relab (h : DiaR w lab b c t) (e : LabEq lab lab' w) : DiaR w lab' b c t := by
  have n := h.lab
  obtain ⟨l1, l2, l3, l4, l5, l6, l7⟩ := h.lt
  refine ⟨h.blk, h.rng, h.hol, h.row, h.rowLt, h.arm, h.pnd, h.pb, h.scr, ⟨(e _ l1).trans n.x, (e _ l4).trans n.hx, fun g hg => (e _ (h.rowLt g hg)).trans (n.row g hg), fun hp i hi => ?_, (e _ l2).trans n.rx, (e _ l3).trans n.ra, (e _ l5).trans n.px, fun i hi => (e _ (l7 i hi)).trans (n.scr i hi)⟩, h.ok⟩
  obtain ⟨p, hp'⟩ := Option.isSome_iff_exists.1 hp
  exact (e _ (l6 p hp' i hi)).trans (n.arms hp i hi)
end
/-- The op at which one is; none at the end. -/
def opAt (c : ScT) (t : DT) : Option OpT := if t.at_ = 0 then some c.o0 else if t.at_ = 1 then some c.o1 else none
/-- Its value. -/
def opVal (c : ScT) (b : DB) (t : DT) : Value := if t.at_ = 0 then c.o0.val b.s.a0 b.s.c0 else if t.at_ = 1 then c.o1.val b.s.a1 b.s.c1 else endOp
theorem arms_form (o : OpT) (ag ac : Nat) : ∃ ao m c, o.arms ag ac = .slice ao m c := by
  cases o with
  | send t => exact ⟨_, _, _, rfl⟩
  | expect n a => cases a with
    | none => exact ⟨_, _, _, rfl⟩
    | some p => exact ⟨_, _, _, rfl⟩
  | pause n => exact ⟨_, _, _, rfl⟩
theorem scr_at {w : World} {b : SB2} {o0 o1 : OpT} (h : Scr w b o0 o1) (k : Nat) (hk : k < 2) (o : OpT) (ag ac : Nat) (ho : o = if k = 0 then o0 else o1) (hag : ag = if k = 0 then b.a0 else b.a1) (hac : ac = if k = 0 then b.c0 else b.c1) :
    ∀ w', Below w.heap.size w w' → w'.cell? ⟨b.g, k * 7, none⟩ = some (.int .i64 o.kind) ∧ w'.cell? ⟨b.g, k * 7 + 1, none⟩ = some (.string o.text) ∧ w'.cell? ⟨b.g, k * 7 + 2, none⟩ = some (.int .i64 o.num) ∧ w'.cell? ⟨b.g, k * 7 + 3, none⟩ = some (.int .i64 0) ∧ w'.cell? ⟨b.g, k * 7 + 4, none⟩ = some (o.arms ag ac) ∧ w'.cell? ⟨b.g, k * 7 + 5, none⟩ = some (.int .i64 o.els) ∧ w'.cell? ⟨b.g, k * 7 + 6, none⟩ = some (.int .i64 o.els) := fun w' kb => by
  have hr := (h.later kb).row
  subst ho hag hac
  match k, hk with
  | 0, _ => exact ⟨hr 0 _ rfl, hr 1 _ rfl, hr 2 _ rfl, hr 3 _ rfl, hr 4 _ rfl, hr 5 _ rfl, hr 6 _ rfl⟩
  | 1, _ => exact ⟨hr 7 _ rfl, hr 8 _ rfl, hr 9 _ rfl, hr 10 _ rfl, hr 11 _ rfl, hr 12 _ rfl, hr 13 _ rfl⟩
/-- The op, in any block of this form. -/
theorem diOpB {w : World} {x : Nat} {d : DC} {b : DB} {c : ScT} {t : DT} (h : DiB w x d) (ho : d.ov = .slice (some ⟨b.s.g, 0, none⟩) 2 b.s.c) (ha : d.at_ = (t.at_ : Nat)) (hs : Scr w b.s c.o0 c.o1) (h2 : t.at_ ≤ 2) : Calls Tryz.prog 98 #[.pointer (some ⟨x, 0, none⟩)] w fun e w' => e = .returned (opVal c b t) ∧ Below w.heap.size w w' := by
  by_cases h0 : t.at_ = 2
  · have e : opVal c b t = endOp := by unfold opVal; rw [if_neg (by omega), if_neg (by omega)]
    rw [e]
    exact diOp2 h ho (by rw [ha, h0]; rfl)
  · have hk : t.at_ < 2 := by omega
    obtain ⟨o, ag, ac, h1, h3, h4, e⟩ : ∃ o ag ac, o = (if t.at_ = 0 then c.o0 else c.o1) ∧ ag = (if t.at_ = 0 then b.s.a0 else b.s.a1) ∧ ac = (if t.at_ = 0 then b.s.c0 else b.s.c1) ∧ opVal c b t = o.val ag ac := by
      by_cases hz : t.at_ = 0
      · exact ⟨c.o0, b.s.a0, b.s.c0, by rw [if_pos hz], by rw [if_pos hz], by rw [if_pos hz], by unfold opVal; rw [if_pos hz]⟩
      · exact ⟨c.o1, b.s.a1, b.s.c1, by rw [if_neg hz], by rw [if_neg hz], by rw [if_neg hz], by unfold opVal; rw [if_neg hz, if_pos (by omega)]⟩
    have hc := scr_at hs t.at_ hk o ag ac h1 h3 h4
    rw [e]
    unfold OpT.val OpT.cells
    obtain ⟨ao, m, cc, ea⟩ := arms_form o ag ac
    rw [ea] at hc ⊢
    exact diOpV h ho ha hk hc
end Go.Proofs.YtbhgmccaecmpjaaGreat
