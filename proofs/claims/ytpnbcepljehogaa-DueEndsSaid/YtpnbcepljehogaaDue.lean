/-
  Contracts of package due and of its reference: which deadlines, and how a dialogue ends.
  Conditions: the numbers are of their Go kinds.
-/
import Derived.Test.YtpnbcepljehogaaTick
import Derived.Test.YtpnbcepljehogaaRegion
namespace Go.Proofs.Ytpnbcepljehogaa
open Go.RowKit

def overN (l c n : Int) : Int := if ownT l ≤ ownT c then (if dueB l n = true then 3 else 0) else (if dueB c n = true then 5 else 0)
theorem ownT_own (t : Int) : ownT (ownT t) = ownT t := by unfold ownT; omega
theorem dueB_own (a n : Int) : dueB (ownT a) n = dueB a n := by
  unfold dueB
  rw [ownT_own]
  have e : ownT a = nev ↔ a = nev := by unfold ownT nev; omega
  simp [e]

set_option maxHeartbeats 400000 in
theorem dOver (x l c n : Int) (w : World) : Calls Try.prog 15 #[.agg #[.int .i64 x, .int .i64 l, .int .i64 c], .int .i64 n] w
    fun e w' => e = .returned (.tuple #[.int .i64 (overN l c n), .bool (decide (0 < overN l c n))]) ∧ Below w.heap.size w w' := by
  have D1 := Lib.hid (dueB_own l n)
  have D2 := Lib.hid (dueB_own c n)
  by_cases h : ownT l ≤ ownT c
  · cases hd : dueB (ownT l) n
    · have e : overN l c n = 0 := by unfold overN; rw [if_pos h, if_neg (by rw [← D1.out, hd]; simp)]
      rw [e]; clear e
      go_enter Try.func15, Try.ntmps15
      go_wp2_with fail
      go_quiet ((go_at_call 78; exact quiet_left (tOwn _ _)))
      go_wp2_with (go_at_call 79; refine (tDue _ _ _).mono ?_; rintro e w' ⟨rfl, rfl⟩)
      go_ret2
      exact ⟨rfl, below_drewN ((Below.refl _ _).alloc (Nat.le_refl _) _) _⟩
    · have e : overN l c n = 3 := by unfold overN; rw [if_pos h, if_pos (by rw [← D1.out, hd])]
      rw [e]; clear e
      go_enter Try.func15, Try.ntmps15
      go_wp2_with fail
      go_quiet ((go_at_call 78; exact quiet_left (tOwn _ _)))
      go_wp2_with (go_at_call 79; refine (tDue _ _ _).mono ?_; rintro e w' ⟨rfl, rfl⟩)
      go_ret2
      exact ⟨rfl, below_drewN ((Below.refl _ _).alloc (Nat.le_refl _) _) _⟩
  · cases hd : dueB (ownT c) n
    · have e : overN l c n = 0 := by unfold overN; rw [if_neg h, if_neg (by rw [← D2.out, hd]; simp)]
      rw [e]; clear e
      go_enter Try.func15, Try.ntmps15
      go_wp2_with fail
      go_quiet ((go_at_call 78; exact quiet_left (tOwn _ _)))
      go_wp2_with (go_at_call 79; refine (tDue _ _ _).mono ?_; rintro e w' ⟨rfl, rfl⟩)
      go_ret2
      exact ⟨rfl, below_drewN ((Below.refl _ _).alloc (Nat.le_refl _) _) _⟩
    · have e : overN l c n = 5 := by unfold overN; rw [if_neg h, if_pos (by rw [← D2.out, hd])]
      rw [e]; clear e
      go_enter Try.func15, Try.ntmps15
      go_wp2_with fail
      go_quiet ((go_at_call 78; exact quiet_left (tOwn _ _)))
      go_wp2_with (go_at_call 79; refine (tDue _ _ _).mono ?_; rintro e w' ⟨rfl, rfl⟩)
      go_ret2
      exact ⟨rfl, below_drewN ((Below.refl _ _).alloc (Nat.le_refl _) _) _⟩

theorem dWoken (x l c n : Int) (w : World) : Calls Try.prog 16 #[.agg #[.int .i64 x, .int .i64 l, .int .i64 c], .int .i64 n] w
    fun e w' => e = .returned (.bool (dueB x n)) ∧ Below w.heap.size w w' := by
  go_enter Try.func16, Try.ntmps16
  go_wp2_with (go_at_call 79; refine (tDue _ _ _).mono ?_; rintro e w' ⟨rfl, rfl⟩)
  go_ret
  exact ⟨rfl, (Below.refl _ _).alloc (Nat.le_refl _) _⟩

theorem dFirst (x l c : Int) (w : World) : Calls Try.prog 19 #[.agg #[.int .i64 x, .int .i64 l, .int .i64 c]] w
    fun e w' => e = .returned (.int .i64 (leastT [x, l, c])) ∧ Below w.heap.size w w' := by
  go_enter Try.func19, Try.ntmps19
  go_wp2_with fail
  refine (tLeast _ _ _ [x, l, c] _ (by simp) ?_).mono ?_
  · intro k hk
    match k, hk with
    | 0, _ => simp [go_sem]
    | 1, _ => simp [go_sem]
    | 2, _ => simp [go_sem]
  rintro e w' ⟨rfl, rfl⟩
  go_wp2
  go_ret
  exact ⟨rfl, ((Below.refl _ _).alloc (Nat.le_refl _) _).alloc (by simp) _⟩

theorem xFirst (x l c : Int) (w : World) : Calls Try.prog 20 #[.agg #[.int .i64 x, .int .i64 l, .int .i64 c]] w
    fun e w' => e = .returned (.int .i64 (leastT [x, l, c])) ∧ Below w.heap.size w w' := by
  go_enter Try.func20, Try.ntmps20
  go_wp2_with fail
  refine (rLeast _ _ _ [x, l, c] _ (by simp) ?_).mono ?_
  · intro k hk
    match k, hk with
    | 0, _ => simp [go_sem]
    | 1, _ => simp [go_sem]
    | 2, _ => simp [go_sem]
  rintro e w' ⟨rfl, rfl⟩
  go_wp2
  go_ret
  exact ⟨rfl, ((Below.refl _ _).alloc (Nat.le_refl _) _).alloc (by simp) _⟩

theorem dCuts (x l c a : Int) (w : World) : Calls Try.prog 29 #[.agg #[.int .i64 x, .int .i64 l, .int .i64 c], .int .i64 a] w
    fun e w' => e = .returned (.agg #[.int .i64 x, .int .i64 l, .int .i64 (leastT [c, a])]) ∧ Below w.heap.size w w' := by
  go_enter Try.func29, Try.ntmps29
  go_wp2_with fail
  refine (tLeast _ _ _ [c, a] _ (by simp) ?_).mono ?_
  · intro k hk
    match k, hk with
    | 0, _ => simp [go_sem]
    | 1, _ => simp [go_sem]
  rintro e w' ⟨rfl, rfl⟩
  go_wp2
  exact bodyPost_ret (v := .agg #[.int .i64 x, .int .i64 l, .int .i64 (leastT [c, a])]) (by simp [results, Try.results29, go_sem]) rfl ⟨rfl, by (repeat' (first | exact Below.refl _ _ | assumption | apply Below.drew | apply below_drewN | refine Below.setCell ?_ (by first | assumption | (simp; done) | (simp <;> omega)) _ | refine Below.alloc ?_ (by first | exact Nat.le_refl _ | assumption | (simp; done) | (simp <;> omega)) _))⟩

theorem xCuts (x l c a : Int) (w : World) : Calls Try.prog 30 #[.agg #[.int .i64 x, .int .i64 l, .int .i64 c], .int .i64 a] w
    fun e w' => e = .returned (.agg #[.int .i64 x, .int .i64 l, .int .i64 (leastT [c, a])]) ∧ Below w.heap.size w w' := by
  go_enter Try.func30, Try.ntmps30
  go_wp2_with fail
  refine (rLeast _ _ _ [c, a] _ (by simp) ?_).mono ?_
  · intro k hk
    match k, hk with
    | 0, _ => simp [go_sem]
    | 1, _ => simp [go_sem]
  rintro e w' ⟨rfl, rfl⟩
  go_wp2
  exact bodyPost_ret (v := .agg #[.int .i64 x, .int .i64 l, .int .i64 (leastT [c, a])]) (by simp [results, Try.results30, go_sem]) rfl ⟨rfl, by (repeat' (first | exact Below.refl _ _ | assumption | apply Below.drew | apply below_drewN | refine Below.setCell ?_ (by first | assumption | (simp; done) | (simp <;> omega)) _ | refine Below.alloc ?_ (by first | exact Nat.le_refl _ | assumption | (simp; done) | (simp <;> omega)) _))⟩

def behT (a n : Int) : Int := if n = nev then nev else addT a n
theorem dBehind (a n : Int) (w : World) (ha : i64 a) (hn : i64 n) : Calls Try.prog 83 #[.int .i64 a, .int .i64 n] w fun e w' => e = .returned (.int .i64 (behT a n)) ∧ w = w' := by
  by_cases h : n = 9223372036854775807
  · subst h
    have e : behT a 9223372036854775807 = 9223372036854775807 := by unfold behT nev; simp
    rw [e]
    go_enter Try.func83, Try.ntmps83
    go_wp2
    go_ret
    exact ⟨rfl, rfl⟩
  · have e : behT a n = addT a n := by unfold behT nev; simp [h]
    rw [e]
    clear e
    have hb : (n == 9223372036854775807) = false := by simpa using h
    clear h
    go_enter Try.func83, Try.ntmps83
    go_wp2_with (go_at_call 90; refine (tAdd _ _ _ ha hn).mono ?_; rintro e w' ⟨rfl, rfl⟩)
    go_ret
    exact ⟨rfl, rfl⟩

theorem xBehind (a n : Int) (w : World) (ha : i64 a) (hn : i64 n) : Calls Try.prog 28 #[.int .i64 a, .int .i64 n] w fun e w' => e = .returned (.int .i64 (behT a n)) ∧ w = w' := by
  by_cases h : n = 9223372036854775807
  · subst h
    have e : behT a 9223372036854775807 = 9223372036854775807 := by unfold behT nev; simp
    rw [e]
    go_enter Try.func28, Try.ntmps28
    go_wp2
    go_ret
    exact ⟨rfl, rfl⟩
  · have e : behT a n = addT a n := by unfold behT nev; simp [h]
    rw [e]
    clear e
    have hb : (n == 9223372036854775807) = false := by simpa using h
    clear h
    go_enter Try.func28, Try.ntmps28
    go_wp2_with (go_at_call 21; refine (rAdd _ _ _ ha hn).mono ?_; rintro e w' ⟨rfl, rfl⟩)
    go_ret
    exact ⟨rfl, rfl⟩

theorem dBegin (a n : Int) (w : World) (ha : i64 a) (hn : i64 n) : Calls Try.prog 23 #[.int .i64 a, .int .i64 n] w
    fun e w' => e = .returned (.agg #[.int .i64 9223372036854775807, .int .i64 (behT a n), .int .i64 9223372036854775807]) ∧ Below w.heap.size w w' := by
  go_enter Try.func23, Try.ntmps23
  go_wp2_with (go_at_call 83; refine (dBehind _ _ _ ha hn).mono ?_; rintro e w' ⟨rfl, rfl⟩)
  exact bodyPost_ret (v := .agg #[.int .i64 9223372036854775807, .int .i64 (behT a n), .int .i64 9223372036854775807]) (by simp [results, Try.results23, go_sem]) rfl ⟨rfl, by (repeat' (first | exact Below.refl _ _ | assumption | apply Below.drew | apply below_drewN | refine Below.setCell ?_ (by first | assumption | (simp; done) | (simp <;> omega)) _ | refine Below.alloc ?_ (by first | exact Nat.le_refl _ | assumption | (simp; done) | (simp <;> omega)) _))⟩

theorem xBegin (a n : Int) (w : World) (ha : i64 a) (hn : i64 n) : Calls Try.prog 24 #[.int .i64 a, .int .i64 n] w
    fun e w' => e = .returned (.agg #[.int .i64 9223372036854775807, .int .i64 (behT a n), .int .i64 9223372036854775807]) ∧ Below w.heap.size w w' := by
  go_enter Try.func24, Try.ntmps24
  go_wp2_with (go_at_call 28; refine (xBehind _ _ _ ha hn).mono ?_; rintro e w' ⟨rfl, rfl⟩)
  exact bodyPost_ret (v := .agg #[.int .i64 9223372036854775807, .int .i64 (behT a n), .int .i64 9223372036854775807]) (by simp [results, Try.results24, go_sem]) rfl ⟨rfl, by (repeat' (first | exact Below.refl _ _ | assumption | apply Below.drew | apply below_drewN | refine Below.setCell ?_ (by first | assumption | (simp; done) | (simp <;> omega)) _ | refine Below.alloc ?_ (by first | exact Nat.le_refl _ | assumption | (simp; done) | (simp <;> omega)) _))⟩

theorem dFree (w : World) : Calls Try.prog 26 #[] w
    fun e w' => e = .returned (.agg #[.int .i64 9223372036854775807, .int .i64 9223372036854775807, .int .i64 9223372036854775807]) ∧ Below w.heap.size w w' := by
  go_enter Try.func26, Try.ntmps26
  go_wp2
  exact bodyPost_ret (v := .agg #[.int .i64 9223372036854775807, .int .i64 9223372036854775807, .int .i64 9223372036854775807]) (by simp [results, Try.results26, go_sem]) rfl ⟨rfl, by (repeat' (first | exact Below.refl _ _ | assumption | apply Below.drew | apply below_drewN | refine Below.setCell ?_ (by first | assumption | (simp; done) | (simp <;> omega)) _ | refine Below.alloc ?_ (by first | exact Nat.le_refl _ | assumption | (simp; done) | (simp <;> omega)) _))⟩

theorem dWait (x l c a n : Int) (w : World) (ha : i64 a) (hn : i64 n) : Calls Try.prog 27 #[.agg #[.int .i64 x, .int .i64 l, .int .i64 c], .int .i64 a, .int .i64 n] w
    fun e w' => e = .returned (.agg #[.int .i64 (behT a n), .int .i64 l, .int .i64 c]) ∧ Below w.heap.size w w' := by
  go_enter Try.func27, Try.ntmps27
  go_wp2_with (go_at_call 83; refine (dBehind _ _ _ ha hn).mono ?_; rintro e w' ⟨rfl, rfl⟩)
  exact bodyPost_ret (v := .agg #[.int .i64 (behT a n), .int .i64 l, .int .i64 c]) (by simp [results, Try.results27, go_sem]) rfl ⟨rfl, by (repeat' (first | exact Below.refl _ _ | assumption | apply Below.drew | apply below_drewN | refine Below.setCell ?_ (by first | assumption | (simp; done) | (simp <;> omega)) _ | refine Below.alloc ?_ (by first | exact Nat.le_refl _ | assumption | (simp; done) | (simp <;> omega)) _))⟩

theorem dRest (x l c : Int) (w : World) : Calls Try.prog 31 #[.agg #[.int .i64 x, .int .i64 l, .int .i64 c]] w
    fun e w' => e = .returned (.agg #[.int .i64 9223372036854775807, .int .i64 l, .int .i64 c]) ∧ Below w.heap.size w w' := by
  go_enter Try.func31, Try.ntmps31
  go_wp2
  exact bodyPost_ret (v := .agg #[.int .i64 9223372036854775807, .int .i64 l, .int .i64 c]) (by simp [results, Try.results31, go_sem]) rfl ⟨rfl, by (repeat' (first | exact Below.refl _ _ | assumption | apply Below.drew | apply below_drewN | refine Below.setCell ?_ (by first | assumption | (simp; done) | (simp <;> omega)) _ | refine Below.alloc ?_ (by first | exact Nat.le_refl _ | assumption | (simp; done) | (simp <;> omega)) _))⟩

theorem dSame (x l c : Int) (w : World) : Calls Try.prog 25 #[.agg #[.int .i64 x, .int .i64 l, .int .i64 c], .agg #[.int .i64 x, .int .i64 l, .int .i64 c]] w
    fun e w' => e = .returned (.bool true) ∧ Below w.heap.size w w' := by
  go_enter Try.func25, Try.ntmps25
  go_wp2
  go_ret
  exact ⟨rfl, by (repeat' (first | exact Below.refl _ _ | assumption | apply Below.drew | apply below_drewN | refine Below.setCell ?_ (by first | assumption | (simp; done) | (simp <;> omega)) _ | refine Below.alloc ?_ (by first | exact Nat.le_refl _ | assumption | (simp; done) | (simp <;> omega)) _))⟩

end Go.Proofs.Ytpnbcepljehogaa
