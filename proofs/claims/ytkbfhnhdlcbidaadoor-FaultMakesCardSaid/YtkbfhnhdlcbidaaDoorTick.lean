/-
  Contracts of the ticks' functions (package tick and its reference) that this seat's program reaches: what each call computes, in plain integers.
  Conditions: the arguments are numbers of their Go kinds.
-/
import Derived.Test.YtkbfhnhdlcbidaaDoorRows
import Derived.WalkKit
import Derived.WalkSpells
import Derived.WalkLawsBesides
import Derived.Lib.Hide
import Derived.IntWalk
namespace Go.Proofs.YtkbfhnhdlcbidaaDoor
open Go.RowKit

theorem ret_int {k : IntKind} {a b : Int} (h : a = b) : Ending.returned (.int k a) = .returned (.int k b) := by rw [h]
theorem ret_bool {a b : Bool} (h : a = b) : Ending.returned (.bool a) = .returned (.bool b) := by rw [h]
def nev : Int := 9223372036854775807
def ownT (t : Int) : Int := if t < 0 then 0 else t
def addT (a b : Int) : Int := if ownT a + ownT b ≥ nev then nev else ownT a + ownT b
def dueB (a n : Int) : Bool := decide (a ≠ nev ∧ ownT a ≤ ownT n)
/-- A number of Go's int64 or int. -/
def i64 (t : Int) : Prop := -9223372036854775808 ≤ t ∧ t ≤ 9223372036854775807

theorem ownT_le {t : Int} (h : i64 t) : 0 ≤ ownT t ∧ ownT t ≤ 9223372036854775807 := by
  unfold ownT; unfold i64 at h; omega

theorem town (t : Int) (w : World) : Calls Tryd.prog 48 #[.int .i64 t] w fun e w' => e = .returned (.int .i64 (ownT t)) ∧ w = w' := by
  by_cases h : t < 0
  · have e : ownT t = 0 := by unfold ownT; omega
    rw [e]
    go_enter Tryd.func48, Tryd.ntmps48
    go_wp2
    go_ret
    exact ⟨rfl, rfl⟩
  · have e : ownT t = t := by unfold ownT; omega
    rw [e]
    go_enter Tryd.func48, Tryd.ntmps48
    go_wp2
    go_ret
    exact ⟨rfl, rfl⟩
theorem tOwn (t : Int) (w : World) : Calls Tryd.prog 34 #[.int .i64 t] w fun e w' => e = .returned (.int .i64 (ownT t)) ∧ w = w' := by
  go_enter Tryd.func34, Tryd.ntmps34
  go_wp2_with (go_at_call 48; refine (town _ _).mono ?_; rintro e w' ⟨rfl, rfl⟩)
  go_ret
  exact ⟨rfl, rfl⟩
theorem rOwn (t : Int) (w : World) : Calls Tryd.prog 28 #[.int .i64 t] w fun e w' => e = .returned (.int .i64 (ownT t)) ∧ w = w' := by
  by_cases h : t < 0
  · have e : ownT t = 0 := by unfold ownT; omega
    rw [e]
    go_enter Tryd.func28, Tryd.ntmps28
    go_wp2
    go_ret
    exact ⟨rfl, rfl⟩
  · have e : ownT t = t := by unfold ownT; omega
    rw [e]
    go_enter Tryd.func28, Tryd.ntmps28
    go_wp2
    go_ret
    exact ⟨rfl, rfl⟩
theorem tAdd (a b : Int) (w : World) (ha : i64 a) (hb : i64 b) : Calls Tryd.prog 27 #[.int .i64 a, .int .i64 b] w fun e w' => e = .returned (.int .i64 (addT a b)) ∧ w = w' := by
  have h1 := ownT_le ha
  have h2 := ownT_le hb
  clear ha hb
  by_cases h : ownT a + ownT b ≥ nev
  · have e : addT a b = 9223372036854775807 := by unfold addT; rw [if_pos h]; rfl
    rw [e]
    clear e
    have h3 : 9223372036854775807 - ownT b ≤ ownT a := by unfold nev at h; omega
    clear h
    go_enter Tryd.func27, Tryd.ntmps27
    go_wp2_with (go_at_call 48; refine (town _ _).mono ?_; rintro e w' ⟨rfl, rfl⟩)
    go_ret
    exact ⟨rfl, rfl⟩
  · have e : addT a b = ownT a + ownT b := by unfold addT; rw [if_neg h]
    rw [e]
    clear e
    have h3 : ownT a < 9223372036854775807 - ownT b := by unfold nev at h; omega
    clear h
    go_enter Tryd.func27, Tryd.ntmps27
    go_wp2_with (go_at_call 48; refine (town _ _).mono ?_; rintro e w' ⟨rfl, rfl⟩)
    go_ret
    exact ⟨rfl, rfl⟩
theorem rAdd (a b : Int) (w : World) (ha : i64 a) (hb : i64 b) : Calls Tryd.prog 35 #[.int .i64 a, .int .i64 b] w fun e w' => e = .returned (.int .i64 (addT a b)) ∧ w = w' := by
  have h1 := ownT_le ha
  have h2 := ownT_le hb
  clear ha hb
  by_cases h : ownT a + ownT b ≥ nev
  · have e : addT a b = 9223372036854775807 := by unfold addT; rw [if_pos h]; rfl
    rw [e]
    clear e
    have h3 : 9223372036854775807 ≤ ownT a + ownT b := by unfold nev at h; omega
    clear h
    go_enter Tryd.func35, Tryd.ntmps35
    go_wp2_with (go_at_call 28; refine (rOwn _ _).mono ?_; rintro e w' ⟨rfl, rfl⟩)
    go_ret
    exact ⟨rfl, rfl⟩
  · have e : addT a b = ownT a + ownT b := by unfold addT; rw [if_neg h]
    rw [e]
    clear e
    have h3 : ownT a + ownT b < 9223372036854775807 := by unfold nev at h; omega
    clear h
    go_enter Tryd.func35, Tryd.ntmps35
    go_wp2_with (go_at_call 28; refine (rOwn _ _).mono ?_; rintro e w' ⟨rfl, rfl⟩)
    go_ret
    exact ⟨rfl, rfl⟩
theorem dueB_never (n : Int) : dueB 9223372036854775807 n = false := by
  unfold dueB nev; simp
theorem dueB_else {a n : Int} (h : a ≠ 9223372036854775807) : dueB a n = decide (ownT a ≤ ownT n) := by
  unfold dueB nev; simp [h]
theorem tDue (a n : Int) (w : World) : Calls Tryd.prog 40 #[.int .i64 a, .int .i64 n] w fun e w' => e = .returned (.bool (dueB a n)) ∧ w = w' := by
  by_cases h : a = 9223372036854775807
  · subst h
    rw [dueB_never]
    go_enter Tryd.func40, Tryd.ntmps40
    go_wp2_with (go_at_call 48; refine (town _ _).mono ?_; rintro e w' ⟨rfl, rfl⟩)
    go_ret
    exact ⟨rfl, rfl⟩
  · rw [dueB_else h]
    have hb : (a != 9223372036854775807) = true := by simpa using h
    clear h
    go_enter Tryd.func40, Tryd.ntmps40
    go_wp2_with (go_at_call 48; refine (town _ _).mono ?_; rintro e w' ⟨rfl, rfl⟩)
    go_ret
    exact ⟨rfl, rfl⟩
theorem rDue (a n : Int) (w : World) : Calls Tryd.prog 41 #[.int .i64 a, .int .i64 n] w fun e w' => e = .returned (.bool (dueB a n)) ∧ w = w' := by
  by_cases h : a = 9223372036854775807
  · subst h
    rw [dueB_never]
    go_enter Tryd.func41, Tryd.ntmps41
    go_wp2_with (go_at_call 28; refine (rOwn _ _).mono ?_; rintro e w' ⟨rfl, rfl⟩)
    go_ret
    exact ⟨rfl, rfl⟩
  · rw [dueB_else h]
    have hb : (a != 9223372036854775807) = true := by simpa using h
    clear h
    go_enter Tryd.func41, Tryd.ntmps41
    go_wp2_with (go_at_call 28; refine (rOwn _ _).mono ?_; rintro e w' ⟨rfl, rfl⟩)
    go_ret
    exact ⟨by simp, rfl⟩

theorem rDueV {a n : Int} {v : Bool} (h : dueB a n = v) (w : World) : Calls Tryd.prog 41 #[.int .i64 a, .int .i64 n] w fun e w' => e = .returned (.bool v) ∧ w = w' := by
  rw [← h]; exact rDue a n w
theorem tDueV {a n : Int} {v : Bool} (h : dueB a n = v) (w : World) : Calls Tryd.prog 40 #[.int .i64 a, .int .i64 n] w fun e w' => e = .returned (.bool v) ∧ w = w' := by
  rw [← h]; exact tDue a n w
/-- The least of some ticks, one after the other. -/
def leastT (l : List Int) : Int := l.foldl (fun acc t => if ownT t < acc then ownT t else acc) nev
theorem leastT_nil : leastT [] = 9223372036854775807 := rfl
theorem leastT_snoc (l : List Int) (t : Int) : leastT (l ++ [t]) = if ownT t < leastT l then ownT t else leastT l := by
  unfold leastT; rw [List.foldl_append]; rfl
theorem leastT_take {l : List Int} {k : Nat} (h : k < l.length) : leastT (l.take (k + 1)) = if ownT l[k] < leastT (l.take k) then ownT l[k] else leastT (l.take k) := by
  rw [List.take_succ_eq_append_getElem h, leastT_snoc]
/-- A slice of int64 that holds a list. -/
def I64s (w : World) (b off : Nat) (l : List Int) : Prop := ∀ k (h : k < l.length), w.cell? ⟨b, off + k, none⟩ = some (.int .i64 l[k])

set_option maxHeartbeats 400000 in
theorem tLeast (b off c : Nat) (l : List Int) (w : World) (hl : l.length ≤ 9223372036854775807) (hw : I64s w b off l) :
    Calls Tryd.prog 42 #[.slice (some ⟨b, off, none⟩) l.length c] w fun e w' => e = .returned (.int .i64 (leastT l)) ∧ w = w' := by
  have HW := Lib.hid hw
  clear hw
  go_enter Tryd.func42, Tryd.ntmps42
  go_wp2_with (go_at_call 48; refine (town _ _).mono ?_; rintro e w' ⟨rfl, rfl⟩)
  go_loop [3, 8] (fun o i => ∃ k : Nat, k ≤ l.length ∧ i = .int .i64 k ∧ o = .int .i64 (leastT (l.take k))) (fun _ i => l.length - (intOf i).toNat)
  case atStart => exact ⟨0, Nat.zero_le _, rfl, by rw [List.take_zero, leastT_nil]⟩
  case round =>
    obtain ⟨k, hk, rfl, rfl⟩ := hrel
    by_cases hlt : k < l.length
    · have hc := HW.out k hlt
      have HS := Lib.hid (leastT_take hlt)
      go_wp2_with (go_at_call 48; refine (town _ _).mono ?_; rintro e w' ⟨rfl, rfl⟩)
      go_round
      case rel => exact ⟨k + 1, by omega, by go_num, by rw [HS.out]⟩
      case measure => simp [intOf]; omega
    · go_wp2
      go_ret
      exact ⟨ret_int (by rw [List.take_of_length_le (by omega)]), rfl⟩
set_option maxHeartbeats 400000 in
theorem rLeast (b off c : Nat) (l : List Int) (w : World) (hl : l.length ≤ 9223372036854775807) (hw : I64s w b off l) :
    Calls Tryd.prog 43 #[.slice (some ⟨b, off, none⟩) l.length c] w fun e w' => e = .returned (.int .i64 (leastT l)) ∧ w = w' := by
  have HW := Lib.hid hw
  clear hw
  go_enter Tryd.func43, Tryd.ntmps43
  go_wp2_with (go_at_call 28; refine (rOwn _ _).mono ?_; rintro e w' ⟨rfl, rfl⟩)
  go_loop [3, 4] (fun o i => ∃ k : Nat, k ≤ l.length ∧ i = .int .i64 k ∧ o = .int .i64 (leastT (l.take k))) (fun _ i => l.length - (intOf i).toNat)
  case atStart => exact ⟨0, Nat.zero_le _, rfl, by rw [List.take_zero, leastT_nil]⟩
  case round =>
    obtain ⟨k, hk, rfl, rfl⟩ := hrel
    by_cases hlt : k < l.length
    · have hc := HW.out k hlt
      have HS := Lib.hid (leastT_take hlt)
      by_cases hm : ownT l[k] < leastT (l.take k)
      · go_wp2_with (go_at_call 28; refine (rOwn _ _).mono ?_; rintro e w' ⟨rfl, rfl⟩)
        go_round
        case rel => exact ⟨k + 1, by omega, by go_num, by rw [HS.out, if_pos hm]⟩
        case measure => simp [intOf]; omega
      · go_wp2_with (go_at_call 28; refine (rOwn _ _).mono ?_; rintro e w' ⟨rfl, rfl⟩)
        go_round
        case rel => exact ⟨k + 1, by omega, by go_num, by rw [HS.out, if_neg (by omega)]⟩
        case measure => simp [intOf]; omega
    · go_wp2
      go_ret
      exact ⟨ret_int (by rw [List.take_of_length_le (by omega)]), rfl⟩
end Go.Proofs.YtkbfhnhdlcbidaaDoor
