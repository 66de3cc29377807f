/-
  Contracts of the ticks' functions (package tick and its reference) that this seat's program reaches: what each call computes, in plain integers.
  Conditions: the arguments are numbers of their Go kinds.
-/
import Derived.Test.YtmnkekepccdlcaaGreatDoorRows
import Derived.WalkKit
import Derived.WalkSpells
import Derived.WalkLawsBesides
import Derived.Lib.Hide
import Derived.IntWalk
namespace Go.Proofs.YtmnkekepccdlcaaGreatDoor
set_option linter.unusedVariables false
set_option linter.unusedSimpArgs false
open Go.RowKit

theorem ret_int {k : IntKind} {a b : Int} (h : a = b) : Ending.returned (.int k a) = .returned (.int k b) := by rw [h]
theorem ret_bool {a b : Bool} (h : a = b) : Ending.returned (.bool a) = .returned (.bool b) := by rw [h]
def nev : Int := 9223372036854775807
def ownT (t : Int) : Int := if t < 0 then 0 else t
def addT (a b : Int) : Int := if ownT a + ownT b ≥ nev then nev else ownT a + ownT b
def dueB (a n : Int) : Bool := decide (a ≠ nev ∧ ownT a ≤ ownT n)
/-- A number of Go's int64 or int. -/
def i64 (t : Int) : Prop := -9223372036854775808 ≤ t ∧ t ≤ 9223372036854775807

theorem ownT_le {t : Int} (h : i64 t) : 0 ≤ ownT t ∧ ownT t ≤ 9223372036854775807 := by
  unfold ownT; unfold i64 at h; omega

theorem town (t : Int) (w : World) : Calls Tryz.prog 108 #[.int .i64 t] w fun e w' => e = .returned (.int .i64 (ownT t)) ∧ w = w' := by
  by_cases h : t < 0
  · have e : ownT t = 0 := by unfold ownT; omega
    rw [e]
    go_enter Tryz.func108, Tryz.ntmps108
    go_wp2
    go_ret
    exact ⟨rfl, rfl⟩
  · have e : ownT t = t := by unfold ownT; omega
    rw [e]
    go_enter Tryz.func108, Tryz.ntmps108
    go_wp2
    go_ret
    exact ⟨rfl, rfl⟩
theorem rOwn (t : Int) (w : World) : Calls Tryz.prog 70 #[.int .i64 t] w fun e w' => e = .returned (.int .i64 (ownT t)) ∧ w = w' := by
  by_cases h : t < 0
  · have e : ownT t = 0 := by unfold ownT; omega
    rw [e]
    go_enter Tryz.func70, Tryz.ntmps70
    go_wp2
    go_ret
    exact ⟨rfl, rfl⟩
  · have e : ownT t = t := by unfold ownT; omega
    rw [e]
    go_enter Tryz.func70, Tryz.ntmps70
    go_wp2
    go_ret
    exact ⟨rfl, rfl⟩
theorem dueB_never (n : Int) : dueB 9223372036854775807 n = false := by
  unfold dueB nev; simp
theorem dueB_else {a n : Int} (h : a ≠ 9223372036854775807) : dueB a n = decide (ownT a ≤ ownT n) := by
  unfold dueB nev; simp [h]

/-- The least of some ticks, one after the other. -/
def leastT (l : List Int) : Int := l.foldl (fun acc t => if ownT t < acc then ownT t else acc) nev
theorem leastT_nil : leastT [] = 9223372036854775807 := rfl
theorem leastT_snoc (l : List Int) (t : Int) : leastT (l ++ [t]) = if ownT t < leastT l then ownT t else leastT l := by
  unfold leastT; rw [List.foldl_append]; rfl
theorem leastT_take {l : List Int} {k : Nat} (h : k < l.length) : leastT (l.take (k + 1)) = if ownT l[k] < leastT (l.take k) then ownT l[k] else leastT (l.take k) := by
  rw [List.take_succ_eq_append_getElem h, leastT_snoc]
/-- A slice of int64 that holds a list. -/
def I64s (w : World) (b off : Nat) (l : List Int) : Prop := ∀ k (h : k < l.length), w.cell? ⟨b, off + k, none⟩ = some (.int .i64 l[k])

end Go.Proofs.YtmnkekepccdlcaaGreatDoor
