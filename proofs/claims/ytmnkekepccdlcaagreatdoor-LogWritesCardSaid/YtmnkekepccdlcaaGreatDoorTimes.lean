/-
  Contracts of the ticks' Times, as the program and its reference have it: a tick so often.
  Conditions: the arguments are numbers of their Go kinds.
-/
import Derived.Test.YtmnkekepccdlcaaGreatDoorTick
import Derived.Test.YtmnkekepccdlcaaGreatDoorShelf
namespace Go.Proofs.YtmnkekepccdlcaaGreatDoor
set_option linter.unusedVariables false
set_option linter.unusedSimpArgs false
open Go.RowKit

def timesT (t n : Int) : Int := if n < 1 then 0 else if ownT t * n ≥ nev then nev else ownT t * n
/-- A number that is nowhere above the greatest. -/
def sat (x : Int) : Int := if x ≥ nev then nev else x
theorem sat_own {x : Int} (h : 0 ≤ x) : ownT (sat x) = sat x := by unfold ownT sat nev; omega
theorem addT_sat {x y : Int} (hx : 0 ≤ x) (hy : 0 ≤ y) : addT (sat x) (sat y) = sat (x + y) := by
  unfold addT; rw [sat_own hx, sat_own hy]; unfold sat nev; omega
theorem sat_i64 {x : Int} (h : 0 ≤ x) : i64 (sat x) := by unfold i64 sat nev; omega
theorem own_sat {t : Int} (h : i64 t) : ownT t = sat (ownT t) := by unfold ownT sat nev; unfold i64 at h; omega
theorem timesT_sat {t n : Int} (hn : 0 ≤ n) : timesT t n = sat (ownT t * n) := by
  unfold timesT sat
  by_cases h : n < 1
  · have e : n = 0 := by omega
    subst e
    rw [if_pos h, Int.mul_zero]; unfold nev; omega
  · rw [if_neg h]
theorem addT_i64 {a b : Int} (ha : i64 a) (hb : i64 b) : i64 (addT a b) := by
  have h1 := ownT_le ha
  have h2 := ownT_le hb
  unfold addT i64 nev; omega
theorem timesT_i64 {t n : Int} : i64 (timesT t n) := by
  have h : 0 ≤ ownT t := by unfold ownT; omega
  unfold timesT i64
  by_cases h1 : n < 1
  · rw [if_pos h1]; omega
  · rw [if_neg h1]
    have : 0 ≤ ownT t * n := Int.mul_nonneg h (by omega)
    unfold nev; omega


end Go.Proofs.YtmnkekepccdlcaaGreatDoor
