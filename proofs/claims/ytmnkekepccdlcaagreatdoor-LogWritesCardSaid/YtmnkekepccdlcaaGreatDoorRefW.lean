/-
  The reference's words of steps and of dialogues.
  Conditions: none.
-/
import Derived.Test.YtmnkekepccdlcaaGreatDoorLogO
namespace Go.Proofs.YtmnkekepccdlcaaGreatDoor
set_option linter.unusedVariables false
set_option linter.unusedSimpArgs false
open Go.RowKit

abbrev rWhatC : Array Value := ((whatsL.drop 1).map fun l => Value.string ⟨l.toArray⟩).toArray
theorem rWhat_at : ∀ k : Fin 14, rWhatC[k.val]? = some (.string ⟨(whatT ((k.val + 1 : Nat) : Int)).toArray⟩) := by
  intro k
  match k with
  | ⟨0, _⟩ => rfl
  | ⟨1, _⟩ => rfl
  | ⟨2, _⟩ => rfl
  | ⟨3, _⟩ => rfl
  | ⟨4, _⟩ => rfl
  | ⟨5, _⟩ => rfl
  | ⟨6, _⟩ => rfl
  | ⟨7, _⟩ => rfl
  | ⟨8, _⟩ => rfl
  | ⟨9, _⟩ => rfl
  | ⟨10, _⟩ => rfl
  | ⟨11, _⟩ => rfl
  | ⟨12, _⟩ => rfl
  | ⟨13, _⟩ => rfl
theorem rWhat (n : Int) (w : World) (hn : i64 n) : Calls Tryz.prog 19 #[.int .i64 n] w fun e w' => e = .returned (.string ⟨(whatT n).toArray⟩) ∧ Below w.heap.size w w' := by
  obtain ⟨w1, hw1⟩ : ∃ w1, w.alloc (.cells rWhatC 9) = w1 := ⟨_, rfl⟩
  have k1 : Blk w1 w.heap.size 9 rWhatC := by rw [← hw1]; exact Blk.new _ _ _
  have hb1 : Below w.heap.size w w1 := by rw [← hw1]; exact (Below.refl _ _).alloc (Nat.le_refl _) _
  have HW1 := Lib.hid hw1
  clear hw1
  by_cases h1 : n < 1
  · have hT := Lib.hid (show whatT n = [] by
      unfold whatT wordT
      by_cases h : n < 0
      · rw [if_pos h]
      · obtain rfl : n = 0 := by omega
        rfl)
    go_enter Tryz.func19, Tryz.ntmps19
    go_upto_region 2 with fail
    change Code.wp _ _ _ _ (w.alloc (.cells rWhatC 9))
    rw [HW1.out]
    go_wp2_with fail
    go_ret
    exact ⟨by rw [hT.out]; rfl, hb1⟩
  · by_cases h2 : 14 < n
    · have hT := Lib.hid (show whatT n = [] by
        unfold whatT wordT
        rw [if_neg (by omega), List.getElem?_eq_none (by show whatsL.length ≤ _; have : whatsL.length = 15 := rfl; omega)]; rfl)
      go_enter Tryz.func19, Tryz.ntmps19
      go_upto_region 2 with fail
      change Code.wp _ _ _ _ (w.alloc (.cells rWhatC 9))
      rw [HW1.out]
      go_wp2_with fail
      go_ret
      exact ⟨by rw [hT.out]; rfl, hb1⟩
    · obtain ⟨k, rfl⟩ : ∃ k : Nat, n = ((k + 1 : Nat) : Int) := ⟨(n - 1).toNat, by omega⟩
      have hk : k < 14 := by omega
      have hc : w1.cell? ⟨w.heap.size, k, none⟩ = some (.string ⟨(whatT ((k + 1 : Nat) : Int)).toArray⟩) := (k1.cell k).trans (rWhat_at ⟨k, hk⟩)
      generalize whatT ((k + 1 : Nat) : Int) = tx at *
      have e1 : (k : Int) < 14 := by omega
      have e2 : ¬ ((k : Int) + 1) < 1 := by omega
      have e3 : ¬ 14 < ((k : Int) + 1) := by omega
      have e4 : IntKind.i64.wrap ((k : Int) + 1 - 1) = (k : Int) := by rw [IntWalk.i64_in _ (by omega)]; omega
      have e5 : ¬ 14 ≤ (k : Int) := by omega
      clear h1 h2 k1 hk hn
      rw [show ((k + 1 : Nat) : Int) = (k : Int) + 1 by omega]
      go_enter Tryz.func19, Tryz.ntmps19
      go_upto_region 2 with fail
      change Code.wp _ _ _ _ (w.alloc (.cells rWhatC 9))
      rw [HW1.out]
      go_wp2_with fail
      go_ret
      exact ⟨rfl, hb1⟩
abbrev rStatusC : Array Value := ((statsL.drop 0).map fun l => Value.string ⟨l.toArray⟩).toArray
theorem rStatus_at : ∀ k : Fin 6, rStatusC[k.val]? = some (.string ⟨(statT ((k.val + 0 : Nat) : Int)).toArray⟩) := by
  intro k
  match k with
  | ⟨0, _⟩ => rfl
  | ⟨1, _⟩ => rfl
  | ⟨2, _⟩ => rfl
  | ⟨3, _⟩ => rfl
  | ⟨4, _⟩ => rfl
  | ⟨5, _⟩ => rfl
theorem rStatus (n : Int) (w : World) (hn : i64 n) : Calls Tryz.prog 21 #[.int .i64 n] w fun e w' => e = .returned (.string ⟨(statT n).toArray⟩) ∧ Below w.heap.size w w' := by
  obtain ⟨w1, hw1⟩ : ∃ w1, w.alloc (.cells rStatusC 9) = w1 := ⟨_, rfl⟩
  have k1 : Blk w1 w.heap.size 9 rStatusC := by rw [← hw1]; exact Blk.new _ _ _
  have hb1 : Below w.heap.size w w1 := by rw [← hw1]; exact (Below.refl _ _).alloc (Nat.le_refl _) _
  have HW1 := Lib.hid hw1
  clear hw1
  by_cases h1 : n < 0
  · have hT := Lib.hid (show statT n = [] by
      unfold statT wordT
      rw [if_pos h1]
      )
    go_enter Tryz.func21, Tryz.ntmps21
    go_upto_region 2 with fail
    change Code.wp _ _ _ _ (w.alloc (.cells rStatusC 9))
    rw [HW1.out]
    go_wp2_with fail
    go_ret
    exact ⟨by rw [hT.out]; rfl, hb1⟩
  · by_cases h2 : 5 < n
    · have hT := Lib.hid (show statT n = [] by
        unfold statT wordT
        rw [if_neg (by omega), List.getElem?_eq_none (by show statsL.length ≤ _; have : statsL.length = 6 := rfl; omega)]; rfl)
      go_enter Tryz.func21, Tryz.ntmps21
      go_upto_region 2 with fail
      change Code.wp _ _ _ _ (w.alloc (.cells rStatusC 9))
      rw [HW1.out]
      go_wp2_with fail
      go_ret
      exact ⟨by rw [hT.out]; rfl, hb1⟩
    · obtain ⟨k, rfl⟩ : ∃ k : Nat, n = ((k + 0 : Nat) : Int) := ⟨(n - 0).toNat, by omega⟩
      have hk : k < 6 := by omega
      have hc : w1.cell? ⟨w.heap.size, k, none⟩ = some (.string ⟨(statT ((k + 0 : Nat) : Int)).toArray⟩) := (k1.cell k).trans (rStatus_at ⟨k, hk⟩)
      generalize statT ((k + 0 : Nat) : Int) = tx at *
      have e1 : (k : Int) < 6 := by omega
      have e2 : ¬ ((k : Int) + 0) < 0 := by omega
      have e3 : ¬ 5 < ((k : Int) + 0) := by omega
      have e4 : (0 : Int) ≤ (k : Int) := by omega
      have e5 : ¬ 6 ≤ (k : Int) := by omega
      clear h1 h2 k1 hk hn
      rw [show ((k + 0 : Nat) : Int) = (k : Int) by omega]
      go_enter Tryz.func21, Tryz.ntmps21
      go_upto_region 2 with fail
      change Code.wp _ _ _ _ (w.alloc (.cells rStatusC 9))
      rw [HW1.out]
      go_wp2_with fail
      go_ret
      exact ⟨rfl, hb1⟩
end Go.Proofs.YtmnkekepccdlcaaGreatDoor
