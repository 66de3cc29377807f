/-
  What the statement PendNil computes, and that a text is taken piece by piece.
  Conditions: none.
-/
import Derived.Test.YtpnbcepljehogaaPend
namespace Go.Proofs.Ytpnbcepljehogaa
open Go.RowKit

theorem below_only {B g : Nat} {a w w' : World} (h : Below B a w) (k : w.grownBy w' (some g)) (hB : B ≤ a.heap.size) (hg : B ≤ g) : Below B a w' :=
  h.grown k (Nat.le_trans hB h.size) (fun j hj => by cases hj; exact hg)

abbrev abcde : ByteArray := ⟨#[97, 98, 99, 100, 101]⟩

set_option maxHeartbeats 1000000 in
theorem pLives (w : World) : Calls Try.prog 40 #[] w fun e w' => e = .returned (.bool true) ∧ Below w.heap.size w w' := by
  go_enter Try.func40, Try.ntmps40
  go_wp2_with fail
  refine (pNew _ _).mono ?_; rintro e w1 ⟨rfl, k1, hb1⟩
  have k1 : Pnd w1 w.heap.size 3 ⟨#[]⟩ ((0 : Nat) : Int) ((0 : Nat) : Int) 0 := k1
  go_wp2_with fail
  refine (pBegin _ _ _ _ _ _ _ _ k1).mono ?_; rintro e w2 ⟨rfl, k2, g2⟩
  have k2 : Pnd w2 w.heap.size 3 abcde ((0 : Nat) : Int) ((0 : Nat) : Int) 0 := k2
  have hb2 := below_only hb1 g2 (Nat.le_refl _) (Nat.le_refl _)
  clear g2 k1 hb1
  go_wp2_with fail
  refine (pLoad _ _ _ _ _ _ _ k2 (by decide) (by decide) (by decide) (by decide)).mono ?_; rintro e w3 ⟨he, k3, g3⟩
  have he : e = .returned (.int .i64 3) := he
  subst he
  have k3 : Pnd w3 w.heap.size 3 abcde ((0 : Nat) : Int) ((3 : Nat) : Int) 0 := k3
  have hb3 := below_only hb2 g3 (Nat.le_refl _) (Nat.le_refl _)
  clear g3 k2 hb2
  go_wp2_with fail
  refine (pTake _ _ _ _ _ _ _ _ k3 (by decide) (by decide) (by decide)).mono ?_; rintro e w4 ⟨he, k4, g4⟩
  have he : e = .returned (.string ⟨#[97, 98]⟩) := he
  subst he
  have k4 : Pnd w4 w.heap.size 3 abcde ((2 : Nat) : Int) ((3 : Nat) : Int) 1 := k4
  have hb4 := below_only hb3 g4 (Nat.le_refl _) (Nat.le_refl _)
  clear g4 k3 hb3
  go_wp2_with fail
  refine (pLoad _ _ _ _ _ _ _ k4 (by decide) (by decide) (by decide) (by decide)).mono ?_; rintro e w5 ⟨he, k5, g5⟩
  have he : e = .returned (.int .i64 0) := he
  subst he
  have k5 : Pnd w5 w.heap.size 3 abcde ((2 : Nat) : Int) ((3 : Nat) : Int) 1 := k5
  have hb5 := below_only hb4 g5 (Nat.le_refl _) (Nat.le_refl _)
  clear g5 k4 hb4
  go_wp2_with fail
  refine (pTake _ _ _ _ _ _ _ _ k5 (by decide) (by decide) (by decide)).mono ?_; rintro e w6 ⟨he, k6, g6⟩
  have he : e = .returned (.string ⟨#[99]⟩) := he
  subst he
  have k6 : Pnd w6 w.heap.size 3 abcde ((3 : Nat) : Int) ((3 : Nat) : Int) 1 := k6
  have hb6 := below_only hb5 g6 (Nat.le_refl _) (Nat.le_refl _)
  clear g6 k5 hb5
  go_wp2_with fail
  refine (pTries _ _ _ _ _ _ _ k6).mono ?_; rintro e w7 ⟨rfl, rfl⟩
  go_wp2_with fail
  refine (pLoad _ _ _ _ _ _ _ k6 (by decide) (by decide) (by decide) (by decide)).mono ?_; rintro e w7 ⟨he, k7, g7⟩
  have he : e = .returned (.int .i64 2) := he
  subst he
  have k7 : Pnd w7 w.heap.size 3 abcde ((3 : Nat) : Int) ((5 : Nat) : Int) 1 := k7
  have hb7 := below_only hb6 g7 (Nat.le_refl _) (Nat.le_refl _)
  clear g7 k6 hb6
  go_wp2_with fail
  refine (pPeek _ _ _ _ _ _ _ k7 (by decide) (by decide)).mono ?_; rintro e w8 ⟨he, hb8⟩
  have he : e = .returned (.string ⟨#[100, 101]⟩) := he
  subst he
  have hb9 := hb7.up hb8
  clear hb7 hb8 k7
  go_wp2_with fail
  go_ret
  exact ⟨rfl, hb9⟩

set_option maxHeartbeats 1000000 in
theorem pendNil (n : Int) (s : ByteArray) (w : World) : Calls Try.prog 7 #[.int .i64 n, .string s] w fun e w' => e = .returned (.bool true) ∧ Below w.heap.size w w' := by
  go_enter Try.func7, Try.ntmps7
  go_wp2_with fail
  refine (nBegin _ _).mono ?_; rintro e w1 ⟨rfl, rfl⟩
  go_wp2_with fail
  refine (nLoad _).mono ?_; rintro e w1 ⟨rfl, hb1⟩
  go_wp2_with fail
  refine (nTake _ _).mono ?_; rintro e w2 ⟨rfl, hb2'⟩
  have hb2 := hb1.up hb2'
  clear hb1 hb2'
  go_wp2_with fail
  refine (nPeek _).mono ?_; rintro e w3 ⟨rfl, hb3'⟩
  have hb3 := hb2.up hb3'
  clear hb2 hb3'
  go_wp2_with fail
  refine (nLeft _).mono ?_; rintro e w4 ⟨rfl, hb4'⟩
  have hb4 := hb3.up hb4'
  clear hb3 hb4'
  go_wp2_with fail
  refine (nRest _).mono ?_; rintro e w5 ⟨rfl, hb5'⟩
  have hb5 := hb4.up hb5'
  clear hb4 hb5'
  go_wp2_with fail
  refine (nSent _).mono ?_; rintro e w6 ⟨rfl, hb6'⟩
  have hb6 := hb5.up hb6'
  clear hb5 hb6'
  go_wp2_with fail
  refine (nTries _).mono ?_; rintro e w7 ⟨rfl, hb7'⟩
  have hb7 := hb6.up hb7'
  clear hb6 hb7'
  go_wp2_with fail
  refine (nDrop _).mono ?_; rintro e w8 ⟨rfl, hb8'⟩
  have hb8 := hb7.up hb8'
  clear hb7 hb8'
  go_wp2_with fail
  refine (nCopy _).mono ?_; rintro e w9 ⟨rfl, hb9'⟩
  have hb9 := hb8.up hb9'
  clear hb8 hb9'
  go_wp2_with fail
  refine (pLives _).mono ?_; rintro e w10 ⟨rfl, hb10'⟩
  have hb10 := hb9.up hb10'
  clear hb9 hb10'
  go_wp2_with fail
  go_ret
  exact ⟨rfl, hb10⟩
end Go.Proofs.Ytpnbcepljehogaa
