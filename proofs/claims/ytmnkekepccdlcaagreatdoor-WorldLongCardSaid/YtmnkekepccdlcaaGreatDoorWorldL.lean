/-
  A round is read, and written: what every law of rounds ends with.
  Conditions: the tables and the error of range stand in their variables.
-/
import Derived.Test.YtmnkekepccdlcaaGreatDoorWgI
import Derived.Test.YtmnkekepccdlcaaGreatDoorWorldH
namespace Go.Proofs.YtmnkekepccdlcaaGreatDoor
set_option linter.unusedVariables false
set_option linter.unusedSimpArgs false
open Go.RowKit

set_option maxHeartbeats 4000000 in
set_option maxRecDepth 100000 in
theorem wLives (w : World) (he : EnvW w) : Calls Tryz.prog 30 #[] w fun e w' => e = .returned (.bool true) ∧ Below w.heap.size w w' := by
  have FR := worldRead ⟨livesT.toArray⟩ w (by decide) he
  have e0 : readW (⟨livesT.toArray⟩ : ByteArray).data.toList = .ok [rdL1] := read_lives
  rw [e0] at FR
  have FR := Lib.hid FR
  have FP : Hid (∀ w', EnvW w' → Calls Tryz.prog 37 #[.agg #[.int .i64 2, .slice none 0 0, .slice none 0 0, .slice none 0 0, .int .i64 4, .bool false]] w' fun e w'' => e = .returned (.tuple #[.string ⟨#[116, 105, 99, 107, 32, 50, 10, 100, 114, 97, 105, 110, 32, 51, 10]⟩, .int .i64 0]) ∧ Below w'.heap.size w' w'') := Lib.hid fun w' he' => by
    have hg : goodR rdL2 = true := by decide
    have := xPrint hd0 rdL2 w' ⟨fun k hk => absurd hk (by simp [rdL2]), fun k hk => absurd hk (by simp [rdL2]), fun k hk => absurd hk (by simp [rdL2])⟩ ⟨by decide, fun r hr => by simp at hr; subst hr; exact ⟨by decide, by decide, by decide⟩⟩ he' (fun _ => by rw [print_l2]; decide)
    rw [hg, if_pos rfl, if_pos rfl, print_l2] at this
    exact this
  have HE := Lib.hid he
  clear he e0
  go_enter Tryz.func30, Tryz.ntmps30
  go_wp2_with fail
  refine FR.out.mono ?_
  rintro e w1 ⟨-, ao, cap, l, hl, rfl, hR, b1⟩
  obtain ⟨h, rfl⟩ : ∃ h, l = [(h, rdL1)] := by
    match l, hl with
    | [(h, r)], hl =>
      simp only [List.map_cons, List.map_nil, List.cons.injEq, and_true] at hl
      exact ⟨h, by rw [hl]⟩
  obtain ⟨g, rfl, hg, d⟩ := hR.at_ 0 (by simp)
  obtain ⟨g2, off2, e2, d2⟩ := (hR.all (h, rdL1) (by simp)).rat.fs 0 (Nat.zero_lt_one)
  have D := Lib.hid d
  have D2 := Lib.hid d2
  have HB1 := Lib.hid b1
  clear hl hR d d2 b1 FR
  have b2 : Below w1.heap.size w1 (w1.alloc (.cells #[.int .i64 0, .int .i64 0] 49)) := (Below.refl _ _).alloc (Nat.le_refl _) _
  go_upto_region 2 with fail
  obtain ⟨w2, hw2⟩ : ∃ w2, w1.alloc (.cells #[.int .i64 0, .int .i64 0] 49) = w2 := ⟨_, rfl⟩
  rw [hw2] at b2 ⊢
  clear hw2
  have HB2 := Lib.hid (HB1.out.up b2)
  have FPH := Lib.hid (FP.out w2 (HE.out.later HB2.out))
  go_wp2_with fail
  refine FPH.out.mono ?_; rintro e w3 ⟨rfl, b3⟩
  have D := D.out w3 (b2.up b3)
  have D2 := D2.out w3 (b2.up b3)
  have HB3 := HB2.out.up b3
  clear b2 b3 FP FPH
  simp only [List.length_cons, List.length_nil, List.getElem_cons_zero, Nat.zero_mul, Nat.zero_add, Nat.add_zero] at D D2
  simp only [rdL1, List.length_cons, List.length_nil, List.getElem_cons_zero, Nat.zero_mul, Nat.zero_add, Nat.add_zero] at D D2
  obtain ⟨c0, c1, c2, c3, c4, c5, -⟩ := D
  obtain ⟨f0, f1, f2⟩ := D2
  rw [e2] at c2
  clear c1 c3 c4 c5 f0 f2 e2
  go_wp2_with fail
  go_ret
  exact ⟨rfl, HB3⟩
end Go.Proofs.YtmnkekepccdlcaaGreatDoor
