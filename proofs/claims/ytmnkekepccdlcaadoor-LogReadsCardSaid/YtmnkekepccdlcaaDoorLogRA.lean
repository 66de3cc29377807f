/-
  A step is written, and read.
  Conditions: the errors of strconv and the tables stand in their variables.
-/
import Derived.Test.YtmnkekepccdlcaaDoorLogQA
import Derived.Test.YtmnkekepccdlcaaDoorCut
namespace Go.Proofs.YtmnkekepccdlcaaDoor
set_option linter.unusedVariables false
set_option linter.unusedSimpArgs false
open Go.RowKit

def evE0 : Ev := ⟨8, 0, 0, 0, ⟨#[]⟩, 0, 5, 1, 2, 0, 3, 0⟩
def litE0 : List UInt8 := [115, 116, 101, 112, 32, 48, 32, 53, 32, 49, 32, 109, 97, 116, 99, 104, 32, 48, 32, 51, 32, 114, 117, 110]
theorem itoa_dig (n : Nat) (h : n < 10) : Lib.itoa (n : Int) = [UInt8.ofNat (48 + n)] := by rw [Lib.itoa_nonneg, dec_small h]
theorem line_E0 : lineT evE0 = litE0 := by
  have h0 : Lib.itoa 0 = [48] := itoa_dig 0 (by decide)
  have h1 : Lib.itoa 1 = [49] := itoa_dig 1 (by decide)
  have h3 : Lib.itoa 3 = [51] := itoa_dig 3 (by decide)
  have h5 : textT 5 = [53] := by
    unfold textT
    rw [if_neg (by decide)]
    exact dec_small (u := 5) (by decide)
  show joinL [wStep, Lib.itoa 0, textT 5, Lib.itoa 1, whatT 2, Lib.itoa 0, Lib.itoa 3, statT 0] = _
  rw [h0, h1, h3, h5]
  rfl
theorem good_E0 : goodT evE0 = true := by decide
theorem ev64_E0 : Ev64 evE0 := ⟨z64, z64, z64, z64, k64 (by decide) (by decide), k64 (by decide) (by decide), k64 (by decide) (by decide), z64, k64 (by decide) (by decide), z64, by decide⟩
theorem parse_E0 : parseEv litE0 = some evE0 := by
  rw [← line_E0]
  exact parse_line evE0 good_E0 ev64_E0.tick ev64_E0.sT ev64_E0.n

set_option maxHeartbeats 4000000 in
set_option maxRecDepth 100000 in
theorem lLives (w : World) (he : EnvL w) : Calls Tryd.prog 8 #[] w fun e w' => e = .returned (.bool true) ∧ Below w.heap.size w w' := by
  obtain ⟨w1, hw1⟩ : ∃ w1, w.alloc (.cells #[.int .i64 8, .int .i64 0, .int .i64 0, .int .i64 0, .string ⟨#[]⟩, .int .i64 0, .int .i64 5, .int .i64 1, .int .i64 2, .int .i64 0, .int .i64 3, .int .i64 0] 32) = w1 := ⟨_, rfl⟩
  have k1 : Blk w1 w.heap.size 32 #[.int .i64 8, .int .i64 0, .int .i64 0, .int .i64 0, .string ⟨#[]⟩, .int .i64 0, .int .i64 5, .int .i64 1, .int .i64 2, .int .i64 0, .int .i64 3, .int .i64 0] := by rw [← hw1]; exact Blk.new _ _ _
  have hb1 : Below w.heap.size w w1 := by rw [← hw1]; exact (Below.refl _ _).alloc (Nat.le_refl _) _
  have HW1 := Lib.hid hw1
  have FP : Calls Tryd.prog 12 #[.agg #[.int .i64 8, .int .i64 0, .int .i64 0, .int .i64 0, .string ⟨#[]⟩, .int .i64 0, .int .i64 5, .int .i64 1, .int .i64 2, .int .i64 0, .int .i64 3, .int .i64 0]] w1 fun e w' => e = .returned (.tuple #[.string ⟨#[115, 116, 101, 112, 32, 48, 32, 53, 32, 49, 32, 109, 97, 116, 99, 104, 32, 48, 32, 51, 32, 114, 117, 110]⟩, .int .i64 0]) ∧ Below w1.heap.size w1 w' := by
    have := lPrint evE0 w1 ev64_E0 (he.later hb1).pow
    rw [good_E0, if_pos rfl, if_pos rfl, line_E0] at this
    exact this
  have FR : ∀ w', EnvL w' → Calls Tryd.prog 7 #[.string ⟨#[115, 116, 101, 112, 32, 48, 32, 53, 32, 49, 32, 109, 97, 116, 99, 104, 32, 48, 32, 51, 32, 114, 117, 110]⟩] w' fun e w'' => e = .returned (.tuple #[.agg #[.int .i64 8, .int .i64 0, .int .i64 0, .int .i64 0, .string ⟨#[]⟩, .int .i64 0, .int .i64 5, .int .i64 1, .int .i64 2, .int .i64 0, .int .i64 3, .int .i64 0], .int .i64 0]) ∧ Below w'.heap.size w' w'' := fun w' he' => by
    have := lParse litE0 (by decide) w' he'
    rw [parse_E0] at this
    exact this
  have HP := Lib.hid FP
  have HR := Lib.hid FR
  have HE := Lib.hid he
  obtain ⟨q1, hq1⟩ : ∃ q, w.heap.size = q := ⟨_, rfl⟩
  have HQ := Lib.hid hq1
  rw [hq1] at k1
  have K1 := Lib.hid k1
  have HB := Lib.hid hb1
  have d1 := k1.at12
  have hr := Below.refl w1.heap.size w1
  clear hw1 FP FR he hq1 k1 hb1
  go_enter Tryd.func8, Tryd.ntmps8
  go_upto_region 2 with fail
  rw [HW1.out, HQ.out]
  go_wp2_with fail
  refine HP.out.mono ?_; rintro e w2 ⟨rfl, hb2⟩
  have HB2 := Lib.hid (HB.out.up hb2)
  have K2 := Lib.hid (K1.out.later hb2)
  clear d1 hr hb2
  go_wp2_with fail
  refine (HR.out _ (HE.out.later HB2.out)).mono ?_; rintro e w3 ⟨rfl, hb3⟩
  have HB3 := Lib.hid (HB2.out.up hb3)
  have K3 := Lib.hid (K2.out.later hb3)
  clear hb3
  go_upto_region 4 with fail
  obtain ⟨w4, hw4⟩ : ∃ w4, w3.alloc (.cells #[.int .i64 8, .int .i64 0, .int .i64 0, .int .i64 0, .string ⟨#[]⟩, .int .i64 0, .int .i64 5, .int .i64 1, .int .i64 2, .int .i64 0, .int .i64 3, .int .i64 0] 32) = w4 := ⟨_, rfl⟩
  have k4 : Blk w4 w3.heap.size 32 #[.int .i64 8, .int .i64 0, .int .i64 0, .int .i64 0, .string ⟨#[]⟩, .int .i64 0, .int .i64 5, .int .i64 1, .int .i64 2, .int .i64 0, .int .i64 3, .int .i64 0] := by rw [← hw4]; exact Blk.new _ _ _
  have k1 : Blk w4 q1 32 #[.int .i64 8, .int .i64 0, .int .i64 0, .int .i64 0, .string ⟨#[]⟩, .int .i64 0, .int .i64 5, .int .i64 1, .int .i64 2, .int .i64 0, .int .i64 3, .int .i64 0] := by rw [← hw4]; exact K3.out.alloc _
  have hb4 : Below w.heap.size w w4 := by rw [← hw4]; exact HB3.out.alloc HB3.out.size _
  rw [hw4]
  obtain ⟨q4, hq4⟩ : ∃ q, w3.heap.size = q := ⟨_, rfl⟩
  rw [hq4] at k4 ⊢
  clear hw4 hq4
  have d1 := k1.at12
  have d4 := k4.at12
  have hr := Below.refl w4.heap.size w4
  have HB4 := Lib.hid hb4
  clear k1 k4 hb4
  go_wp2_with fail
  go_ret
  exact ⟨rfl, HB4.out⟩

end Go.Proofs.YtmnkekepccdlcaaDoor
