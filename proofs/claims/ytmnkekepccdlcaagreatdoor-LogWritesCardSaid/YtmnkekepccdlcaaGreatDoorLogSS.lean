/-
  The walk of LogPrints.
  Conditions: the errors of strconv and the tables stand in their variables.
-/
import Derived.Test.YtmnkekepccdlcaaGreatDoorLogQA
import Derived.Test.YtmnkekepccdlcaaGreatDoorCut
import Derived.Test.YtmnkekepccdlcaaGreatDoorLogQ
import Derived.Test.YtmnkekepccdlcaaGreatDoorRefNA
import Derived.Test.YtmnkekepccdlcaaGreatDoorRefNB
import Derived.Test.YtmnkekepccdlcaaGreatDoorRefNC
import Derived.Test.YtmnkekepccdlcaaGreatDoorLogL
namespace Go.Proofs.YtmnkekepccdlcaaGreatDoor
set_option linter.unusedVariables false
set_option linter.unusedSimpArgs false
open Go.RowKit

def evE0 : Ev := ⟨8, 0, 0, 0, ⟨#[]⟩, 0, 5, 1, 2, 0, 3, 0⟩
def litE0 : List UInt8 := [115, 116, 101, 112, 32, 48, 32, 53, 32, 49, 32, 109, 97, 116, 99, 104, 32, 48, 32, 51, 32, 114, 117, 110]
theorem itoa_dig (n : Nat) (h : n < 10) : Lib.itoa (n : Int) = [UInt8.ofNat (48 + n)] := by rw [Lib.itoa_nonneg, dec_small h]
theorem line_E0 : lineT evE0 = litE0 := by
  have h0 : Lib.itoa 0 = [48] := itoa_dig 0 (by decide)
  have h1 : Lib.itoa 1 = [49] := itoa_dig 1 (by decide)
  have h3 : Lib.itoa 3 = [51] := itoa_dig 3 (by decide)
  have h5 : textT 5 = [53] := by
    unfold textT
    rw [if_neg (by decide)]
    exact dec_small (u := 5) (by decide)
  show joinL [wStep, Lib.itoa 0, textT 5, Lib.itoa 1, whatT 2, Lib.itoa 0, Lib.itoa 3, statT 0] = _
  rw [h0, h1, h3, h5]
  rfl
theorem good_E0 : goodT evE0 = true := by decide
theorem ev64_E0 : Ev64 evE0 := ⟨z64, z64, z64, z64, k64 (by decide) (by decide), k64 (by decide) (by decide), k64 (by decide) (by decide), z64, k64 (by decide) (by decide), z64, by decide⟩
theorem parse_E0 : parseEv litE0 = some evE0 := by
  rw [← line_E0]
  exact parse_line evE0 good_E0 ev64_E0.tick ev64_E0.sT ev64_E0.n

set_option maxHeartbeats 4000000 in
set_option maxRecDepth 100000 in
theorem lLives (w : World) (he : EnvL w) : Calls Tryz.prog 13 #[] w fun e w' => e = .returned (.bool true) ∧ Below w.heap.size w w' := by
  obtain ⟨w1, hw1⟩ : ∃ w1, w.alloc (.cells #[.int .i64 8, .int .i64 0, .int .i64 0, .int .i64 0, .string ⟨#[]⟩, .int .i64 0, .int .i64 5, .int .i64 1, .int .i64 2, .int .i64 0, .int .i64 3, .int .i64 0] 27) = w1 := ⟨_, rfl⟩
  have k1 : Blk w1 w.heap.size 27 #[.int .i64 8, .int .i64 0, .int .i64 0, .int .i64 0, .string ⟨#[]⟩, .int .i64 0, .int .i64 5, .int .i64 1, .int .i64 2, .int .i64 0, .int .i64 3, .int .i64 0] := by rw [← hw1]; exact Blk.new _ _ _
  have hb1 : Below w.heap.size w w1 := by rw [← hw1]; exact (Below.refl _ _).alloc (Nat.le_refl _) _
  have HW1 := Lib.hid hw1
  have FP : Calls Tryz.prog 16 #[.agg #[.int .i64 8, .int .i64 0, .int .i64 0, .int .i64 0, .string ⟨#[]⟩, .int .i64 0, .int .i64 5, .int .i64 1, .int .i64 2, .int .i64 0, .int .i64 3, .int .i64 0]] w1 fun e w' => e = .returned (.tuple #[.string ⟨#[115, 116, 101, 112, 32, 48, 32, 53, 32, 49, 32, 109, 97, 116, 99, 104, 32, 48, 32, 51, 32, 114, 117, 110]⟩, .int .i64 0]) ∧ Below w1.heap.size w1 w' := by
    have := lPrint evE0 w1 ev64_E0 (he.later hb1).pow
    rw [good_E0, if_pos rfl, if_pos rfl, line_E0] at this
    exact this
  have FR : ∀ w', EnvL w' → Calls Tryz.prog 12 #[.string ⟨#[115, 116, 101, 112, 32, 48, 32, 53, 32, 49, 32, 109, 97, 116, 99, 104, 32, 48, 32, 51, 32, 114, 117, 110]⟩] w' fun e w'' => e = .returned (.tuple #[.agg #[.int .i64 8, .int .i64 0, .int .i64 0, .int .i64 0, .string ⟨#[]⟩, .int .i64 0, .int .i64 5, .int .i64 1, .int .i64 2, .int .i64 0, .int .i64 3, .int .i64 0], .int .i64 0]) ∧ Below w'.heap.size w' w'' := fun w' he' => by
    have := lParse litE0 (by decide) w' he'
    rw [parse_E0] at this
    exact this
  have HP := Lib.hid FP
  have HR := Lib.hid FR
  have HE := Lib.hid he
  obtain ⟨q1, hq1⟩ : ∃ q, w.heap.size = q := ⟨_, rfl⟩
  have HQ := Lib.hid hq1
  rw [hq1] at k1
  have K1 := Lib.hid k1
  have HB := Lib.hid hb1
  have d1 := k1.at12
  have hr := Below.refl w1.heap.size w1
  clear hw1 FP FR he hq1 k1 hb1
  go_enter Tryz.func13, Tryz.ntmps13
  go_upto_region 2 with fail
  rw [HW1.out, HQ.out]
  go_wp2_with fail
  refine HP.out.mono ?_; rintro e w2 ⟨rfl, hb2⟩
  have HB2 := Lib.hid (HB.out.up hb2)
  have K2 := Lib.hid (K1.out.later hb2)
  clear d1 hr hb2
  go_wp2_with fail
  refine (HR.out _ (HE.out.later HB2.out)).mono ?_; rintro e w3 ⟨rfl, hb3⟩
  have HB3 := Lib.hid (HB2.out.up hb3)
  have K3 := Lib.hid (K2.out.later hb3)
  clear hb3
  go_upto_region 4 with fail
  obtain ⟨w4, hw4⟩ : ∃ w4, w3.alloc (.cells #[.int .i64 8, .int .i64 0, .int .i64 0, .int .i64 0, .string ⟨#[]⟩, .int .i64 0, .int .i64 5, .int .i64 1, .int .i64 2, .int .i64 0, .int .i64 3, .int .i64 0] 27) = w4 := ⟨_, rfl⟩
  have k4 : Blk w4 w3.heap.size 27 #[.int .i64 8, .int .i64 0, .int .i64 0, .int .i64 0, .string ⟨#[]⟩, .int .i64 0, .int .i64 5, .int .i64 1, .int .i64 2, .int .i64 0, .int .i64 3, .int .i64 0] := by rw [← hw4]; exact Blk.new _ _ _
  have k1 : Blk w4 q1 27 #[.int .i64 8, .int .i64 0, .int .i64 0, .int .i64 0, .string ⟨#[]⟩, .int .i64 0, .int .i64 5, .int .i64 1, .int .i64 2, .int .i64 0, .int .i64 3, .int .i64 0] := by rw [← hw4]; exact K3.out.alloc _
  have hb4 : Below w.heap.size w w4 := by rw [← hw4]; exact HB3.out.alloc HB3.out.size _
  rw [hw4]
  obtain ⟨q4, hq4⟩ : ∃ q, w3.heap.size = q := ⟨_, rfl⟩
  rw [hq4] at k4 ⊢
  clear hw4 hq4
  have d1 := k1.at12
  have d4 := k4.at12
  have hr := Below.refl w4.heap.size w4
  have HB4 := Lib.hid hb4
  clear k1 k4 hb4
  go_wp2_with fail
  go_ret
  exact ⟨rfl, HB4.out⟩

end Go.Proofs.YtmnkekepccdlcaaGreatDoor

namespace Go.Proofs.YtmnkekepccdlcaaGreatDoor
set_option linter.unusedVariables false
set_option linter.unusedSimpArgs false
open Go.RowKit

set_option maxHeartbeats 4000000 in
set_option maxRecDepth 100000 in
theorem logParses (s : ByteArray) (w : World) (he : EnvL w) : Calls Tryz.prog 3 #[.string s] w fun e w' => e = .returned (.bool true) ∧ Below w.heap.size w w' := by
  have hS := cutT_size s 90
  have HE := Lib.hid he
  obtain ⟨l, hl⟩ : ∃ l, (cutT s 90).data.toList = l := ⟨_, rfl⟩
  have hlen : l.length ≤ 90 := by rw [← hl]; exact hS
  have hc : cutT s 90 = ⟨l.toArray⟩ := hl ▸ (bt_data _).symm
  have HC := Lib.hid hc
  have HF := Lib.hid (lParse l (by omega) w he)
  have HLV := Lib.hid (fun w' he' => lLives w' he')
  have hfm : ∀ k, (atW (splitT l) k).length ≤ 20000 := fun k => by
    unfold atW
    cases h : (splitT l)[k]? with
    | none => simp
    | some x => have := (splitT_facts l).2.2 x (List.mem_of_getElem? h); simp; omega
  clear hS hl hc he hlen
  cases hp : parseEv l with
  | none =>
    rw [hp] at HF
    have HF : Hid (Calls Tryz.prog 12 #[.string ⟨l.toArray⟩] w fun e w' => e = .returned (.tuple #[.agg #[.int .i64 0, .int .i64 0, .int .i64 0, .int .i64 0, .string ⟨#[]⟩, .int .i64 0, .int .i64 0, .int .i64 0, .int .i64 0, .int .i64 0, .int .i64 0, .int .i64 0], .int .i64 2]) ∧ Below w.heap.size w w') := HF
    clear hp hfm
    go_enter Tryz.func3, Tryz.ntmps3
    go_wp2_with fail
    refine (xCut s 90 _).mono ?_; rintro e w1 ⟨rfl, rfl⟩
    rw [HC.out]
    go_wp2_with fail
    refine HF.out.mono ?_; rintro e w2 ⟨rfl, hb2⟩
    go_upto_region 3 with fail
    obtain ⟨w3, hw3⟩ : ∃ w3, w2.alloc (.cells #[.int .i64 0, .int .i64 0, .int .i64 0, .int .i64 0, .string ⟨#[]⟩, .int .i64 0, .int .i64 0, .int .i64 0, .int .i64 0, .int .i64 0, .int .i64 0, .int .i64 0] 27) = w3 := ⟨_, rfl⟩
    have k3 : Blk w3 w2.heap.size 27 #[.int .i64 0, .int .i64 0, .int .i64 0, .int .i64 0, .string ⟨#[]⟩, .int .i64 0, .int .i64 0, .int .i64 0, .int .i64 0, .int .i64 0, .int .i64 0, .int .i64 0] := by rw [← hw3]; exact Blk.new _ _ _
    have hb3 : Below w.heap.size w w3 := by rw [← hw3]; exact hb2.alloc hb2.size _
    rw [hw3]
    clear hw3
    have d3 := k3.at12
    have hr := Below.refl w3.heap.size w3
    clear k3
    go_wp2_with fail
    refine (HLV.out _ (HE.out.later hb3)).mono ?_; rintro e w4 ⟨rfl, hb4⟩
    go_wp2_with fail
    go_ret
    exact ⟨rfl, hb3.up hb4⟩
  | some x =>
    rw [hp] at HF
    have HF : Hid (Calls Tryz.prog 12 #[.string ⟨l.toArray⟩] w fun e w' => e = .returned (.tuple #[.agg #[.int .i64 x.kind, .int .i64 x.id, .int .i64 x.n, .int .i64 x.tick, .string x.bytes, .int .i64 x.err, .int .i64 x.sT, .int .i64 x.sA, .int .i64 x.sW, .int .i64 x.sR, .int .i64 x.sN, .int .i64 x.sS], .int .i64 0]) ∧ Below w.heap.size w w') := HF
    obtain ⟨hg, hln⟩ := parse_good hp
    have h64 : Ev64 x := by
      have hx : x = someT (splitT l) := by
        unfold parseEv at hp
        split at hp
        · injection hp with hp; exact hp.symm
        · cases hp
      rw [hx]; exact some_64 _ hfm
    have HG : Hid (∀ w', Calls Tryz.prog 14 #[.agg #[.int .i64 x.kind, .int .i64 x.id, .int .i64 x.n, .int .i64 x.tick, .string x.bytes, .int .i64 x.err, .int .i64 x.sT, .int .i64 x.sA, .int .i64 x.sW, .int .i64 x.sR, .int .i64 x.sN, .int .i64 x.sS]] w' fun e w'' => e = .returned (.bool true) ∧ Below w'.heap.size w' w'') := Lib.hid fun w' => rGoodT x w' hg
    have HP : Hid (∀ w', Calls Tryz.prog 15 #[.agg #[.int .i64 x.kind, .int .i64 x.id, .int .i64 x.n, .int .i64 x.tick, .string x.bytes, .int .i64 x.err, .int .i64 x.sT, .int .i64 x.sA, .int .i64 x.sW, .int .i64 x.sR, .int .i64 x.sN, .int .i64 x.sS]] w' fun e w'' => e = .returned (.string ⟨l.toArray⟩) ∧ Below w'.heap.size w' w'') := Lib.hid fun w' => by
      have := rPrintT x w' hg h64
      rw [hln] at this
      exact this
    clear hp hfm hg hln h64
    go_enter Tryz.func3, Tryz.ntmps3
    go_wp2_with fail
    refine (xCut s 90 _).mono ?_; rintro e w1 ⟨rfl, rfl⟩
    rw [HC.out]
    go_wp2_with fail
    refine HF.out.mono ?_; rintro e w2 ⟨rfl, hb2⟩
    go_upto_region 3 with fail
    obtain ⟨w3, hw3⟩ : ∃ w3, w2.alloc (.cells #[.int .i64 x.kind, .int .i64 x.id, .int .i64 x.n, .int .i64 x.tick, .string x.bytes, .int .i64 x.err, .int .i64 x.sT, .int .i64 x.sA, .int .i64 x.sW, .int .i64 x.sR, .int .i64 x.sN, .int .i64 x.sS] 27) = w3 := ⟨_, rfl⟩
    have k3 : Blk w3 w2.heap.size 27 #[.int .i64 x.kind, .int .i64 x.id, .int .i64 x.n, .int .i64 x.tick, .string x.bytes, .int .i64 x.err, .int .i64 x.sT, .int .i64 x.sA, .int .i64 x.sW, .int .i64 x.sR, .int .i64 x.sN, .int .i64 x.sS] := by rw [← hw3]; exact Blk.new _ _ _
    have hb3 : Below w.heap.size w w3 := by rw [← hw3]; exact hb2.alloc hb2.size _
    rw [hw3]
    obtain ⟨q3, hq3⟩ : ∃ q, w2.heap.size = q := ⟨_, rfl⟩
    rw [hq3] at k3 ⊢
    clear hw3 hq3
    have K3 := Lib.hid k3
    have d3 := k3.at12
    have hr := Below.refl w3.heap.size w3
    clear k3
    go_wp2_with fail
    refine (HG.out _).mono ?_; rintro e w4 ⟨rfl, hb4⟩
    have hb5 := hb3.up hb4
    have K4 := Lib.hid (K3.out.later hb4)
    clear d3 hr hb4 hb3 hb2
    have d3 := K4.out.at12
    have hr := Below.refl w4.heap.size w4
    go_wp2_with fail
    refine (HP.out _).mono ?_; rintro e w5 ⟨rfl, hb6⟩
    have hb7 := hb5.up hb6
    clear d3 hr hb6 hb5
    go_wp2_with fail
    refine (HLV.out _ (HE.out.later hb7)).mono ?_; rintro e w6 ⟨rfl, hb8⟩
    go_wp2_with fail
    go_ret
    exact ⟨rfl, hb7.up hb8⟩
end Go.Proofs.YtmnkekepccdlcaaGreatDoor

namespace Go.Proofs.YtmnkekepccdlcaaGreatDoor
set_option linter.unusedVariables false
set_option linter.unusedSimpArgs false
open Go.RowKit

set_option maxHeartbeats 4000000 in
set_option maxRecDepth 100000 in
theorem rGoodOut (k d n t : Int) (b : ByteArray) (er s1 s2 s3 s4 s5 s6 : Int) (w : World) (hk : k < 1 ∨ 9 < k) :
    Calls Tryz.prog 14 #[.agg #[.int .i64 k, .int .i64 d, .int .i64 n, .int .i64 t, .string b, .int .i64 er, .int .i64 s1, .int .i64 s2, .int .i64 s3, .int .i64 s4, .int .i64 s5, .int .i64 s6]] w fun e w' => e = .returned (.bool false) ∧ Below w.heap.size w w' := by
  obtain ⟨w1, hw1⟩ : ∃ w1, w.alloc (.cells #[.int .i64 k, .int .i64 d, .int .i64 n, .int .i64 t, .string b, .int .i64 er, .int .i64 s1, .int .i64 s2, .int .i64 s3, .int .i64 s4, .int .i64 s5, .int .i64 s6] 27) = w1 := ⟨_, rfl⟩
  have k1 : Blk w1 w.heap.size 27 #[.int .i64 k, .int .i64 d, .int .i64 n, .int .i64 t, .string b, .int .i64 er, .int .i64 s1, .int .i64 s2, .int .i64 s3, .int .i64 s4, .int .i64 s5, .int .i64 s6] := by rw [← hw1]; exact Blk.new _ _ _
  have hb : Below w.heap.size w w1 := by rw [← hw1]; exact (Below.refl _ _).alloc (Nat.le_refl _) _
  have HW1 := Lib.hid hw1
  have HB := Lib.hid hb
  obtain ⟨q1, hq1⟩ : ∃ q, w.heap.size = q := ⟨_, rfl⟩
  have HQ := Lib.hid hq1
  rw [hq1] at k1
  have d1 := k1.at12
  have hr := Below.refl w1.heap.size w1
  have f1 := ne_b (show ¬ k = 1 by omega)
  have f4 := ne_b (show ¬ k = 4 by omega)
  have f6 := ne_b (show ¬ k = 6 by omega)
  have f7 := ne_b (show ¬ k = 7 by omega)
  clear hw1 hb k1 hq1
  by_cases hk1 : k < 1
  all_goals (
    first | (have g1 : decide (k < 1) = true := decide_eq_true hk1; clear hk) | (have g1 : decide (k < 1) = false := decide_eq_false hk1; have g2 : decide (9 < k) = true := decide_eq_true (by omega); clear hk)
    clear hk1
    go_enter Tryz.func14, Tryz.ntmps14
    go_upto_region 1 with fail
    rw [HW1.out, HQ.out]
    go_cut [3, 4] (fun v3 v4 wx => v3 = .int .i64 k ∧ Below w1.heap.size w1 wx)
    case first =>
      by_cases h0 : 0 ≤ d
      · refine wp_region_later w1.heap.size (by kernel_rfl) (by kernel_rfl) ?_
        have hu : ∀ u : Later w1.heap.size w1, Below w1.heap.size w1 u.world := Later.below
        repeat (go_big_quiet_step ((fail)))
        refine wpQuiet_nil ?_
        intro w2 hb2
        clear hu
        go_wp2_with fail
        go_meet
        exact ⟨rfl, hb2⟩
      · have h1 : decide (0 ≤ d) = false := decide_eq_false h0
        refine wp_region_later w1.heap.size (by kernel_rfl) (by kernel_rfl) ?_
        have hu : ∀ u : Later w1.heap.size w1, Below w1.heap.size w1 u.world := Later.below
        repeat (go_big_quiet_step ((fail)))
        refine wpQuiet_nil ?_
        intro w2 hb2
        clear hu
        go_wp2_with fail
        go_meet
        exact ⟨rfl, hb2⟩
    case rest =>
      obtain ⟨rfl, hbx⟩ := hcut
      go_wp2_with fail
      go_ret
      exact ⟨rfl, HB.out.up hbx⟩)
theorem rGoodAll (x : Ev) (w : World) (h64 : Ev64 x) (hs : x.bytes.size ≤ 1000) : Calls Tryz.prog 14 #[.agg (evC x)] w fun e w' => e = .returned (.bool (goodT x)) ∧ Below w.heap.size w w' := by
  obtain ⟨k, d, n, t, b, er, s1, s2, s3, s4, s5, s6⟩ := x
  by_cases hk : k < 1 ∨ 9 < k
  · have hg : goodT ⟨k, d, n, t, b, er, s1, s2, s3, s4, s5, s6⟩ = false := by unfold goodT; rw [show inT k 1 9 = false by unfold inT; simp; omega]; simp
    rw [hg]
    exact rGoodOut k d n t b er s1 s2 s3 s4 s5 s6 w hk
  · have hq : k = 1 ∨ k = 2 ∨ k = 3 ∨ k = 4 ∨ k = 5 ∨ k = 6 ∨ k = 7 ∨ k = 8 ∨ k = 9 := by omega
    rcases hq with rfl | rfl | rfl | rfl | rfl | rfl | rfl | rfl | rfl
    · exact rGoodK1 d n t b er s1 s2 s3 s4 s5 s6 w hs h64.sW h64.sS
    · exact rGoodK2 d n t b er s1 s2 s3 s4 s5 s6 w hs h64.sW h64.sS
    · exact rGoodK3 d n t b er s1 s2 s3 s4 s5 s6 w hs h64.sW h64.sS
    · exact rGoodK4 d n t b er s1 s2 s3 s4 s5 s6 w hs h64.sW h64.sS
    · exact rGoodK5 d n t b er s1 s2 s3 s4 s5 s6 w hs h64.sW h64.sS
    · exact rGoodK6 d n t b er s1 s2 s3 s4 s5 s6 w hs h64.sW h64.sS
    · exact rGoodK7 d n t b er s1 s2 s3 s4 s5 s6 w hs h64.sW h64.sS
    · exact rGoodK8 d n t b er s1 s2 s3 s4 s5 s6 w hs h64.sW h64.sS
    · exact rGoodK9 d n t b er s1 s2 s3 s4 s5 s6 w hs h64.sW h64.sS
end Go.Proofs.YtmnkekepccdlcaaGreatDoor

namespace Go.Proofs.YtmnkekepccdlcaaGreatDoor
set_option linter.unusedVariables false
set_option linter.unusedSimpArgs false
open Go.RowKit

theorem joinL_100 : ∀ (l : List (List UInt8)), (∀ x ∈ l, x.length ≤ 100) → (joinL l).length ≤ l.length * 101
  | [], _ => by simp [joinL]
  | [x], h => by have := h x (by simp); simp [joinL]; omega
  | x :: y :: l, h => by
    have h1 := h x (by simp)
    have h2 := joinL_100 (y :: l) (fun z hz => h z (by simp at hz ⊢; exact .inr hz))
    show (x ++ 32 :: joinL (y :: l)).length ≤ _
    rw [List.length_append, List.length_cons]
    simp only [List.length_cons] at h2 ⊢
    omega
theorem line_len (x : Ev) (h64 : Ev64 x) (hs : x.bytes.size ≤ 24) : (lineT x).length ≤ 10000 := by
  have a1 := itoa_21 h64.id
  have a2 := itoa_21 h64.n
  have a3 := text_21 h64.tick
  have a4 := itoa_21 h64.err
  have a5 := text_21 h64.sT
  have a6 := itoa_21 h64.sA
  have a7 : (whatT x.sW).length ≤ 100 := word_100 _ (by decide) _
  have a8 := itoa_21 h64.sR
  have a9 := itoa_21 h64.sN
  have a10 : (statT x.sS).length ≤ 100 := word_100 _ (by decide) _
  have a11 : (quoteT x.bytes.data.toList).length ≤ 100 := by
    unfold quoteT
    have h1 := flat_len x.bytes.data.toList
    have h2 : x.bytes.data.toList.length = x.bytes.size := rfl
    simp only [List.length_cons, List.length_append, List.length_nil]
    omega
  unfold lineT evWords
  repeat' split
  all_goals (
    refine Nat.le_trans (joinL_100 _ ?_) (by simp)
    intro y hy
    simp only [List.mem_cons, List.not_mem_nil, or_false] at hy
    rcases hy with rfl | rfl | rfl | rfl | rfl | rfl | rfl | rfl <;> first | omega | (simp; done))

set_option maxHeartbeats 8000000 in
set_option maxRecDepth 100000 in
theorem logPrintsX (x : Ev) (b0 : ByteArray) (nn : Int) (w : World) (h64 : Ev64 x) (hc : cutT b0 24 = x.bytes) (hs : x.bytes.size ≤ 24) (hn : i64 nn) (he : EnvL w) :
    Calls Tryz.prog 4 #[.agg (evC { x with bytes := b0 }), .int .i64 nn] w fun e w' => e = .returned (.bool true) ∧ Below w.heap.size w w' := by
  have HC := Lib.hid hc
  have HE := Lib.hid he
  have H6 := Lib.hid h64
  have HLV := Lib.hid (fun w' he' => lLives w' he')
  have GP : Hid (∀ w', EnvL w' → Calls Tryz.prog 16 #[.agg #[.int .i64 x.kind, .int .i64 x.id, .int .i64 x.n, .int .i64 x.tick, .string x.bytes, .int .i64 x.err, .int .i64 x.sT, .int .i64 x.sA, .int .i64 x.sW, .int .i64 x.sR, .int .i64 x.sN, .int .i64 x.sS]] w' fun e w'' => e = .returned (.tuple #[.string ⟨(if goodT x = true then lineT x else []).toArray⟩, .int .i64 (if goodT x = true then 0 else 2)]) ∧ Below w'.heap.size w' w'') := Lib.hid fun w' he' => lPrint x w' h64 he'.pow
  have GG : Hid (∀ w', Calls Tryz.prog 17 #[.agg #[.int .i64 x.kind, .int .i64 x.id, .int .i64 x.n, .int .i64 x.tick, .string x.bytes, .int .i64 x.err, .int .i64 x.sT, .int .i64 x.sA, .int .i64 x.sW, .int .i64 x.sR, .int .i64 x.sN, .int .i64 x.sS]] w' fun e w'' => e = .returned (.bool (goodT x)) ∧ Below w'.heap.size w' w'') := Lib.hid fun w' => lGoodP x w' (Nat.le_trans h64.bytes (by decide))
  have GR : Hid (∀ w', Calls Tryz.prog 14 #[.agg #[.int .i64 x.kind, .int .i64 x.id, .int .i64 x.n, .int .i64 x.tick, .string x.bytes, .int .i64 x.err, .int .i64 x.sT, .int .i64 x.sA, .int .i64 x.sW, .int .i64 x.sR, .int .i64 x.sN, .int .i64 x.sS]] w' fun e w'' => e = .returned (.bool (goodT x)) ∧ Below w'.heap.size w' w'') := Lib.hid fun w' => rGoodAll x w' h64 (Nat.le_trans hs (by decide))
  have F1 := Lib.hid (fun w' => lWhat nn w' hn)
  have F2 := Lib.hid (fun w' => rWhat nn w' hn)
  have F3 := Lib.hid (fun w' => lStatus nn w' hn)
  have F4 := Lib.hid (fun w' => rStatus nn w' hn)
  generalize whatT nn = TW at *
  generalize statT nn = TS at *
  obtain ⟨w1, hw1⟩ : ∃ w1, w.alloc (.cells #[.int .i64 x.kind, .int .i64 x.id, .int .i64 x.n, .int .i64 x.tick, .string x.bytes, .int .i64 x.err, .int .i64 x.sT, .int .i64 x.sA, .int .i64 x.sW, .int .i64 x.sR, .int .i64 x.sN, .int .i64 x.sS] 27) = w1 := ⟨_, rfl⟩
  have k1 : Blk w1 w.heap.size 27 #[.int .i64 x.kind, .int .i64 x.id, .int .i64 x.n, .int .i64 x.tick, .string x.bytes, .int .i64 x.err, .int .i64 x.sT, .int .i64 x.sA, .int .i64 x.sW, .int .i64 x.sR, .int .i64 x.sN, .int .i64 x.sS] := by rw [← hw1]; exact Blk.new _ _ _
  have hb1 : Below w.heap.size w w1 := by rw [← hw1]; exact (Below.refl _ _).alloc (Nat.le_refl _) _
  have HW1 := Lib.hid hw1
  obtain ⟨q1, hq1⟩ : ∃ q, w.heap.size = q := ⟨_, rfl⟩
  have HQ := Lib.hid hq1
  rw [hq1] at k1
  have K1 := Lib.hid k1
  have HB1 := Lib.hid hb1
  have HLL := Lib.hid (line_len x h64 hs)
  clear hc he h64 hs hn hw1 hq1 k1 hb1
  simp only [evC] at HW1 ⊢
  go_enter Tryz.func4, Tryz.ntmps4
  go_wp2_with fail
  refine (xCut b0 24 _).mono ?_; rintro e w0 ⟨rfl, rfl⟩
  rw [HC.out]
  go_upto_region 2 with fail
  rw [HW1.out, HQ.out]
  have d1 := K1.out.at12
  have hr := Below.refl w1.heap.size w1
  cases hg : goodT x
  all_goals (
    rw [hg] at GP GG GR
    go_wp2_with fail
    refine (GP.out _ (HE.out.later HB1.out)).mono ?_; rintro e w2 ⟨rfl, hb2⟩
    have HB2 := Lib.hid (HB1.out.up hb2)
    have K2 := Lib.hid (K1.out.later hb2)
    clear d1 hr hb2
    have d1 := K2.out.at12
    have hr := Below.refl w2.heap.size w2
    go_upto_region 3 with fail
    refine wp_region_later w2.heap.size (by kernel_rfl) (by kernel_rfl) ?_
    have hu : ∀ u : Later w2.heap.size w2, Below w2.heap.size w2 u.world := Later.below
    repeat (go_big_quiet_step ((first | (go_at_call 17; exact later_below (Nat.le_refl _) (GG.out _)) | (go_at_call 14; exact later_below (Nat.le_refl _) (GR.out _)) | (go_at_call 18; exact later_below (Nat.le_refl _) (F1.out _)) | (go_at_call 19; exact later_below (Nat.le_refl _) (F2.out _)) | (go_at_call 20; exact later_below (Nat.le_refl _) (F3.out _)) | (go_at_call 21; exact later_below (Nat.le_refl _) (F4.out _)))))
    refine wpQuiet_nil ?_
    intro w3 hb3
    have HB3 := Lib.hid (HB2.out.up hb3)
    have K3 := Lib.hid (K2.out.later hb3)
    clear hu d1 hr hb3
    have d1 := K3.out.at12
    have hr := Below.refl w3.heap.size w3
    go_wp2_with fail
    refine (GR.out _).mono ?_; rintro e w4 ⟨rfl, hb4⟩
    have HB4 := Lib.hid (HB3.out.up hb4)
    have K4 := Lib.hid (K3.out.later hb4)
    clear d1 hr hb4
    have d1 := K4.out.at12
    have hr := Below.refl w4.heap.size w4)
  · go_wp2_with fail
    refine (HLV.out _ (HE.out.later HB4.out)).mono ?_; rintro e w5 ⟨rfl, hb5⟩
    go_wp2_with fail
    go_ret
    exact ⟨rfl, HB4.out.up hb5⟩
  · have GPR : Hid (∀ w', Calls Tryz.prog 15 #[.agg #[.int .i64 x.kind, .int .i64 x.id, .int .i64 x.n, .int .i64 x.tick, .string x.bytes, .int .i64 x.err, .int .i64 x.sT, .int .i64 x.sA, .int .i64 x.sW, .int .i64 x.sR, .int .i64 x.sN, .int .i64 x.sS]] w' fun e w'' => e = .returned (.string ⟨(lineT x).toArray⟩) ∧ Below w'.heap.size w' w'') := Lib.hid fun w' => rPrintT x w' hg H6.out
    have GPA : Hid (∀ w', EnvL w' → Calls Tryz.prog 12 #[.string ⟨(lineT x).toArray⟩] w' fun e w'' => e = .returned (.tuple #[.agg #[.int .i64 x.kind, .int .i64 x.id, .int .i64 x.n, .int .i64 x.tick, .string x.bytes, .int .i64 x.err, .int .i64 x.sT, .int .i64 x.sA, .int .i64 x.sW, .int .i64 x.sR, .int .i64 x.sN, .int .i64 x.sS], .int .i64 0]) ∧ Below w'.heap.size w' w'') := Lib.hid fun w' he' => by
      have := lParse (lineT x) HLL.out w' he'
      rw [parse_line x hg H6.out.tick H6.out.sT H6.out.n] at this
      exact this
    clear hg
    go_wp2_with fail
    refine (GPR.out _).mono ?_; rintro e w5 ⟨rfl, hb5⟩
    have HB5 := Lib.hid (HB4.out.up hb5)
    have K5 := Lib.hid (K4.out.later hb5)
    clear d1 hr hb5
    go_wp2_with fail
    refine (GPA.out _ (HE.out.later HB5.out)).mono ?_; rintro e w6 ⟨rfl, hb6⟩
    have HB6 := Lib.hid (HB5.out.up hb6)
    have K6 := Lib.hid (K5.out.later hb6)
    clear hb6
    go_upto_region 8 with fail
    obtain ⟨w7, hw7⟩ : ∃ w7, w6.alloc (.cells #[.int .i64 x.kind, .int .i64 x.id, .int .i64 x.n, .int .i64 x.tick, .string x.bytes, .int .i64 x.err, .int .i64 x.sT, .int .i64 x.sA, .int .i64 x.sW, .int .i64 x.sR, .int .i64 x.sN, .int .i64 x.sS] 27) = w7 := ⟨_, rfl⟩
    have k7 : Blk w7 w6.heap.size 27 #[.int .i64 x.kind, .int .i64 x.id, .int .i64 x.n, .int .i64 x.tick, .string x.bytes, .int .i64 x.err, .int .i64 x.sT, .int .i64 x.sA, .int .i64 x.sW, .int .i64 x.sR, .int .i64 x.sN, .int .i64 x.sS] := by rw [← hw7]; exact Blk.new _ _ _
    have k1 : Blk w7 q1 27 #[.int .i64 x.kind, .int .i64 x.id, .int .i64 x.n, .int .i64 x.tick, .string x.bytes, .int .i64 x.err, .int .i64 x.sT, .int .i64 x.sA, .int .i64 x.sW, .int .i64 x.sR, .int .i64 x.sN, .int .i64 x.sS] := by rw [← hw7]; exact K6.out.alloc _
    have hb7 : Below w.heap.size w w7 := by rw [← hw7]; exact HB6.out.alloc HB6.out.size _
    rw [hw7]
    obtain ⟨q7, hq7⟩ : ∃ q, w6.heap.size = q := ⟨_, rfl⟩
    rw [hq7] at k7 ⊢
    clear hw7 hq7
    have K7 := Lib.hid k7
    have K17 := Lib.hid k1
    have HB7 := Lib.hid hb7
    have d1 := k1.at12
    have hr := Below.refl w7.heap.size w7
    clear k1 k7 hb7
    go_wp2_with fail
    refine (GPR.out _).mono ?_; rintro e w8 ⟨rfl, hb8⟩
    have HB8 := Lib.hid (HB7.out.up hb8)
    have k18 := K17.out.later hb8
    have k78 := K7.out.later hb8
    clear d1 hr hb8
    have d1 := k18.at12
    have d7 := k78.at12
    have hr := Below.refl w8.heap.size w8
    clear k18 k78
    go_wp2_with fail
    refine (HLV.out _ (HE.out.later HB8.out)).mono ?_; rintro e w9 ⟨rfl, hb9⟩
    go_wp2_with fail
    go_ret
    exact ⟨rfl, HB8.out.up hb9⟩
end Go.Proofs.YtmnkekepccdlcaaGreatDoor
