/-
  What is wrong of a word of a kind, and the shape of a line's first word, as the reference tells them.
  Conditions: a text of at most 100000 bytes.
-/
import Derived.Test.YtmnkekepccdlcaaGreatDoorWorldZ
import Derived.Test.YtmnkekepccdlcaaGreatDoorWgE
import Derived.Test.YtmnkekepccdlcaaGreatDoorWgB
import Derived.Test.YtmnkekepccdlcaaGreatDoorLex3
namespace Go.Proofs.YtmnkekepccdlcaaGreatDoor
set_option linter.unusedVariables false
set_option linter.unusedSimpArgs false
open Go.RowKit

set_option maxHeartbeats 4000000 in
set_option maxRecDepth 100000 in
theorem gWrong (c : UInt8) (x : Wd) (w : World) (hx : x.text.length ≤ 100000) (hc : c = 116 ∨ c = 115 ∨ c = 105 ∨ c = 110 ∨ c = 113) :
    Calls Tryz.prog 91 #[bval c, .agg (wcells x).toArray] w fun e w' => e = .returned (.tuple #[.int .i64 (wrongT c x).1, .int .i64 (wrongT c x).2]) ∧ Below w.heap.size w w' := by
  obtain ⟨tx, qx, px⟩ := x
  simp only [wcells] at hx ⊢
  obtain ⟨w0, hw0⟩ : ∃ w0, w.alloc (.cells #[.string (bt tx), .bool qx, .int .i64 (px : Nat)] 123) = w0 := ⟨_, rfl⟩
  have k0 : Blk w0 w.heap.size 123 #[.string (bt tx), .bool qx, .int .i64 (px : Nat)] := by rw [← hw0]; exact Blk.new _ _ _
  have b0 : Below w.heap.size w w0 := by rw [← hw0]; exact (Below.refl _ _).alloc (Nat.le_refl _) _
  have HW0 := Lib.hid hw0
  have dk := k0.at3
  have hr := Below.refl w0.heap.size w0
  have et : (bt tx).data.toList = tx := rfl
  have hs : (bt tx).size ≤ 100000 := hx
  clear hw0 k0
  rcases hc with rfl | rfl | rfl | rfl | rfl
  · cases qx
    · have F := yNumber (bt tx) 1000000000000 w0 hs (by decide)
      rw [et] at F
      have FH := Lib.hid F
      have hW : wrongT 116 ⟨tx, false, px⟩ = numW 1000000000000 tx := by simp [wrongT, topT]
      rw [hW]
      clear F hW
      go_enter Tryz.func91, Tryz.ntmps91
      go_upto_region 1 with fail
      rw [HW0.out]
      go_wp2_with fail
      refine FH.out.mono ?_; rintro e w1 ⟨rfl, b1⟩
      go_wp2_with fail
      go_ret2
      exact ⟨rfl, b0.up b1⟩
    · have hW : wrongT 116 ⟨tx, true, px⟩ = (0, 2) := by simp [wrongT]
      rw [hW]
      clear hW
      go_enter Tryz.func91, Tryz.ntmps91
      go_upto_region 1 with fail
      rw [HW0.out]
      go_wp2_with fail
      go_ret2
      exact ⟨rfl, b0⟩
  · cases qx
    · have F := yNumber (bt tx) 63 w0 hs (by decide)
      rw [et] at F
      have FH := Lib.hid F
      have hW : wrongT 115 ⟨tx, false, px⟩ = numW 63 tx := by simp [wrongT, topT]
      rw [hW]
      clear F hW
      go_enter Tryz.func91, Tryz.ntmps91
      go_upto_region 1 with fail
      rw [HW0.out]
      go_wp2_with fail
      refine FH.out.mono ?_; rintro e w1 ⟨rfl, b1⟩
      go_wp2_with fail
      go_ret2
      exact ⟨rfl, b0.up b1⟩
    · have hW : wrongT 115 ⟨tx, true, px⟩ = (0, 2) := by simp [wrongT]
      rw [hW]
      clear hW
      go_enter Tryz.func91, Tryz.ntmps91
      go_upto_region 1 with fail
      rw [HW0.out]
      go_wp2_with fail
      go_ret2
      exact ⟨rfl, b0⟩
  · cases qx
    · have F := yNumber (bt tx) 4095 w0 hs (by decide)
      rw [et] at F
      have FH := Lib.hid F
      have hW : wrongT 105 ⟨tx, false, px⟩ = numW 4095 tx := by simp [wrongT, topT]
      rw [hW]
      clear F hW
      go_enter Tryz.func91, Tryz.ntmps91
      go_upto_region 1 with fail
      rw [HW0.out]
      go_wp2_with fail
      refine FH.out.mono ?_; rintro e w1 ⟨rfl, b1⟩
      go_wp2_with fail
      go_ret2
      exact ⟨rfl, b0.up b1⟩
    · have hW : wrongT 105 ⟨tx, true, px⟩ = (0, 2) := by simp [wrongT]
      rw [hW]
      clear hW
      go_enter Tryz.func91, Tryz.ntmps91
      go_upto_region 1 with fail
      rw [HW0.out]
      go_wp2_with fail
      go_ret2
      exact ⟨rfl, b0⟩
  · cases qx
    · have F := yNumber (bt tx) 4096 w0 hs (by decide)
      rw [et] at F
      have FH := Lib.hid F
      have hW : wrongT 110 ⟨tx, false, px⟩ = numW 4096 tx := by simp [wrongT, topT]
      rw [hW]
      clear F hW
      go_enter Tryz.func91, Tryz.ntmps91
      go_upto_region 1 with fail
      rw [HW0.out]
      go_wp2_with fail
      refine FH.out.mono ?_; rintro e w1 ⟨rfl, b1⟩
      go_wp2_with fail
      go_ret2
      exact ⟨rfl, b0.up b1⟩
    · have hW : wrongT 110 ⟨tx, true, px⟩ = (0, 2) := by simp [wrongT]
      rw [hW]
      clear hW
      go_enter Tryz.func91, Tryz.ntmps91
      go_upto_region 1 with fail
      rw [HW0.out]
      go_wp2_with fail
      go_ret2
      exact ⟨rfl, b0⟩
  · cases qx
    · have hW : wrongT 113 ⟨tx, false, px⟩ = (0, 2) := by simp [wrongT]
      rw [hW]
      clear hW
      go_enter Tryz.func91, Tryz.ntmps91
      go_upto_region 1 with fail
      rw [HW0.out]
      go_wp2_with fail
      go_ret2
      exact ⟨rfl, b0⟩
    · by_cases c : 256 < tx.length
      · have c1 : (256 : Int) < (tx.length : Int) := by omega
        have hW : wrongT 113 ⟨tx, true, px⟩ = (0, 4) := by simp [wrongT, c]
        rw [hW]
        clear hW
        go_enter Tryz.func91, Tryz.ntmps91
        go_upto_region 1 with fail
        rw [HW0.out]
        go_wp2_with fail
        go_ret2
        exact ⟨rfl, b0⟩
      · have c1 : ¬ (256 : Int) < (tx.length : Int) := by omega
        have hW : wrongT 113 ⟨tx, true, px⟩ = (0, 0) := by simp [wrongT, c]
        rw [hW]
        clear hW
        go_enter Tryz.func91, Tryz.ntmps91
        go_upto_region 1 with fail
        rw [HW0.out]
        go_wp2_with fail
        go_ret2
        exact ⟨rfl, b0⟩

def kShapes : List (List UInt8) := [[116], [115], [105, 113], [105, 113], [105], [105, 110], [105, 110], [116], []]
theorem shape_at : ∀ k (h : k < 9), shapeT (kWords[k]'h) = some (kShapes[k]'h)
  | 0, _ => rfl
  | 1, _ => rfl
  | 2, _ => rfl
  | 3, _ => rfl
  | 4, _ => rfl
  | 5, _ => rfl
  | 6, _ => rfl
  | 7, _ => rfl
  | 8, _ => rfl
theorem shape_none {t : List UInt8} (h : ∀ k (hk : k < 9), ¬ kWords[k]'hk = t) : shapeT t = none := by
  unfold shapeT
  rw [if_neg (fun e => h 0 (by decide) e.symm), if_neg (fun e => h 1 (by decide) e.symm), if_neg (fun e => h 2 (by decide) e.symm), if_neg (fun e => h 3 (by decide) e.symm), if_neg (fun e => h 4 (by decide) e.symm), if_neg (fun e => h 5 (by decide) e.symm), if_neg (fun e => h 6 (by decide) e.symm), if_neg (fun e => h 7 (by decide) e.symm), if_neg (fun e => h 8 (by decide) e.symm)]
def arr9 (l : List (List UInt8)) : Array Value := (l.map fun x => Value.string ⟨x.toArray⟩).toArray
theorem arr9_at {l : List (List UInt8)} {k : Nat} (h : k < l.length) : (arr9 l)[k]? = some (.string (bt l[k])) := by
  unfold arr9
  simp [h]

set_option maxHeartbeats 4000000 in
set_option maxRecDepth 100000 in
theorem gShape (t : List UInt8) (w : World) :
    Calls Tryz.prog 90 #[.string (bt t)] w fun e w' => e = .returned (.tuple #[.string (bt ((shapeT t).getD [])), .bool (shapeT t).isSome]) ∧ Below w.heap.size w w' := by
  obtain ⟨w0, hw0⟩ : ∃ w0, (w.alloc (.cells (arr9 kWords) 9)).alloc (.cells (arr9 kShapes) 9) = w0 := ⟨_, rfl⟩
  have k0 : Blk w0 w.heap.size 9 (arr9 kWords) := by rw [← hw0]; exact (Blk.new _ _ _).alloc _
  have k1 : Blk w0 (w.heap.size + 1) 9 (arr9 kShapes) := by
    rw [← hw0]
    simpa using Blk.new (w.alloc (.cells (arr9 kWords) 9)) 9 (arr9 kShapes)
  have b0 : Below w.heap.size w w0 := by rw [← hw0]; exact ((Below.refl _ _).alloc (Nat.le_refl _) _).alloc (by simp) _
  have HW0 := Lib.hid hw0
  have KW := Lib.hid k0
  have KS := Lib.hid k1
  simp only [arr9, kWords, kShapes, kTick, kOpen, kOffer, kClose, kRead, kWrite, kBoth, kDrain, kAbort, List.map_cons, List.map_nil] at HW0
  clear hw0 k0 k1
  go_enter Tryz.func90, Tryz.ntmps90
  go_upto_region 3 with fail
  rw [HW0.out]
  go_wp2_with fail
  go_loopw [6] (fun iv wr => ∃ k : Nat, iv = .int .i64 k ∧ k ≤ 9 ∧ Hid (∀ j (hj : j < 9), j < k → ¬ kWords[j]'hj = t) ∧ Below w0.heap.size w0 wr) (fun iv _ => 9 - (intOf iv).toNat)
  case atStart => exact ⟨0, rfl, by decide, Lib.hid (fun j _ h => by cases h), Below.refl _ _⟩
  case round =>
    obtain ⟨k, rfl, hk, hN, hbw⟩ := hrel
    have e0 : (0 : Int) ≤ (k : Int) := by omega
    by_cases hlt : k < 9
    · have e1 : (k : Int) < 9 := by omega
      have d0 : wr.cell? ⟨w.heap.size, k, none⟩ = some (.string (bt (kWords[k]'hlt))) := ((KW.out.later hbw).cell k).trans (arr9_at (l := kWords) hlt)
      have d1 : wr.cell? ⟨w.heap.size + 1, k, none⟩ = some (.string (bt (kShapes[k]'hlt))) := ((KS.out.later hbw).cell k).trans (arr9_at (l := kShapes) hlt)
      have HS := Lib.hid (shape_at k hlt)
      have HK : Hid (¬ kWords[k]'hlt = t → ∀ j (hj : j < 9), j < k + 1 → ¬ kWords[j]'hj = t) := Lib.hid fun c j hj h => by
        by_cases e : j = k
        · subst e; exact c
        · exact hN.out j hj (by omega)
      generalize kWords[k]'hlt = K at *
      generalize kShapes[k]'hlt = SH at *
      clear hN
      by_cases c : K = t
      · subst c
        go_wp2_with fail
        go_ret2
        exact ⟨by rw [HS.out]; rfl, b0.up hbw⟩
      · have cb : (K == t) = false := beq_eq_false_iff_ne.2 c
        have HN := Lib.hid (HK.out c)
        clear c
        go_wp2_with fail
        go_roundw
        case rel => exact ⟨k + 1, by go_num, by omega, HN, hbw⟩
        case measure => simp [intOf]; omega
    · obtain rfl : k = 9 := by omega
      have HS := Lib.hid (shape_none (t := t) (fun j hj => hN.out j hj hj))
      go_wp2_with fail
      go_ret2
      exact ⟨by rw [HS.out]; rfl, b0.up hbw⟩
end Go.Proofs.YtmnkekepccdlcaaGreatDoor
