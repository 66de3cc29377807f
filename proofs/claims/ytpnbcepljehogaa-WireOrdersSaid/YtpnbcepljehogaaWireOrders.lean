/-
  What the statement WireOrders computes: what is read is what came, in order, each byte once.
  Conditions: the pieces and the numbers are lists that memory holds.
-/
import Derived.Test.YtpnbcepljehogaaWireLaws
import Derived.Test.YtpnbcepljehogaaCut
namespace Go.Proofs.Ytpnbcepljehogaa
open Go.RowKit

set_option maxHeartbeats 4000000 in
set_option maxRecDepth 100000 in
theorem wireOrders (ao at_ : Option Addr) (cap n capT nT : Nat) (w : World) (hz : n ≤ maxLen) (hzT : nT ≤ maxLen)
    (hcell : ∀ i, i < n → ∃ b off S, ao = some ⟨b, off, none⟩ ∧ w.cell? ⟨b, off + i, none⟩ = some (.string S))
    (hcellT : ∀ i, i < nT → ∃ b off z, at_ = some ⟨b, off, none⟩ ∧ w.cell? ⟨b, off + i, none⟩ = some (.int .u8 z) ∧ 0 ≤ z ∧ z ≤ 255) :
    Calls Try.prog 12 #[.slice ao n cap, .slice at_ nT capT] w fun e w' => e = .returned (.bool true) ∧ Below w.heap.size w w' := by
  have HC := Lib.hid hcell
  have HT := Lib.hid hcellT
  clear hcell hcellT
  have hzl : n ≤ 9223372036854775807 := Nat.le_trans hz (by decide)
  have hzlT : nT ≤ 9223372036854775807 := Nat.le_trans hzT (by decide)
  go_enter Try.func12, Try.ntmps12
  go_wp2_with fail
  refine (aNew _).mono ?_; rintro e w1 ⟨rfl, k1⟩
  go_wp2_with fail
  generalize hB : w.heap.size = B at *
  have hBs : B ≤ w.heap.size := Nat.le_of_eq hB.symm
  have HB := Lib.hid hB
  clear hB
  go_loopw [6, 7, 8] (fun iv ov kv wr => ∃ (k : Nat) (I O : ByteArray) (S : List UInt8), kv = .int .i64 k ∧ iv = .string I ∧ ov = .string O ∧ k ≤ n ∧ k ≤ 20 ∧ Hid (I = O ++ bs S) ∧ I.size ≤ 15 * k ∧ O.size + S.length = I.size ∧ WA B w wr B S I.size O.size false) (fun _ _ kv _ => n - (intOf kv).toNat)
  case atStart => exact ⟨0, ⟨#[]⟩, ⟨#[]⟩, [], rfl, rfl, rfl, Nat.zero_le _, Nat.zero_le _, Lib.hid rfl, Nat.zero_le _, rfl, k1⟩
  case round =>
    obtain ⟨k, I, O, S, rfl, rfl, rfl, hk, hk20, hI, hIs, hOs, hw⟩ := hrel
    clear k1
    have HOs := Lib.hid hOs
    have hSl : S.length ≤ 300 := by omega
    have hOl : O.size ≤ 300 := by omega
    clear hOs
    by_cases hlt : k < n ∧ k < 20
    · obtain ⟨b, off, s, rfl, hz1⟩ := HC.out k hlt.1
      have hwl := block_lt hz1
      have hwB : b < B := Nat.lt_of_lt_of_le hwl (Nat.le_of_eq HB.out)
      have f1 := (hw.below.cell (p := ⟨b, off + k, none⟩) hwB).trans hz1
      have e0 : (0 : Int) ≤ (k : Int) := by omega
      have e1 : (k : Int) < (n : Int) := by omega
      have e2 : (k : Int) < 20 := by omega
      go_wp2_with fail
      refine (xCut s 15 _).mono ?_; rintro e w2 ⟨rfl, rfl⟩
      have hu := cutT_size s 15
      generalize cutT s 15 = u at *
      clear f1 hz1
      go_wp2_with fail
      refine (aOffer1 _ _ _ _ _ _ _ _ _ hw (by omega) (by omega) ⟨by omega, by omega⟩).mono ?_; rintro e w3 ⟨rfl, k3⟩
      clear hw
      have hz3 : ¬ 9223372036854775807 < I.size + u.size := by omega
      have hul : u.data.toList.length = u.size := rfl
      have hI3 : I ++ u = O ++ bs (S ++ u.data.toList) := by rw [hI.out, ByteArray.append_assoc]; exact congrArg (O ++ ·) (bs_append S u)
      have hIsz : (I ++ u).size = I.size + u.size := ByteArray.size_append
      have hk3 : WA B w w3 B (S ++ u.data.toList) (I ++ u).size O.size false := k3.cast rfl (by rw [hIsz]; omega) rfl
      have hS3 : (S ++ u.data.toList).length = S.length + u.size := by rw [List.length_append, hul]
      clear k3 hul
      generalize S ++ u.data.toList = S3 at *
      obtain ⟨I3, hI3e⟩ : ∃ I3, I3 = I ++ u := ⟨_, rfl⟩
      rw [← hI3e] at hI3 hIsz hk3
      have HI3 := Lib.hid hI3
      have HI3e := Lib.hid hI3e
      have HIsz := Lib.hid hIsz
      have HS3 := Lib.hid hS3
      clear hI3 hI3e hIsz hS3
      by_cases hT : k < nT
      · obtain ⟨b', off', z, rfl, hz2, hzl1, hzl2⟩ := HT.out k hT
        have hwl' := block_lt hz2
        have f2 := (hk3.below.cell (p := ⟨b', off' + k, none⟩) (Nat.lt_of_lt_of_le hwl' (Nat.le_of_eq HB.out))).trans hz2
        have e3 : (k : Int) < (nT : Int) := by omega
        clear hz2
        go_wp2_with fail
        refine (aTake _ _ _ _ _ _ _ _ _ hk3 (by rw [HS3.out]; omega) ⟨by omega, by omega⟩).mono ?_; rintro e w4 ⟨rfl, k4⟩
        have hkk : wK (z % 9) S3 ≤ S3.length := by unfold wK; omega
        generalize wK (z % 9) S3 = kk at *
        have hts : (bs (S3.take kk)).size = kk := by rw [bs_size, List.length_take]; omega
        have hz4 : ¬ 9223372036854775807 < O.size + (bs (S3.take kk)).size := by rw [hts]; have := HS3.out; omega
        have hcat : bs (S3.take kk) ++ bs (S3.drop kk) = bs S3 := by rw [bs_append', List.take_append_drop]
        have hd : (S3.drop kk).length = S3.length - kk := List.length_drop
        generalize S3.drop kk = S4 at *
        generalize bs (S3.take kk) = t at *
        clear hk3 f2
        have HQ := Lib.hid (And.intro hts (And.intro hcat hd))
        clear hts hcat hd
        go_wp2_with fail
        go_roundw
        case rel =>
          obtain ⟨q1, q2, q3⟩ := HQ.out
          have q4 : (O ++ t).size = O.size + t.size := ByteArray.size_append
          refine ⟨k + 1, I3, O ++ t, S4, by go_num, by rw [HI3e.out], rfl, by omega, by omega, Lib.hid ?_, by have := HIsz.out; omega, by have h7 := HIsz.out; have h8 := HS3.out; have h9 := HOs.out; omega, k4.cast rfl rfl (by rw [q4, q1]; omega)⟩
          rw [HI3.out, ByteArray.append_assoc, q2]
        case measure => simp [intOf]; omega
      · have e3 : ¬ (k : Int) < (nT : Int) := by omega
        go_wp2_with fail
        go_roundw
        case rel =>
          exact ⟨k + 1, I3, O, S3, by go_num, by rw [HI3e.out], rfl, by omega, by omega, HI3, by have := HIsz.out; omega, by rw [HIsz.out, HS3.out]; have := HOs.out; omega, hk3⟩
        case measure => simp [intOf]; omega
    · have hcase : (¬ (k : Int) < (n : Int)) ∨ ((k : Int) < (n : Int) ∧ ¬ (k : Int) < 20) := by omega
      clear hlt
      have hz5 : ¬ 9223372036854775807 < O.size + (bs S).size := by have : (bs S).size = S.length := rfl; omega
      have hT5 : S.take S.length = S := List.take_length
      have hD5 : S.drop S.length = [] := List.drop_length
      have hw5 : wK 400 S = S.length := by unfold wK; omega
      have hw6 : wK (S.length : Int) S = S.length := by unfold wK; omega
      have hs5 : (bs S).size = S.length := rfl
      have g1 : ∀ u, WA B w u B S I.size O.size false → Calls Try.prog 69 #[.pointer (some ⟨B, 0, none⟩), .int .i64 400] u fun e w' => e = .returned (.string (bs S)) ∧ WA B w w' B S I.size O.size false := fun u h => by
        have := aPeek B B w u S I.size O.size false 400 h (by omega)
        rwa [hw5, hT5] at this
      have g2 : ∀ u, WA B w u B S I.size O.size false → Calls Try.prog 68 #[.pointer (some ⟨B, 0, none⟩), .int .i64 ((bs S).size : Int)] u fun e w' => e = .returned (.string (bs S)) ∧ WA B w w' B [] I.size I.size false := fun u h => by
        have := aTake B B w u S I.size O.size false S.length h (by omega) ⟨by omega, by omega⟩
        rw [hw6, hT5, hD5] at this
        have hh : (O.size : Int) + (S.length : Int) = (I.size : Int) := by have := HOs.out; omega
        rwa [hh] at this
      have g3 : ∀ u, WA B w u B S I.size O.size false → Calls Try.prog 52 #[.pointer (some ⟨B, 0, none⟩)] u fun e w' => e = .returned (.int .i64 ((bs S).size : Int)) ∧ u = w' := fun u h => aLen B B w u S I.size O.size false h
      have hIe := hI.out
      generalize bs S = t at *
      subst hIe
      have G1 := Lib.hid g1
      have G2 := Lib.hid g2
      have G3 := Lib.hid g3
      clear g1 g2 g3 hT5 hD5 hw5 hw6 hs5 hI
      rcases hcase with hx | ⟨hx, hx2⟩
      all_goals (
        go_wp2_with fail
        refine (G1.out _ hw).mono ?_; rintro e w2 ⟨rfl, k2⟩
        go_wp2_with fail
        refine (G3.out _ k2).mono ?_; rintro e w3 ⟨rfl, rfl⟩
        go_wp2_with fail
        refine (G2.out _ k2).mono ?_; rintro e w3 ⟨rfl, k3⟩
        clear k2 hw
        go_wp2_with fail
        refine (aLen _ _ _ _ _ _ _ _ k3).mono ?_; rintro e w4 ⟨rfl, rfl⟩
        go_wp2_with fail
        refine (aSent _ _ _ _ _ _ _ _ k3).mono ?_; rintro e w4 ⟨rfl, rfl⟩
        go_wp2_with fail
        refine (aRead _ _ _ _ _ _ _ _ k3).mono ?_; rintro e w4 ⟨rfl, rfl⟩
        have hb3 := k3.below
        go_wp2_with fail
        refine (wLives _).mono ?_; rintro e w5 ⟨rfl, hb5⟩
        have hb6 := hb3.up hb5 hBs
        go_wp2_with fail
        go_ret
        have hBe := HB.out
        exact ⟨rfl, by rw [hBe]; exact hb6⟩)
end Go.Proofs.Ytpnbcepljehogaa
