/-
  What the statement PendOrders computes: whatever pieces are taken, they are the text from its beginning on.
  Conditions: the pieces asked for are a list that memory holds.
-/
import Derived.Test.YtpnbcepljehogaaPendLaws
namespace Go.Proofs.Ytpnbcepljehogaa
open Go.RowKit

/-- A text, cut. -/
def cutT (s : ByteArray) (m : Nat) : ByteArray := if m < s.size then s.extract 0 m else s
theorem cutT_size (s : ByteArray) (m : Nat) : (cutT s m).size ≤ m := by
  unfold cutT; split
  · simp; omega
  · omega
theorem xCut (s : ByteArray) (m : Nat) (w : World) : Calls Try.prog 33 #[.string s, .int .i64 m] w fun e w' => e = .returned (.string (cutT s m)) ∧ w = w' := by
  by_cases h : m < s.size
  · have h1 : (m : Int) < (s.size : Int) := by omega
    have h2 : (m : Int) ≤ (s.size : Int) := by omega
    have e : cutT s m = s.extract 0 m := by unfold cutT; rw [if_pos h]
    rw [e]
    go_enter Try.func33, Try.ntmps33
    go_wp2
    go_ret
    exact ⟨rfl, rfl⟩
  · have h1 : ¬ (m : Int) < (s.size : Int) := by omega
    have e : cutT s m = s := by unfold cutT; rw [if_neg h]
    rw [e]
    go_enter Try.func33, Try.ntmps33
    go_wp2
    go_ret
    exact ⟨rfl, rfl⟩

theorem ext_add (t : ByteArray) (s k : Nat) : t.extract 0 s ++ t.extract s (s + k) = t.extract 0 (s + k) := by
  rw [ByteArray.extract_append_extract]; congr 1 <;> omega
theorem ext_zero (t : ByteArray) : t.extract 0 0 = ⟨#[]⟩ := by
  apply ByteArray.ext
  simp
theorem ext_size (t : ByteArray) {s : Nat} (h : s ≤ t.size) : (t.extract 0 s).size = s := by simp; omega
theorem ext_all (t : ByteArray) {s : Nat} (h : t.size ≤ s) : t.extract 0 s = t := by
  apply ByteArray.ext
  rw [ByteArray.data_extract, Array.extract_eq_self_of_le h]

theorem pLoadE (b : Nat) (out tr : Int) (t : ByteArray) (s d : Nat) (w : World) (h : Pnd w b out t s d tr) (hs : s ≤ d) (hd : d ≤ t.size) (ht : t.size ≤ 30) (ho : 1 ≤ out ∧ out ≤ 4096) : Calls Try.prog 35 #[.pointer (some ⟨b, 0, none⟩)] w
    fun e w' => ∃ L d' : Nat, e = .returned (.int .i64 L) ∧ Pnd w' b out t s d' tr ∧ w.grownBy w' (some b) ∧ s ≤ d' ∧ d' ≤ t.size ∧ (s < t.size → s < d') :=
  (pLoad b out tr t s d w h hs hd (by omega) ho).mono fun e w' ⟨h1, h2, h3⟩ => ⟨_, _, h1, h2, h3, by omega, by unfold loadT; split <;> omega, by unfold loadT; split <;> omega⟩
theorem pTakeE (b : Nat) (n out tr : Int) (t : ByteArray) (s d : Nat) (w : World) (h : Pnd w b out t s d tr) (hs : s ≤ d) (hd : d ≤ t.size) (ht : t.size ≤ 30) : Calls Try.prog 36 #[.pointer (some ⟨b, 0, none⟩), .int .i64 n] w
    fun e w' => ∃ (s' : Nat) (tr' : Int), e = .returned (.string (t.extract s s')) ∧ Pnd w' b out t s' d tr' ∧ w.grownBy w' (some b) ∧ s ≤ s' ∧ s' ≤ d ∧ t.extract 0 s ++ t.extract s s' = t.extract 0 s' ∧ (1 ≤ n → s < d → s < s') :=
  (pTake b n out tr t s d w h hs hd (by omega)).mono fun e w' ⟨h1, h2, h3⟩ => ⟨_, _, h1, h2, h3, by omega, takeT_le n hs, ext_add _ _ _, by unfold takeT; omega⟩
theorem pLeftE (b : Nat) (out tr : Int) (t : ByteArray) (s d : Nat) (w : World) (h : Pnd w b out t s d tr) (hs : s ≤ d) (hd : d ≤ t.size) (ht : t.size ≤ 30) : Calls Try.prog 38 #[.pointer (some ⟨b, 0, none⟩)] w
    fun e w' => ∃ L : Nat, e = .returned (.int .i64 L) ∧ Below w.heap.size w w' ∧ s + L = d :=
  (pLeft b out tr t s d w h hs hd (by omega)).mono fun e w' ⟨h1, h2⟩ => ⟨_, h1, h2, by omega⟩
theorem pRestE (b : Nat) (out tr : Int) (t : ByteArray) (s d : Nat) (w : World) (h : Pnd w b out t s d tr) (hs : s ≤ d) (hd : d ≤ t.size) (ht : t.size ≤ 30) : Calls Try.prog 39 #[.pointer (some ⟨b, 0, none⟩)] w
    fun e w' => ∃ L : Nat, e = .returned (.int .i64 L) ∧ Below w.heap.size w w' ∧ d + L = t.size :=
  (pRest b out tr t s d w h hs hd (by omega)).mono fun e w' ⟨h1, h2⟩ => ⟨_, h1, h2, by omega⟩

set_option maxHeartbeats 4000000 in
set_option maxRecDepth 100000 in
theorem pendOrders (a0 : Int) (text : ByteArray) (ao : Option Addr) (cap : Nat) (n : Nat) (w : World) (hz : n ≤ maxLen)
    (hcell : ∀ i, i < n → ∃ b off z, ao = some ⟨b, off, none⟩ ∧ w.cell? ⟨b, off + i, none⟩ = some (.int .i64 z)) (h0 : 0 ≤ a0 ∧ a0 ≤ 255) :
    Calls Try.prog 5 #[.int .u8 a0, .string text, .slice ao n cap] w fun e w' => e = .returned (.bool true) ∧ Below w.heap.size w w' := by
  have HC := Lib.hid hcell
  clear hcell
  have hzl : n ≤ 9223372036854775807 := Nat.le_trans hz (by decide)
  go_enter Try.func5, Try.ntmps5
  go_wp2_with fail
  refine (pNew _ _).mono ?_; rintro e w1 ⟨rfl, k1, hb1⟩
  generalize hm : min (max (_ : Int) 1) (4096 : Int) = m at k1
  have hm' : 1 ≤ m ∧ m ≤ 4096 := by omega
  clear hm
  go_wp2_with fail
  refine (xCut _ 30 _).mono ?_; rintro e w2 ⟨rfl, rfl⟩
  have ht := cutT_size text 30
  generalize cutT text 30 = t at *
  go_wp2_with fail
  refine (pBegin _ _ _ _ _ 0 0 _ k1).mono ?_; rintro e w2 ⟨rfl, k2, g2⟩
  have hb2 := below_only hb1 g2 (Nat.le_refl _) (Nat.le_refl _)
  clear g2 k1 hb1
  generalize hB : w.heap.size = B at *
  have k2 : Pnd w2 B m t ((0 : Nat) : Int) ((0 : Nat) : Int) 0 := k2
  have hBs : B ≤ w.heap.size := Nat.le_of_eq hB.symm
  have HB := Lib.hid hB
  clear hB
  go_wp2_with fail
  go_loopw [8, 9] (fun gv i wr => ∃ (k s d : Nat) (tr : Int), k ≤ n ∧ i = .int .i64 k ∧ gv = .string (t.extract 0 s) ∧ s ≤ d ∧ d ≤ t.size ∧ Pnd wr B m t s d tr ∧ Below B w wr) (fun _ i _ => n - (intOf i).toNat)
  case atStart => exact ⟨0, 0, 0, 0, Nat.zero_le _, rfl, by rw [ext_zero], Nat.zero_le _, Nat.zero_le _, k2, hb2⟩
  case round =>
    obtain ⟨k, s, d, tr, hk, rfl, rfl, hs, hd, hp, hb⟩ := hrel
    clear k2 hb2
    by_cases hlt : k < n ∧ k < 40
    · obtain ⟨b, off, z, rfl, hz1⟩ := HC.out k hlt.1
      have hw := block_lt hz1
      have f1 : ∀ w', Below B w w' → w'.cell? ⟨b, off + k, none⟩ = some (.int .i64 z) := fun w' h => (h.cell (p := ⟨b, off + k, none⟩) (Nat.lt_of_lt_of_le hw (Nat.le_of_eq HB.out))).trans hz1
      have e0 : (0 : Int) ≤ (k : Int) := by omega
      have e1 : (k : Int) < (n : Int) := by omega
      have e2 : (k : Int) < 40 := by omega
      go_wp2_with fail
      refine (pLoadE _ _ _ _ _ _ _ hp hs hd ht hm').mono ?_; rintro e w3 ⟨L0, d', rfl, k3, g3, hs', hd', -⟩
      have hb3 := below_only hb g3 hBs (Nat.le_refl _)
      clear hp g3 hb hd hs
      go_wp2_with fail
      refine (pTakeE _ _ _ _ _ _ _ _ k3 hs' hd' ht).mono ?_; rintro e w4 ⟨s', tr', rfl, k4, g4, hq2, hq, hcat, -⟩
      have hb4 := below_only hb3 g4 hBs (Nat.le_refl _)
      have hGs : (t.extract 0 s').size = s' := ext_size t (by omega)
      obtain ⟨G, hGe, HG⟩ : ∃ G, t.extract 0 s' = G ∧ Hid (t.extract 0 s' = G) := ⟨_, rfl, Lib.hid rfl⟩
      rw [hGe] at hcat hGs
      clear k3 g4 hb3
      have e5 : ¬ ((t.size : Int) < (s' : Int)) := by omega
      have e6 : (s' : Int) ≤ (t.size : Int) := by omega
      have e7 : (0 : Int) ≤ (s' : Int) := by omega
      go_wp2_with fail
      refine (pSent _ _ _ _ _ _ _ k4).mono ?_; rintro e w5 ⟨rfl, rfl⟩
      go_wp2_with fail
      refine (pSent _ _ _ _ _ _ _ k4).mono ?_; rintro e w5 ⟨rfl, rfl⟩
      go_wp2_with fail
      refine (pLeftE _ _ _ _ _ _ _ k4 hq hd' ht).mono ?_; rintro e w5 ⟨L, rfl, hb5, hL⟩
      have k5 := Blk.later k4 hb5
      have hb6 := hb4.up hb5 hBs
      clear hb5 hb4 k4
      have s1 : IntKind.i64.wrap ((s' : Int) + (L : Int)) = (s' : Int) + (L : Int) := IntWalk.i64_in _ (by omega)
      have HL := Lib.hid hL
      clear hL
      go_wp2_with fail
      refine (pRestE _ _ _ _ _ _ _ k5 hq hd' ht).mono ?_; rintro e w6 ⟨R, rfl, hb7, hR⟩
      have k6 := Blk.later k5 hb7
      have hb8 := hb6.up hb7 hBs
      clear hb6 hb7 k5
      have s2 : IntKind.i64.wrap ((s' : Int) + (L : Int) + (R : Int)) = (t.size : Int) := by
        have := HL.out
        rw [IntWalk.i64_in _ (by omega)]; omega
      clear hR
      go_wp2_with fail
      go_roundw
      case rel => exact ⟨k + 1, s', d', tr', by omega, by go_num, by rw [HG.out], hq, hd', k6, hb8⟩
      case measure => simp [intOf]; omega
    · have hcase : (¬ (k : Int) < (n : Int)) ∨ ((k : Int) < (n : Int) ∧ ¬ (k : Int) < 40) := by omega
      clear hlt
      rcases hcase with hx | ⟨hx, hx2⟩
      all_goals (
        go_wp2_with fail
        go_loopw [8, 10] (fun gv i wr => ∃ (k s d : Nat) (tr : Int), k ≤ 31 ∧ i = .int .i64 k ∧ gv = .string (t.extract 0 s) ∧ s ≤ d ∧ d ≤ t.size ∧ (t.size ≤ s ∨ k ≤ s) ∧ Pnd wr B m t s d tr ∧ Below B w wr) (fun _ i _ => 31 - (intOf i).toNat)
        case atStart => exact ⟨0, s, d, tr, Nat.zero_le _, rfl, rfl, hs, hd, .inr (Nat.zero_le _), hp, hb⟩
        case round =>
          clear hp hb hs hd
          obtain ⟨j, s, d, tr, hj, rfl, rfl, hs, hd, hjs, hp, hb⟩ := hrel
          by_cases hlt : j < 31
          · have e2 : (j : Int) < 31 := by omega
            go_wp2_with fail
            refine (pLoadE _ _ _ _ _ _ _ hp hs hd ht hm').mono ?_; rintro e w3 ⟨L0, d', rfl, k3, g3, hs', hd', hgo⟩
            have hb3 := below_only hb g3 hBs (Nat.le_refl _)
            clear hp g3 hb hd hs
            go_wp2_with fail
            refine (pTakeE _ _ _ _ _ _ _ _ k3 hs' hd' ht).mono ?_; rintro e w4 ⟨s', tr', rfl, k4, g4, hq2, hq, hcat, hgo2⟩
            have hb4 := below_only hb3 g4 hBs (Nat.le_refl _)
            have hjs' : t.size ≤ s' ∨ j + 1 ≤ s' := by
              have := hgo2 (by omega)
              omega
            have HC2 := Lib.hid hcat
            clear k3 g4 hb3 hcat hgo hgo2
            go_wp2_with fail
            go_roundw
            case rel => exact ⟨j + 1, s', d', tr', by omega, by go_num, by first | rfl | rw [HC2.out], hq, hd', hjs', k4, hb4⟩
            case measure => simp [intOf]; omega
          · obtain rfl : s = t.size := by omega
            obtain rfl : d = t.size := by omega
            have e2 : ¬ (j : Int) < 31 := by omega
            have hG : t.extract 0 t.size = t := ext_all t (Nat.le_refl _)
            rw [hG]
            go_wp2_with fail
            refine (pLeftE _ _ _ _ _ _ _ hp (Nat.le_refl _) (Nat.le_refl _) ht).mono ?_; rintro e w5 ⟨L, rfl, hb5, hL⟩
            obtain rfl : L = 0 := by omega
            have k5 := Blk.later hp hb5
            have hb6 := hb.up hb5 hBs
            clear hb5 hb hp
            go_wp2_with fail
            refine (pRestE _ _ _ _ _ _ _ k5 (Nat.le_refl _) (Nat.le_refl _) ht).mono ?_; rintro e w6 ⟨L, rfl, hb7, hL⟩
            obtain rfl : L = 0 := by omega
            have hb8 := hb6.up hb7 hBs
            clear hb6 hb7 k5
            go_wp2_with fail
            refine (pLives _).mono ?_; rintro e w7 ⟨rfl, hb9⟩
            have hb10 := hb8.up hb9 hBs
            clear hb8 hb9
            go_wp2_with fail
            go_ret
            have hBe := HB.out
            exact ⟨rfl, by rw [hBe]; exact hb10⟩)
end Go.Proofs.Ytpnbcepljehogaa
