/-
  Contracts of the reference of package quote: sign by sign.
  Conditions: a text of at most 100000 bytes.
-/
import Derived.Test.YtmnkekepccdlcaaGreatDoorQuote2
namespace Go.Proofs.YtmnkekepccdlcaaGreatDoor
set_option linter.unusedVariables false
set_option linter.unusedSimpArgs false
open Go.RowKit

theorem digits_two (a b : Nat) (ha : a < 16) (hb : b < 16) : (⟨#[92, 120]⟩ : ByteArray) ++ digits16.extract a (a + 1) ++ digits16.extract b (b + 1) = ⟨#[92, 120, hexD a, hexD b]⟩ := by
  have : ∀ a b : Fin 16, ((⟨#[92, 120]⟩ : ByteArray) ++ digits16.extract a.val (a.val + 1) ++ digits16.extract b.val (b.val + 1)).data.toList = [92, 120, hexD a.val, hexD b.val] := by decide +kernel
  apply ByteArray.ext
  apply Array.toList_inj.1
  exact this ⟨a, ha⟩ ⟨b, hb⟩

set_option maxHeartbeats 1000000 in
theorem rSignX (n : Int) (hb : 0 ≤ n ∧ n ≤ 255) (h : n < 32 ∨ 126 < n) (h1 : ¬ n = 10) (h2 : ¬ n = 13) (h3 : ¬ n = 9) (x y : UInt8) (hx : x = hexD (n / 16).toNat) (hy : y = hexD (n % 16).toNat) (w : World) :
    Calls Tryz.prog 71 #[.int .u8 n] w fun e w' => e = .returned (.string ⟨#[92, 120, x, y]⟩) ∧ Below w.heap.size w w' := by
  have d1 := ne_b h1
  have d2 := ne_b h2
  have d3 := ne_b h3
  have d4 : (n == 34) = false := ne_b (by omega)
  have d5 : (n == 92) = false := ne_b (by omega)
  have h' : n < 32 ∨ ¬ n < 32 ∧ ¬ n < 127 := by omega
  clear h
  go_enter Tryz.func71, Tryz.ntmps71
  rcases h' with h | ⟨h, h'⟩
  all_goals (
    go_wp2_with fail
    go_quiet (fail)
    go_wp2_with fail
    go_ret
    refine ⟨?_, below_drewN (Below.refl _ _) _⟩
    rw [hx, hy, show (n / 16 + 1).toNat = (n / 16).toNat + 1 by omega, show (n % 16 + 1).toNat = (n % 16).toNat + 1 by omega]
    exact congrArg (fun t => Ending.returned (.string t)) (digits_two _ _ (by omega) (by omega)))
theorem rSign1 (c : UInt8) (n : Int) (hn : Hid (n = (c.toNat : Int))) (h : 32 ≤ n ∧ n < 127) (h1 : ¬ n = 34) (h2 : ¬ n = 92) (w : World) :
    Calls Tryz.prog 71 #[.int .u8 n] w fun e w' => e = .returned (.string ⟨#[c]⟩) ∧ Below w.heap.size w w' := by
  have d1 := ne_b h1
  have d2 := ne_b h2
  have d3 : (n == 10) = false := ne_b (by omega)
  have d4 : (n == 13) = false := ne_b (by omega)
  have d5 : (n == 9) = false := ne_b (by omega)
  have hcv : (convert 64 9 (.slice (some ⟨w.heap.size, 0, none⟩) 1 1)).run Tryz.prog (w.alloc (.cells #[.int .u8 n] 5)) = .ok (.string ⟨#[c]⟩) (w.alloc (.cells #[.int .u8 n] 5)) :=
    run_convert_bytes_back (P := Tryz.prog) (w.alloc (.cells #[.int .u8 n] 5)) 64 9 5 ⟨w.heap.size, 0, none⟩ 1 [c] Tryz.underlying64 Tryz.underlying5 Tryz.underlying9 (fun j hj => by
      obtain rfl : j = 0 := by simpa using hj
      rw [Addr.add_lit, Nat.zero_add, cell_new1, hn.out]
      rfl)
  go_enter Tryz.func71, Tryz.ntmps71
  go_wp2_with fail
  go_ret
  exact ⟨rfl, (Below.refl _ _).alloc (Nat.le_refl _) _⟩
theorem rSignS (n : Int) (t : ByteArray) (h : n = 34 ∧ t = ⟨#[92, 34]⟩ ∨ n = 92 ∧ t = ⟨#[92, 92]⟩ ∨ n = 10 ∧ t = ⟨#[92, 110]⟩ ∨ n = 13 ∧ t = ⟨#[92, 114]⟩ ∨ n = 9 ∧ t = ⟨#[92, 116]⟩) (w : World) :
    Calls Tryz.prog 71 #[.int .u8 n] w fun e w' => e = .returned (.string t) ∧ Below w.heap.size w w' := by
  go_enter Tryz.func71, Tryz.ntmps71
  rcases h with ⟨rfl, rfl⟩ | ⟨rfl, rfl⟩ | ⟨rfl, rfl⟩ | ⟨rfl, rfl⟩ | ⟨rfl, rfl⟩
  all_goals (
    go_wp2_with fail
    go_ret
    exact ⟨rfl, Below.refl _ _⟩)

theorem rSign (c : UInt8) (w : World) : Calls Tryz.prog 71 #[bval c] w fun e w' => e = .returned (.string ⟨(sgn c).toArray⟩) ∧ Below w.heap.size w w' := by
  have hc := u8_lt c
  unfold sgn
  by_cases h1 : c = 34 ∨ c = 92
  · rw [if_pos h1]
    rcases h1 with rfl | rfl
    · exact rSignS 34 _ (.inl ⟨rfl, rfl⟩) w
    · exact rSignS 92 _ (.inr (.inl ⟨rfl, rfl⟩)) w
  · rw [if_neg h1]
    have d1 : ¬ (c.toNat : Int) = 34 := fun e => h1 (.inl (u8_eq e))
    have d2 : ¬ (c.toNat : Int) = 92 := fun e => h1 (.inr (u8_eq e))
    by_cases h2 : c = 10
    · subst h2; exact rSignS 10 _ (.inr (.inr (.inl ⟨rfl, rfl⟩))) w
    · rw [if_neg h2]
      by_cases h3 : c = 13
      · subst h3; exact rSignS 13 _ (.inr (.inr (.inr (.inl ⟨rfl, rfl⟩)))) w
      · rw [if_neg h3]
        by_cases h4 : c = 9
        · subst h4; exact rSignS 9 _ (.inr (.inr (.inr (.inr ⟨rfl, rfl⟩)))) w
        · rw [if_neg h4]
          by_cases h5 : c < 32 ∨ 126 < c
          · rw [if_pos h5]
            have h6 : (c.toNat : Int) < 32 ∨ 126 < (c.toNat : Int) := by
              rcases h5 with h5 | h5
              · left; have := UInt8.lt_iff_toNat_lt.1 h5; simp at this; omega
              · right; have := UInt8.lt_iff_toNat_lt.1 h5; simp at this; omega
            exact rSignX _ hc h6 (fun e => h2 (u8_eq e)) (fun e => h3 (u8_eq e)) (fun e => h4 (u8_eq e)) _ _ (by congr 1) (by congr 1) w
          · rw [if_neg h5]
            have h6 : ¬ (c.toNat : Int) < 32 := fun hh => h5 (.inl (UInt8.lt_iff_toNat_lt.2 (by simp; omega)))
            have h7 : ¬ 126 < (c.toNat : Int) := fun hh => h5 (.inr (UInt8.lt_iff_toNat_lt.2 (by simp; omega)))
            exact rSign1 c _ (Lib.hid rfl) ⟨by omega, by omega⟩ d1 d2 w

set_option maxHeartbeats 1000000 in
theorem rQuote (s : ByteArray) (w : World) (hs : s.size ≤ 100000) : Calls Tryz.prog 43 #[.string s] w fun e w' => e = .returned (.string ⟨(quoteT s.data.toList).toArray⟩) ∧ Below w.heap.size w w' := by
  go_enter Tryz.func43, Tryz.ntmps43
  go_wp2_with fail
  go_loopw [3, 4] (fun ov iv wr => ∃ (k : Nat) (o : ByteArray), iv = .int .i64 k ∧ ov = .string o ∧ k ≤ s.size ∧ Hid (o = ⟨(34 :: (s.data.toList.take k).flatMap sgn).toArray⟩) ∧ o.size ≤ 4 * k + 1 ∧ Below w.heap.size w wr) (fun _ iv _ => s.size - (intOf iv).toNat)
  case atStart => exact ⟨0, _, rfl, rfl, Nat.zero_le _, Lib.hid rfl, by decide, Below.refl _ _⟩
  case round =>
    obtain ⟨k, o, rfl, rfl, hk, hO, hos, hb⟩ := hrel
    have e0 : (0 : Int) ≤ (k : Int) := by omega
    by_cases hlt : k < s.size
    · have e1 : (k : Int) < (s.size : Int) := by omega
      have hsn := flat_snoc s k hlt
      have hrs := fun w => rSign s[k] w
      have hl : (sgn s[k]).length ≤ 4 := by unfold sgn; repeat' split
                                            all_goals simp
      generalize sgn s[k] = g at *
      have hgs : (⟨g.toArray⟩ : ByteArray).size = g.length := rfl
      have hog : o ++ ⟨g.toArray⟩ = ⟨(34 :: (s.data.toList.take (k + 1)).flatMap sgn).toArray⟩ := by
        rw [hsn, hO.out]
        apply ByteArray.ext
        simp
      have hosz : (o ++ ⟨g.toArray⟩).size = o.size + g.length := ByteArray.size_append
      generalize (⟨g.toArray⟩ : ByteArray) = t at *
      have hz : ¬ 9223372036854775807 < o.size + t.size := by omega
      have HR := Lib.hid hrs
      have HG := Lib.hid hog
      have HZ := Lib.hid hosz
      clear hsn hrs hog hosz hO
      go_wp2_with fail
      refine (HR.out _).mono ?_; rintro e w1 ⟨rfl, hb1⟩
      have hb2 := hb.up hb1
      clear hb hb1
      go_wp2_with fail
      go_roundw
      case rel => exact ⟨k + 1, _, by go_num, rfl, by omega, HG, by have := HZ.out; omega, hb2⟩
      case measure => simp [intOf]; omega
    · obtain rfl : k = s.size := by omega
      have e1 : ¬ (s.size : Int) < (s.size : Int) := by omega
      have hfin : o ++ ⟨#[34]⟩ = ⟨(quoteT s.data.toList).toArray⟩ := by
        have hT : s.data.toList.take s.size = s.data.toList := List.take_length
        rw [hO.out, hT]
        apply ByteArray.ext
        simp [quoteT]
      have HF := Lib.hid hfin
      have hz : ¬ 9223372036854775807 < o.size + (⟨#[34]⟩ : ByteArray).size := by show ¬ _ < o.size + 1; omega
      clear hfin hO
      go_wp2_with fail
      go_ret
      exact ⟨by rw [← HF.out]; rfl, hb⟩

theorem hexD_hv {c : UInt8} {x : Nat} (h : hv c = some x) : hexD x = c := by
  have hc := c.toNat_lt
  unfold hv at h
  split at h
  · rename_i h1
    have h2 := UInt8.le_iff_toNat_le.1 h1.1
    have h3 := UInt8.le_iff_toNat_le.1 h1.2
    simp at h2 h3 h
    unfold hexD
    rw [if_pos (by omega), show 48 + x = c.toNat by omega, UInt8.ofNat_toNat]
  · split at h
    · rename_i h0 h1
      have h2 := UInt8.le_iff_toNat_le.1 h1.1
      have h3 := UInt8.le_iff_toNat_le.1 h1.2
      simp at h2 h3 h
      unfold hexD
      rw [if_neg (by omega), show 87 + x = c.toNat by omega, UInt8.ofNat_toNat]
    · cases h
/-- What a digit counts, below 0 if it is none. -/
def valI (c : UInt8) : Int := match hv c with | some x => (x : Int) | none => -1
theorem valI_some {c : UInt8} {x : Nat} (h : hv c = some x) : valI c = x := by unfold valI; rw [h]
theorem valI_none {c : UInt8} (h : hv c = none) : valI c = -1 := by unfold valI; rw [h]

set_option maxHeartbeats 1000000 in
theorem rValue (c : UInt8) (w : World) : Calls Tryz.prog 167 #[bval c] w fun e w' => e = .returned (.int .i64 (valI c)) ∧ w = w' := by
  go_enter Tryz.func167, Tryz.ntmps167
  go_wp2_with fail
  go_loopw [3] (fun iv wr => ∃ k : Nat, iv = .int .i64 k ∧ k ≤ 16 ∧ Hid (∀ j, j < k → hexD j ≠ c) ∧ w = wr) (fun iv _ => 16 - (intOf iv).toNat)
  case atStart => exact ⟨0, rfl, Nat.zero_le _, Lib.hid (fun j h => absurd h (by omega)), rfl⟩
  case round =>
    obtain ⟨k, rfl, hk, hH, rfl⟩ := hrel
    by_cases hlt : k < 16
    · have e1 : (k : Int) < 16 := by omega
      have e2 : (0 : Int) ≤ (k : Int) := by omega
      have hdig := digits_at k hlt
      go_wp2_with fail
      · rename_i h
        have h1 : hexD k = c := u8_eq (by simpa using h)
        go_ret
        exact ⟨ret_int (valI_some (by rw [← h1]; exact hv_hexD k hlt)).symm, rfl⟩
      · rename_i h
        have h1 : hexD k ≠ c := by
          intro e
          have h2 := beq_eq_false_iff_ne.1 h
          exact h2 (by rw [← e])
        go_roundw
        case rel => exact ⟨k + 1, by go_num, by omega, Lib.hid (fun j hj => by
          by_cases e : j = k
          · subst e; exact h1
          · exact hH.out j (by omega)), trivial⟩
        case measure => simp [intOf]; omega
    · obtain rfl : k = 16 := by omega
      have e1 : ¬ ((16 : Nat) : Int) < 16 := by omega
      go_wp2_with fail
      go_ret
      refine ⟨ret_int (valI_none ?_).symm, rfl⟩
      cases hx : hv c with
      | none => rfl
      | some x => exact absurd (hexD_hv hx) (hH.out x (hv_lt hx))
end Go.Proofs.YtmnkekepccdlcaaGreatDoor
