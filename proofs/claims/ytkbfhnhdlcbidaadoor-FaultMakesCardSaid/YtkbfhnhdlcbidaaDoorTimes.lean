/-
  Contracts of the ticks' Times, as the program and its reference have it: a tick so often.
  Conditions: the arguments are numbers of their Go kinds.
-/
import Derived.Test.YtkbfhnhdlcbidaaDoorTick
import Derived.Test.YtkbfhnhdlcbidaaDoorShelf
namespace Go.Proofs.YtkbfhnhdlcbidaaDoor
open Go.RowKit

def timesT (t n : Int) : Int := if n < 1 then 0 else if ownT t * n ≥ nev then nev else ownT t * n
/-- A number that is nowhere above the greatest. -/
def sat (x : Int) : Int := if x ≥ nev then nev else x
theorem sat_own {x : Int} (h : 0 ≤ x) : ownT (sat x) = sat x := by unfold ownT sat nev; omega
theorem addT_sat {x y : Int} (hx : 0 ≤ x) (hy : 0 ≤ y) : addT (sat x) (sat y) = sat (x + y) := by
  unfold addT; rw [sat_own hx, sat_own hy]; unfold sat nev; omega
theorem sat_i64 {x : Int} (h : 0 ≤ x) : i64 (sat x) := by unfold i64 sat nev; omega
theorem own_sat {t : Int} (h : i64 t) : ownT t = sat (ownT t) := by unfold ownT sat nev; unfold i64 at h; omega
theorem timesT_sat {t n : Int} (hn : 0 ≤ n) : timesT t n = sat (ownT t * n) := by
  unfold timesT sat
  by_cases h : n < 1
  · have e : n = 0 := by omega
    subst e
    rw [if_pos h, Int.mul_zero]; unfold nev; omega
  · rw [if_neg h]
theorem addT_i64 {a b : Int} (ha : i64 a) (hb : i64 b) : i64 (addT a b) := by
  have h1 := ownT_le ha
  have h2 := ownT_le hb
  unfold addT i64 nev; omega
theorem timesT_i64 {t n : Int} : i64 (timesT t n) := by
  have h : 0 ≤ ownT t := by unfold ownT; omega
  unfold timesT i64
  by_cases h1 : n < 1
  · rw [if_pos h1]; omega
  · rw [if_neg h1]
    have : 0 ≤ ownT t * n := Int.mul_nonneg h (by omega)
    unfold nev; omega

theorem tTimes_big (t n : Int) (w : World) (ht : i64 t) (hn : i64 n) (h1 : 1 ≤ n) (h2 : 1 ≤ t) (hb : t * n ≥ 9223372036854775807) :
    Calls Tryd.prog 36 #[.int .i64 t, .int .i64 n] w fun e w' => e = .returned (.int .i64 9223372036854775807) ∧ w = w' := by
  unfold i64 at ht hn
  obtain ⟨t, rfl⟩ := Int.eq_ofNat_of_zero_le (show 0 ≤ t by omega)
  obtain ⟨n, rfl⟩ := Int.eq_ofNat_of_zero_le (show 0 ≤ n by omega)
  obtain ⟨p, hp⟩ : ∃ p, p = t * n := ⟨_, rfl⟩
  have hp1 : (9223372036854775807 : Int) ≤ (p : Int) := by rw [← Int.natCast_mul, ← hp] at hb; omega
  have HP := Lib.hid hp
  have g1 : decide ((n : Int) < 1) = false := by simp; omega
  have g2 : decide ((t : Int) < 1) = false := by simp; omega
  clear hb hp
  by_cases hh : 18446744073709551616 ≤ p
  · have e1 : 0 < p / 18446744073709551616 := by omega
    have E1 := Lib.hid e1
    clear e1
    go_enter Tryd.func36, Tryd.ntmps36
    go_wp2_with fail
    refine (Tryd.bits_Mul64 t n (by omega) (by omega) _).mono ?_
    rw [← HP.out]
    rintro e w' ⟨rfl, rfl⟩
    have e1 := E1.out
    go_wp2_with fail
    go_ret
    exact ⟨rfl, rfl⟩
  · have e1 : p / 18446744073709551616 = 0 := by omega
    have e2 : p % 18446744073709551616 = p := by omega
    go_enter Tryd.func36, Tryd.ntmps36
    go_wp2_with fail
    refine (Tryd.bits_Mul64 t n (by omega) (by omega) _).mono ?_
    rw [← HP.out, e1, e2]
    rintro e w' ⟨rfl, rfl⟩
    clear e1 e2 hh HP ht hn
    go_wp2_with fail
    go_ret
    exact ⟨rfl, rfl⟩

theorem tTimes_few (t n : Int) (w : World) (ht : i64 t) (hn : i64 n) (h1 : 1 ≤ n) (h2 : 1 ≤ t) (hb : t * n < 9223372036854775807) :
    Calls Tryd.prog 36 #[.int .i64 t, .int .i64 n] w fun e w' => e = .returned (.int .i64 (t * n)) ∧ w = w' := by
  unfold i64 at ht hn
  obtain ⟨t, rfl⟩ := Int.eq_ofNat_of_zero_le (show 0 ≤ t by omega)
  obtain ⟨n, rfl⟩ := Int.eq_ofNat_of_zero_le (show 0 ≤ n by omega)
  obtain ⟨p, hp⟩ : ∃ p, p = t * n := ⟨_, rfl⟩
  have hp1 : (p : Int) < 9223372036854775807 := by rw [← Int.natCast_mul, ← hp] at hb; omega
  rw [← Int.natCast_mul, ← hp]
  have HP := Lib.hid hp
  have g1 : decide ((n : Int) < 1) = false := by simp; omega
  have g2 : decide ((t : Int) < 1) = false := by simp; omega
  clear hb hp
  have e1 : p / 18446744073709551616 = 0 := by omega
  have e2 : p % 18446744073709551616 = p := by omega
  go_enter Tryd.func36, Tryd.ntmps36
  go_wp2_with fail
  refine (Tryd.bits_Mul64 t n (by omega) (by omega) _).mono ?_
  obtain ⟨x, hx⟩ : ∃ x : Int, x = (p : Int) := ⟨_, rfl⟩
  have hx1 : x < 9223372036854775807 := by omega
  have hx0 : 0 ≤ x := by omega
  rw [← HP.out, e1, e2, ← hx]
  rintro e w' ⟨rfl, rfl⟩
  have HX := Lib.hid hx
  clear e1 e2 HP ht hn hp1 hx
  go_wp2_with fail
  go_ret
  exact ⟨ret_int HX.out, rfl⟩

theorem tTimes_no (t n : Int) (w : World) (h : n < 1 ∨ t < 1) : Calls Tryd.prog 36 #[.int .i64 t, .int .i64 n] w fun e w' => e = .returned (.int .i64 0) ∧ w = w' := by
  by_cases h1 : n < 1
  · have g1 : decide (n < 1) = true := by simpa using h1
    go_enter Tryd.func36, Tryd.ntmps36
    go_wp2_with fail
    go_ret
    exact ⟨rfl, rfl⟩
  · have h2 : t < 1 := by omega
    have g1 : decide (n < 1) = false := by simpa using h1
    have g2 : decide (t < 1) = true := by simpa using h2
    go_enter Tryd.func36, Tryd.ntmps36
    go_wp2_with fail
    go_ret
    exact ⟨rfl, rfl⟩

theorem tTimes (t n : Int) (w : World) (ht : i64 t) (hn : i64 n) : Calls Tryd.prog 36 #[.int .i64 t, .int .i64 n] w fun e w' => e = .returned (.int .i64 (timesT t n)) ∧ w = w' := by
  by_cases h : n < 1 ∨ t < 1
  · have e : timesT t n = 0 := by
      unfold timesT
      by_cases h1 : n < 1
      · rw [if_pos h1]
      · rw [if_neg h1]
        have h0 : ownT t = 0 := by unfold ownT; omega
        rw [h0, Int.zero_mul]; unfold nev; omega
    rw [e]; exact tTimes_no t n w h
  · have h0 : ownT t = t := by unfold ownT; omega
    by_cases hb : t * n ≥ 9223372036854775807
    · have e : timesT t n = 9223372036854775807 := by unfold timesT; rw [if_neg (by omega), h0, if_pos (show t * n ≥ nev from hb)]; rfl
      rw [e]; exact tTimes_big t n w ht hn (by omega) (by omega) hb
    · have e : timesT t n = t * n := by unfold timesT; rw [if_neg (by omega), h0, if_neg (show ¬ t * n ≥ nev from hb)]
      rw [e]; exact tTimes_few t n w ht hn (by omega) (by omega) (by omega)

/-- Half of a number, and whether it is odd. -/
theorem half (k : Nat) (o p g : Int) (h : o + p * (k : Int) = g) : (if k % 2 = 1 then o + p else o) + (p + p) * ((k / 2 : Nat) : Int) = g := by
  have e : (k : Int) = 2 * ((k / 2 : Nat) : Int) + ((k % 2 : Nat) : Int) := by omega
  generalize ((k / 2 : Nat) : Int) = c at *
  rw [e, Int.mul_add, Int.mul_left_comm] at h
  rw [Int.add_mul]
  generalize p * c = m at *
  rcases Nat.mod_two_eq_zero_or_one k with h0 | h0
  · rw [h0] at h
    rw [if_neg (by omega)]
    simp only [Int.natCast_zero, Int.mul_zero] at h
    omega
  · rw [h0] at h
    rw [if_pos h0]
    simp only [Int.natCast_one, Int.mul_one] at h
    omega

theorem rAddS {a b : Int} (ha : 0 ≤ a) (hb : 0 ≤ b) (w : World) : Calls Tryd.prog 35 #[.int .i64 (sat a), .int .i64 (sat b)] w fun e w' => e = .returned (.int .i64 (sat (a + b))) ∧ w = w' := by
  rw [← addT_sat ha hb]
  exact rAdd _ _ w (sat_i64 ha) (sat_i64 hb)

set_option maxHeartbeats 1000000 in
theorem rTimes_some (t : Int) (n : Nat) (w : World) (ht : i64 t) (hn : (n : Int) ≤ 9223372036854775807) : Calls Tryd.prog 37 #[.int .i64 t, .int .i64 n] w fun e w' => e = .returned (.int .i64 (timesT t n)) ∧ w = w' := by
  have h0 := ownT_le ht
  have HS := Lib.hid (own_sat ht)
  have HF := Lib.hid (timesT_sat (t := t) (n := n) (by omega))
  clear ht
  go_enter Tryd.func37, Tryd.ntmps37
  go_wp2_with fail
  refine (rOwn _ _).mono ?_; rintro e w' ⟨rfl, rfl⟩
  go_wp2_with fail
  go_loop [5, 6, 7] (fun o p k => ∃ (a b : Int) (c : Nat), 0 ≤ a ∧ 0 ≤ b ∧ (c : Int) ≤ 9223372036854775807 ∧ o = .int .i64 (sat a) ∧ p = .int .i64 (sat b) ∧ k = .int .i64 c ∧ (a + b * (c : Int) = ownT t * n)) (fun _ _ k => (intOf k).toNat)
  case atStart => exact ⟨0, ownT t, n, by omega, h0.1, hn, by unfold sat nev; rfl, by rw [← HS.out], rfl, by omega⟩
  case round =>
    obtain ⟨a, b, c, ha, hb, hc, rfl, rfl, rfl, heq⟩ := hrel
    have HE := Lib.hid heq
    clear heq
    by_cases hc0 : 0 < c
    · have hh := half c a b _ HE.out
      have HH := Lib.hid hh
      clear hh
      by_cases h2 : c % 2 = 1
      · have t1 : ((c : Int) % 2 == 1) = true := by rw [beq_iff_eq]; omega
        have HD := Lib.hid h2
        clear h2
        go_wp2_with fail
        refine (rAddS ha hb _).mono ?_; rintro e w' ⟨rfl, rfl⟩
        go_wp2_with fail
        refine (rAddS hb hb _).mono ?_; rintro e w' ⟨rfl, rfl⟩
        go_wp2_with fail
        go_round
        case rel => exact ⟨a + b, b + b, c / 2, by omega, by omega, by omega, rfl, rfl, by go_num, by have := HH.out; rw [if_pos HD.out] at this; exact this⟩
        case measure => simp [intOf]; omega
      · have t1 : ((c : Int) % 2 == 1) = false := by rw [beq_eq_false_iff_ne]; omega
        have HD := Lib.hid h2
        clear h2
        go_wp2_with fail
        refine (rAddS hb hb _).mono ?_; rintro e w' ⟨rfl, rfl⟩
        go_wp2_with fail
        go_round
        case rel => exact ⟨a, b + b, c / 2, by omega, by omega, by omega, rfl, rfl, by go_num, by have := HH.out; rw [if_neg HD.out] at this; exact this⟩
        case measure => simp [intOf]; omega
    · obtain rfl : c = 0 := by omega
      go_wp2
      go_ret
      exact ⟨ret_int (by rw [HF.out, ← HE.out]; simp), rfl⟩

theorem rTimes (t n : Int) (w : World) (ht : i64 t) (hn : i64 n) : Calls Tryd.prog 37 #[.int .i64 t, .int .i64 n] w fun e w' => e = .returned (.int .i64 (timesT t n)) ∧ w = w' := by
  by_cases h : n < 1
  · have e : timesT t n = 0 := by unfold timesT; rw [if_pos h]
    rw [e]
    clear e ht hn
    go_enter Tryd.func37, Tryd.ntmps37
    go_wp2_with fail
    refine (rOwn _ _).mono ?_; rintro e w' ⟨rfl, rfl⟩
    go_wp2_with fail
    refine wp_loop_rounds 1 ?_
    rw [rounds_succ]
    go_wp2
    go_ret
    exact ⟨rfl, rfl⟩
  · obtain ⟨m, rfl⟩ := Int.eq_ofNat_of_zero_le (show 0 ≤ n by omega)
    exact rTimes_some t m w ht hn.2
end Go.Proofs.YtkbfhnhdlcbidaaDoor
