/-
  Contracts of package lex and of its reference: words of a line.
  Conditions: a text of at most 100000 bytes.
-/
import Derived.Test.YtnaacbibciplfaaDoorLexT
import Derived.Test.YtnaacbibciplfaaDoorRow
import Derived.Test.YtnaacbibciplfaaDoorQuoteRef2
namespace Go.Proofs.YtnaacbibciplfaaDoor
open Go.RowKit

theorem plain_of {c : UInt8} (h : 32 < (c.toNat : Int) ∧ (c.toNat : Int) < 127 ∧ ¬ (c.toNat : Int) = 34 ∧ ¬ (c.toNat : Int) = 92) : plainB c = true := by
  unfold plainB
  have h1 : (32 : UInt8) < c := UInt8.lt_iff_toNat_lt.2 (by simp; omega)
  have h2 : c < (127 : UInt8) := UInt8.lt_iff_toNat_lt.2 (by simp; omega)
  have h3 : (c == 34) = false := beq_eq_false_iff_ne.2 (fun e => h.2.2.1 (by rw [e]; rfl))
  have h4 : (c == 92) = false := beq_eq_false_iff_ne.2 (fun e => h.2.2.2 (by rw [e]; rfl))
  simp [h1, h2, h3, h4]
theorem plain_not {c : UInt8} (h : ¬ (32 < (c.toNat : Int) ∧ (c.toNat : Int) < 127 ∧ ¬ (c.toNat : Int) = 34 ∧ ¬ (c.toNat : Int) = 92)) : plainB c = false := by
  unfold plainB
  cases h1 : (decide (32 < c) && decide (c < 127) && !(c == 34) && !(c == 92)) with
  | false => rfl
  | true =>
    simp only [Bool.and_eq_true, decide_eq_true_eq, Bool.not_eq_true', beq_eq_false_iff_ne] at h1
    obtain ⟨⟨⟨a1, a2⟩, a3⟩, a4⟩ := h1
    have b1 := UInt8.lt_iff_toNat_lt.1 a1
    have b2 := UInt8.lt_iff_toNat_lt.1 a2
    simp at b1 b2
    exact absurd ⟨by omega, by omega, fun e => a3 (u8_eq (d := 34) e), fun e => a4 (u8_eq (d := 92) e)⟩ h

set_option maxHeartbeats 1000000 in
theorem xPlainI (n : Int) (p : Bool) (w : World) (h : (32 < n ∧ n < 127 ∧ ¬ n = 34 ∧ ¬ n = 92) ∧ p = true ∨ (n < 33 ∨ 126 < n ∨ n = 34 ∨ n = 92) ∧ p = false) : Calls Tryd.prog 27 #[.int .u8 n] w fun e w' => e = .returned (.bool p) ∧ w = w' := by
  rcases h with ⟨⟨h1, h2, h3, h4⟩, rfl⟩ | ⟨h | h | h | h, rfl⟩
  · have e1 : (33 : Int) ≤ n := by omega
    have e2 : n ≤ (126 : Int) := by omega
    go_enter Tryd.func27, Tryd.ntmps27
    go_wp2_with fail
    go_ret
    exact ⟨by simp; exact ⟨h3, h4⟩, rfl⟩
  · go_enter Tryd.func27, Tryd.ntmps27
    go_wp2_with fail
    go_ret
    exact ⟨rfl, rfl⟩
  · have e1 : (33 : Int) ≤ n := by omega
    go_enter Tryd.func27, Tryd.ntmps27
    go_wp2_with fail
    go_ret
    exact ⟨rfl, rfl⟩
  · subst h
    go_enter Tryd.func27, Tryd.ntmps27
    go_wp2_with fail
    go_ret
    exact ⟨rfl, rfl⟩
  · subst h
    go_enter Tryd.func27, Tryd.ntmps27
    go_wp2_with fail
    go_ret
    exact ⟨rfl, rfl⟩
theorem xPlain (c : UInt8) (w : World) : Calls Tryd.prog 27 #[bval c] w fun e w' => e = .returned (.bool (plainB c)) ∧ w = w' := by
  by_cases h : 32 < (c.toNat : Int) ∧ (c.toNat : Int) < 127 ∧ ¬ (c.toNat : Int) = 34 ∧ ¬ (c.toNat : Int) = 92
  · rw [plain_of h]
    exact xPlainI _ true w (.inl ⟨h, rfl⟩)
  · rw [plain_not h]
    exact xPlainI _ false w (.inr ⟨by omega, rfl⟩)
set_option maxHeartbeats 1000000 in
theorem yPlainI (n : Int) (p : Bool) (w : World) (h : (32 < n ∧ n < 127 ∧ ¬ n = 34 ∧ ¬ n = 92) ∧ p = true ∨ (n < 33 ∨ 126 < n ∨ n = 34 ∨ n = 92) ∧ p = false) : Calls Tryd.prog 30 #[.int .u8 n] w fun e w' => e = .returned (.bool p) ∧ w = w' := by
  rcases h with ⟨⟨h1, h2, h3, h4⟩, rfl⟩ | ⟨h | h | h | h, rfl⟩
  · have e3 := ne_b h3
    have e4 := ne_b h4
    go_enter Tryd.func30, Tryd.ntmps30
    go_wp2_with fail
    go_ret
    exact ⟨by simp; exact ⟨h3, h4⟩, rfl⟩
  · have e1 : ¬ 32 < n := by omega
    go_enter Tryd.func30, Tryd.ntmps30
    go_wp2_with fail
    go_ret
    exact ⟨rfl, rfl⟩
  · have e1 : 32 < n := by omega
    have e2 : ¬ n < 127 := by omega
    go_enter Tryd.func30, Tryd.ntmps30
    go_wp2_with fail
    go_ret
    exact ⟨rfl, rfl⟩
  · subst h
    go_enter Tryd.func30, Tryd.ntmps30
    go_wp2_with fail
    go_ret
    exact ⟨rfl, rfl⟩
  · subst h
    go_enter Tryd.func30, Tryd.ntmps30
    go_wp2_with fail
    go_ret
    exact ⟨rfl, rfl⟩
theorem yPlain (c : UInt8) (w : World) : Calls Tryd.prog 30 #[bval c] w fun e w' => e = .returned (.bool (plainB c)) ∧ w = w' := by
  by_cases h : 32 < (c.toNat : Int) ∧ (c.toNat : Int) < 127 ∧ ¬ (c.toNat : Int) = 34 ∧ ¬ (c.toNat : Int) = 92
  · rw [plain_of h]
    exact yPlainI _ true w (.inl ⟨h, rfl⟩)
  · rw [plain_not h]
    exact yPlainI _ false w (.inr ⟨by omega, rfl⟩)

theorem bareN_at (s : ByteArray) (k : Nat) (hk : k ≤ s.size) (ha : ∀ j (h : j < s.size), j < k → plainB s[j] = true) (hb : k = s.size ∨ ∃ h : k < s.size, plainB s[k] = false) : bareN s.data.toList = k := by
  have hl : s.data.toList.length = s.size := rfl
  have h1 : ∀ b ∈ s.data.toList.take k, plainB b = true := by
    intro b hb
    obtain ⟨j, hj, rfl⟩ := List.mem_iff_getElem.1 hb
    rw [List.length_take] at hj
    rw [List.getElem_take]
    exact ha j (by omega) (by omega)
  have h2 : (s.data.toList.drop k).takeWhile plainB = [] := by
    rcases hb with rfl | ⟨h, hb⟩
    · rw [drop_end s _ (Nat.le_refl _)]; rfl
    · rw [drop_at s k h]; simp [hb]
  unfold bareN
  conv => lhs; rw [← List.take_append_drop k s.data.toList]
  rw [List.takeWhile_append_of_pos h1, h2, List.append_nil, List.length_take]
  omega

set_option maxHeartbeats 1000000 in
theorem xBare (s : ByteArray) (hs : s.size ≤ 100000) (w : World) : Calls Tryd.prog 18 #[.string s] w fun e w' => e = .returned (.int .i64 (bareN s.data.toList)) ∧ w = w' := by
  go_enter Tryd.func18, Tryd.ntmps18
  go_wp2_with fail
  go_loopw [3] (fun iv wr => ∃ k : Nat, iv = .int .i64 k ∧ k ≤ s.size ∧ Hid (∀ j (h : j < s.size), j < k → plainB s[j] = true) ∧ w = wr) (fun iv _ => s.size - (intOf iv).toNat)
  case atStart => exact ⟨0, rfl, Nat.zero_le _, Lib.hid (fun j _ h => absurd h (by omega)), rfl⟩
  case round =>
    obtain ⟨k, rfl, hk, hH, rfl⟩ := hrel
    have e0 : (0 : Int) ≤ (k : Int) := by omega
    by_cases hlt : k < s.size
    · have e1 : (k : Int) < (s.size : Int) := by omega
      have hp := fun w => xPlain s[k] w
      cases hb : plainB s[k] with
      | true =>
        rw [hb] at hp
        have HP := Lib.hid hp
        have HB := Lib.hid hb
        clear hp hb
        go_wp2_with fail
        refine (HP.out _).mono ?_; rintro e w1 ⟨rfl, rfl⟩
        go_wp2_with fail
        go_roundw
        case rel => exact ⟨k + 1, by go_num, by omega, Lib.hid (fun j h hj => by
          by_cases e : j = k
          · subst e; exact HB.out
          · exact hH.out j h (by omega)), trivial⟩
        case measure => simp [intOf]; omega
      | false =>
        have hV := bareN_at s k hk hH.out (.inr ⟨hlt, hb⟩)
        rw [hb] at hp
        have HP := Lib.hid hp
        have HV := Lib.hid hV
        clear hp hb hV
        go_wp2_with fail
        refine (HP.out _).mono ?_; rintro e w1 ⟨rfl, rfl⟩
        go_wp2_with fail
        go_ret
        exact ⟨by rw [HV.out]; rfl, rfl⟩
    · obtain rfl : k = s.size := by omega
      have HV := Lib.hid (bareN_at s _ hk hH.out (.inl rfl))
      have e1 : ¬ (s.size : Int) < (s.size : Int) := by omega
      go_wp2_with fail
      go_ret
      exact ⟨by rw [HV.out]; rfl, rfl⟩

theorem xStop (s : ByteArray) (k : Nat) (er : Int) (he : Hid ((if k = s.size then (3 : Int) else 2) = er)) (h : k ≤ s.size) (w : World) :
    Calls Tryd.prog 19 #[.string s, .int .i64 k] w fun e w' => e = .returned (.tuple #[.slice none 0 0, .int .i64 k, .int .i64 er]) ∧ w = w' := by
  by_cases h1 : k = s.size
  · obtain rfl : (3 : Int) = er := by rw [← he.out, if_pos h1]
    subst h1
    clear he
    go_enter Tryd.func19, Tryd.ntmps19
    go_wp2_with fail
    go_ret3
    exact ⟨rfl, rfl⟩
  · obtain rfl : (2 : Int) = er := by rw [← he.out, if_neg h1]
    have e1 : (k : Int) < (s.size : Int) := by omega
    clear he
    go_enter Tryd.func19, Tryd.ntmps19
    go_wp2_with fail
    go_ret3
    exact ⟨rfl, rfl⟩
end Go.Proofs.YtnaacbibciplfaaDoor
