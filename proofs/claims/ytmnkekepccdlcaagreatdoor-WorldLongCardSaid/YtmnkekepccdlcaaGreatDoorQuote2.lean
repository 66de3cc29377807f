/-
  Contracts of package quote, second part: what is read of a text in quotes.
  Conditions: a text of at most 100000 bytes.
-/
import Derived.Test.YtmnkekepccdlcaaGreatDoorQuote
namespace Go.Proofs.YtmnkekepccdlcaaGreatDoor
set_option linter.unusedVariables false
set_option linter.unusedSimpArgs false
open Go.RowKit

theorem hv_lo {c : UInt8} (h : 48 ≤ (c.toNat : Int) ∧ (c.toNat : Int) ≤ 57) : hv c = some (c.toNat - 48) := by
  unfold hv
  rw [if_pos ⟨UInt8.le_iff_toNat_le.2 (by simp; omega), UInt8.le_iff_toNat_le.2 (by simp; omega)⟩]
theorem hv_hi {c : UInt8} (h : 97 ≤ (c.toNat : Int) ∧ (c.toNat : Int) ≤ 102) : hv c = some (c.toNat - 87) := by
  unfold hv
  rw [if_neg (fun hh => by have := UInt8.le_iff_toNat_le.1 hh.2; simp at this; omega), if_pos ⟨UInt8.le_iff_toNat_le.2 (by simp; omega), UInt8.le_iff_toNat_le.2 (by simp; omega)⟩]
theorem hv_no {c : UInt8} (h : ¬ (48 ≤ (c.toNat : Int) ∧ (c.toNat : Int) ≤ 57)) (h2 : ¬ (97 ≤ (c.toNat : Int) ∧ (c.toNat : Int) ≤ 102)) : hv c = none := by
  unfold hv
  rw [if_neg (fun hh => h (by have h1 := UInt8.le_iff_toNat_le.1 hh.1; have h2 := UInt8.le_iff_toNat_le.1 hh.2; simp at h1 h2; omega)), if_neg (fun hh => h2 (by have h1 := UInt8.le_iff_toNat_le.1 hh.1; have h2 := UInt8.le_iff_toNat_le.1 hh.2; simp at h1 h2; omega))]
theorem hv_lt {c : UInt8} {x : Nat} (h : hv c = some x) : x < 16 := by
  unfold hv at h
  split at h
  · rename_i h1; have := UInt8.le_iff_toNat_le.1 h1.2; simp at this h; omega
  · split at h
    · rename_i h1; have := UInt8.le_iff_toNat_le.1 h1.2; simp at this h; omega
    · cases h

theorem qDigitI (n : Int) (w : World) (hn : 0 ≤ n ∧ n ≤ 255) (v : Int) (ok : Bool) (h : (48 ≤ n ∧ n ≤ 57) ∧ v = n - 48 ∧ ok = true ∨ (97 ≤ n ∧ n ≤ 102) ∧ v = n - 97 + 10 ∧ ok = true ∨ n < 48 ∧ v = 0 ∧ ok = false ∨ (57 < n ∧ n < 97) ∧ v = 0 ∧ ok = false ∨ 102 < n ∧ v = 0 ∧ ok = false) :
    Calls Tryz.prog 166 #[.int .u8 n] w fun e w' => e = .returned (.tuple #[.int .u8 v, .bool ok]) ∧ w = w' := by
  go_enter Tryz.func166, Tryz.ntmps166
  rcases h with ⟨h, rfl, rfl⟩ | ⟨h, rfl, rfl⟩ | ⟨h, rfl, rfl⟩ | ⟨h, rfl, rfl⟩ | ⟨h, rfl, rfl⟩
  all_goals (
    go_wp2_with fail
    go_ret2
    exact ⟨by first | rfl | (congr 4; omega), rfl⟩)

def dgV (c : UInt8) : Int := ((hv c).getD 0 : Nat)
theorem qDigit (c : UInt8) (w : World) : Calls Tryz.prog 166 #[bval c] w fun e w' => e = .returned (.tuple #[.int .u8 (dgV c), .bool (hv c).isSome]) ∧ w = w' := by
  have hc := u8_lt c
  unfold dgV
  by_cases h1 : 48 ≤ (c.toNat : Int) ∧ (c.toNat : Int) ≤ 57
  · rw [hv_lo h1]
    exact qDigitI _ w hc _ _ (.inl ⟨h1, by simp; omega, rfl⟩)
  · by_cases h2 : 97 ≤ (c.toNat : Int) ∧ (c.toNat : Int) ≤ 102
    · rw [hv_hi h2]
      exact qDigitI _ w hc _ _ (.inr (.inl ⟨h2, by simp; omega, rfl⟩))
    · rw [hv_no h1 h2]
      have : (c.toNat : Int) < 48 ∨ 57 < (c.toNat : Int) ∧ (c.toNat : Int) < 97 ∨ 102 < (c.toNat : Int) := by omega
      rcases this with h | h | h
      · exact qDigitI _ w hc _ _ (.inr (.inr (.inl ⟨h, rfl, rfl⟩)))
      · exact qDigitI _ w hc _ _ (.inr (.inr (.inr (.inl ⟨h, rfl, rfl⟩))))
      · exact qDigitI _ w hc _ _ (.inr (.inr (.inr (.inr ⟨h, rfl, rfl⟩))))

theorem two_digits {x y : Nat} (hx : x < 16) (hy : y < 16) : bits BinOp.or IntKind.u8 (bits BinOp.or IntKind.u8 0 (x : Int) * 16 % 256) (y : Int) = ((UInt8.ofNat (16 * x + y)).toNat : Int) := by
  have : ∀ x y : Fin 16, bits BinOp.or IntKind.u8 (bits BinOp.or IntKind.u8 0 ((x.val : Nat) : Int) * 16 % 256) ((y.val : Nat) : Int) = ((UInt8.ofNat (16 * x.val + y.val)).toNat : Int) := by decide +kernel
  exact this ⟨x, hx⟩ ⟨y, hy⟩

set_option maxHeartbeats 1000000 in
theorem qHex2 (s : ByteArray) (k : Nat) (hs : s.size ≤ 200000) (h : k + 1 < s.size) (x y : Nat) (hx : hv s[k] = some x) (hy : hv s[k + 1] = some y) (w : World) :
    Calls Tryz.prog 152 #[.string s, .int .i64 k] w fun e w' => e = .returned (.tuple #[bval (UInt8.ofNat (16 * x + y)), .int .i64 ((k + 2 : Nat) : Int), .bool true]) ∧ w = w' := by
  have f1 : ∀ w, Calls Tryz.prog 166 #[bval s[k]] w fun e w' => e = .returned (.tuple #[.int .u8 x, .bool true]) ∧ w = w' := fun w => by
    have := qDigit s[k] w; unfold dgV at this; rwa [hx] at this
  have f2 : ∀ w, Calls Tryz.prog 166 #[bval s[k + 1]] w fun e w' => e = .returned (.tuple #[.int .u8 y, .bool true]) ∧ w = w' := fun w => by
    have := qDigit s[k + 1] w; unfold dgV at this; rwa [hy] at this
  have lx := hv_lt hx
  have ly := hv_lt hy
  have F1 := Lib.hid f1
  have F2 := Lib.hid f2
  clear f1 f2 hx hy
  have e0 : (0 : Int) ≤ (k : Int) := by omega
  have e1 : (k : Int) < (s.size : Int) := by omega
  have e2 : (k : Int) + 1 < (s.size : Int) := by omega
  go_enter Tryz.func152, Tryz.ntmps152
  go_wp2_with fail
  refine wp_loop_rounds 3 ?_
  rw [rounds_succ]
  go_wp2_with fail
  refine (F1.out _).mono ?_; rintro e w1 ⟨rfl, rfl⟩
  go_wp2_with fail
  rw [rounds_succ]
  go_wp2_with fail
  refine (F2.out _).mono ?_; rintro e w1 ⟨rfl, rfl⟩
  go_wp2_with fail
  rw [rounds_succ]
  go_wp2_with fail
  go_ret3
  exact ⟨by rw [two_digits lx ly, Int.natCast_add]; rfl, rfl⟩
set_option maxHeartbeats 1000000 in
theorem qHex0 (s : ByteArray) (k : Nat) (hs : s.size ≤ 200000) (h : k = s.size ∨ k < s.size ∧ ∀ h : k < s.size, hv s[k] = none) (w : World) :
    Calls Tryz.prog 152 #[.string s, .int .i64 k] w fun e w' => e = .returned (.tuple #[bval 0, .int .i64 k, .bool false]) ∧ w = w' := by
  rcases h with rfl | ⟨h, hx⟩
  · go_enter Tryz.func152, Tryz.ntmps152
    go_wp2_with fail
    refine wp_loop_rounds 3 ?_
    rw [rounds_succ]
    go_wp2_with fail
    go_ret3
    exact ⟨rfl, rfl⟩
  · have f1 : ∀ w, Calls Tryz.prog 166 #[bval s[k]] w fun e w' => e = .returned (.tuple #[.int .u8 0, .bool false]) ∧ w = w' := fun w => by
      have := qDigit s[k] w; unfold dgV at this; rwa [hx h] at this
    have F1 := Lib.hid f1
    clear f1 hx
    have e0 : (0 : Int) ≤ (k : Int) := by omega
    have e1 : (k : Int) < (s.size : Int) := by omega
    go_enter Tryz.func152, Tryz.ntmps152
    go_wp2_with fail
    refine wp_loop_rounds 3 ?_
    rw [rounds_succ]
    go_wp2_with fail
    refine (F1.out _).mono ?_; rintro e w1 ⟨rfl, rfl⟩
    go_wp2_with fail
    go_ret3
    exact ⟨rfl, rfl⟩
set_option maxHeartbeats 1000000 in
theorem qHex1 (s : ByteArray) (k : Nat) (hs : s.size ≤ 200000) (x : Nat) (hk : k < s.size) (hx : hv s[k] = some x) (h : k + 1 = s.size ∨ k + 1 < s.size ∧ ∀ h : k + 1 < s.size, hv s[k + 1] = none) (w : World) :
    Calls Tryz.prog 152 #[.string s, .int .i64 k] w fun e w' => e = .returned (.tuple #[bval 0, .int .i64 ((k + 1 : Nat) : Int), .bool false]) ∧ w = w' := by
  have f1 : ∀ w, Calls Tryz.prog 166 #[bval s[k]] w fun e w' => e = .returned (.tuple #[.int .u8 x, .bool true]) ∧ w = w' := fun w => by
    have := qDigit s[k] w; unfold dgV at this; rwa [hx] at this
  have F1 := Lib.hid f1
  have lx := hv_lt hx
  clear f1 hx
  have e0 : (0 : Int) ≤ (k : Int) := by omega
  have e1 : (k : Int) < (s.size : Int) := by omega
  rcases h with h | ⟨h, hy⟩
  · have e2 : ¬ (k : Int) + 1 < (s.size : Int) := by omega
    have HH := Lib.hid h
    clear h
    go_enter Tryz.func152, Tryz.ntmps152
    go_wp2_with fail
    refine wp_loop_rounds 3 ?_
    rw [rounds_succ]
    go_wp2_with fail
    refine (F1.out _).mono ?_; rintro e w1 ⟨rfl, rfl⟩
    go_wp2_with fail
    rw [rounds_succ]
    go_wp2_with fail
    go_ret3
    exact ⟨by rw [HH.out]; rfl, rfl⟩
  · have f2 : ∀ w, Calls Tryz.prog 166 #[bval s[k + 1]] w fun e w' => e = .returned (.tuple #[.int .u8 0, .bool false]) ∧ w = w' := fun w => by
      have := qDigit s[k + 1] w; unfold dgV at this; rwa [hy h] at this
    have F2 := Lib.hid f2
    clear f2 hy
    have e2 : (k : Int) + 1 < (s.size : Int) := by omega
    go_enter Tryz.func152, Tryz.ntmps152
    go_wp2_with fail
    refine wp_loop_rounds 3 ?_
    rw [rounds_succ]
    go_wp2_with fail
    refine (F1.out _).mono ?_; rintro e w1 ⟨rfl, rfl⟩
    go_wp2_with fail
    rw [rounds_succ]
    go_wp2_with fail
    refine (F2.out _).mono ?_; rintro e w1 ⟨rfl, rfl⟩
    go_wp2_with fail
    go_ret3
    exact ⟨by rw [Int.natCast_add]; rfl, rfl⟩


/-- What a reading of one byte gives: the byte, where it goes on, and whether there is one. -/
abbrev oneV (r : Option UInt8 × Nat) (k : Nat) : Value := .tuple #[bval (r.1.getD 0), .int .i64 ((k + r.2 : Nat) : Int), .bool r.1.isSome]

theorem qHex (s : ByteArray) (k : Nat) (hs : s.size ≤ 200000) (h : k ≤ s.size) (w : World) :
    Calls Tryz.prog 152 #[.string s, .int .i64 k] w fun e w' => e = .returned (oneV (hexL (s.data.toList.drop k)) k) ∧ w = w' := by
  rcases Nat.lt_or_ge k s.size with h1 | h1
  · rw [drop_at s k h1]
    cases hx : hv s[k] with
    | none =>
      simp only [hexL, hx]
      exact qHex0 s k hs (.inr ⟨h1, fun _ => hx⟩) w
    | some x =>
      rcases Nat.lt_or_ge (k + 1) s.size with h2 | h2
      · rw [drop_at s (k + 1) h2]
        cases hy : hv s[k + 1] with
        | none =>
          simp only [hexL, hx, hy]
          exact qHex1 s k hs x h1 hx (.inr ⟨h2, fun _ => hy⟩) w
        | some y =>
          simp only [hexL, hx, hy]
          exact qHex2 s k hs h2 x y hx hy w
      · rw [drop_end s (k + 1) h2]
        simp only [hexL, hx]
        exact qHex1 s k hs x h1 hx (.inl (by omega)) w
  · obtain rfl : k = s.size := by omega
    rw [drop_end s _ (Nat.le_refl _)]
    exact qHex0 s _ hs (.inl rfl) w

set_option maxHeartbeats 2000000 in
theorem qEscI (s : ByteArray) (k : Nat) (hs : s.size ≤ 200000) (h : k < s.size) (n v m : Int) (ok : Bool) (hn : Hid ((s[k].toNat : Int) = n)) (w : World)
    (hc : (n = 34 ∨ n = 92) ∧ v = n ∧ m = (k : Int) + 1 ∧ ok = true ∨ n = 110 ∧ v = 10 ∧ m = (k : Int) + 1 ∧ ok = true ∨ n = 114 ∧ v = 13 ∧ m = (k : Int) + 1 ∧ ok = true ∨ n = 116 ∧ v = 9 ∧ m = (k : Int) + 1 ∧ ok = true ∨
      (¬ n = 34 ∧ ¬ n = 92 ∧ ¬ n = 110 ∧ ¬ n = 114 ∧ ¬ n = 116 ∧ ¬ n = 120) ∧ v = 0 ∧ m = (k : Int) ∧ ok = false) :
    Calls Tryz.prog 135 #[.string s, .int .i64 k] w fun e w' => e = .returned (.tuple #[.int .u8 v, .int .i64 m, .bool ok]) ∧ w = w' := by
  have e0 : (0 : Int) ≤ (k : Int) := by omega
  have e1 : (k : Int) < (s.size : Int) := by omega
  have hi := hn.out
  go_enter Tryz.func135, Tryz.ntmps135
  rcases hc with ⟨rfl | rfl, rfl, rfl, rfl⟩ | ⟨rfl, rfl, rfl, rfl⟩ | ⟨rfl, rfl, rfl, rfl⟩ | ⟨rfl, rfl, rfl, rfl⟩ | ⟨⟨c1, c2, c3, c4, c5, c6⟩, rfl, rfl, rfl⟩
  · go_wp2_with fail
    go_ret3
    exact ⟨rfl, rfl⟩
  · go_wp2_with fail
    go_ret3
    exact ⟨rfl, rfl⟩
  · go_wp2_with fail
    go_ret3
    exact ⟨rfl, rfl⟩
  · go_wp2_with fail
    go_ret3
    exact ⟨rfl, rfl⟩
  · go_wp2_with fail
    go_ret3
    exact ⟨rfl, rfl⟩
  · have c1 := ne_b c1
    have c2 := ne_b c2
    have c3 := ne_b c3
    have c4 := ne_b c4
    have c5 := ne_b c5
    have c6 := ne_b c6
    go_wp2_with fail
    go_ret3
    exact ⟨rfl, rfl⟩
theorem qEscX (s : ByteArray) (k : Nat) (hs : s.size ≤ 200000) (h : k < s.size) (hi : (s[k].toNat : Int) = 120) (w : World) :
    Calls Tryz.prog 135 #[.string s, .int .i64 k] w fun e w' => e = .returned (oneV (hexL (s.data.toList.drop (k + 1))) (k + 1)) ∧ w = w' := by
  have e0 : (0 : Int) ≤ (k : Int) := by omega
  have e1 : (k : Int) < (s.size : Int) := by omega
  have hx := fun w => qHex s (k + 1) hs (by omega) w
  have HX := Lib.hid hx
  clear hx
  go_enter Tryz.func135, Tryz.ntmps135
  go_wp2_with fail
  refine (HX.out _).mono ?_; rintro e w1 ⟨rfl, rfl⟩
  go_wp2_with fail
  go_ret3
  exact ⟨rfl, rfl⟩
theorem qEscEnd (s : ByteArray) (_hs : s.size ≤ 200000) (w : World) :
    Calls Tryz.prog 135 #[.string s, .int .i64 s.size] w fun e w' => e = .returned (.tuple #[bval 0, .int .i64 s.size, .bool false]) ∧ w = w' := by
  go_enter Tryz.func135, Tryz.ntmps135
  go_wp2_with fail
  go_ret3
  exact ⟨rfl, rfl⟩

theorem qEsc (s : ByteArray) (k : Nat) (hs : s.size ≤ 200000) (h : k ≤ s.size) (w : World) :
    Calls Tryz.prog 135 #[.string s, .int .i64 k] w fun e w' => e = .returned (oneV (escL (s.data.toList.drop k)) k) ∧ w = w' := by
  rcases Nat.lt_or_ge k s.size with h1 | h1
  · rw [drop_at s k h1]
    have key := fun n v m ok hn hc => qEscI s k hs h1 n v m ok (Lib.hid hn) w hc
    generalize hcc : s[k] = c at *
    have hc1 : (s[k].toNat : Int) = (c.toNat : Int) := by rw [hcc]
    simp only [escL]
    by_cases c1 : c = 34 ∨ c = 92
    · rw [if_pos c1]
      exact key _ _ _ _ rfl (.inl ⟨by rcases c1 with rfl | rfl <;> decide, rfl, by rw [Int.natCast_add]; rfl, rfl⟩)
    · rw [if_neg c1]
      have d1 : ¬ (c.toNat : Int) = 34 := fun e => c1 (.inl (u8_eq e))
      have d2 : ¬ (c.toNat : Int) = 92 := fun e => c1 (.inr (u8_eq e))
      by_cases c2 : c = 110
      · rw [if_pos c2]
        exact key _ _ _ _ rfl (.inr (.inl ⟨by rw [c2]; rfl, rfl, by rw [Int.natCast_add]; rfl, rfl⟩))
      · rw [if_neg c2]
        by_cases c3 : c = 114
        · rw [if_pos c3]
          exact key _ _ _ _ rfl (.inr (.inr (.inl ⟨by rw [c3]; rfl, rfl, by rw [Int.natCast_add]; rfl, rfl⟩)))
        · rw [if_neg c3]
          by_cases c4 : c = 116
          · rw [if_pos c4]
            exact key _ _ _ _ rfl (.inr (.inr (.inr (.inl ⟨by rw [c4]; rfl, rfl, by rw [Int.natCast_add]; rfl, rfl⟩))))
          · rw [if_neg c4]
            by_cases c5 : c = 120
            · rw [if_pos c5]
              have := qEscX s k hs h1 (by rw [hc1, c5]; rfl) w
              unfold oneV at this ⊢
              rwa [Nat.add_assoc] at this
            · rw [if_neg c5]
              exact key _ _ _ _ rfl (.inr (.inr (.inr (.inr ⟨⟨d1, d2, fun e => c2 (u8_eq e), fun e => c3 (u8_eq e), fun e => c4 (u8_eq e), fun e => c5 (u8_eq e)⟩, rfl, rfl, rfl⟩))))
  · obtain rfl : k = s.size := by omega
    rw [drop_end s _ (Nat.le_refl _)]
    exact qEscEnd s hs w

theorem qWrong (s : ByteArray) (k : Nat) (_hs : s.size ≤ 200000) (h : k ≤ s.size) (w : World) :
    Calls Tryz.prog 134 #[.string s, .int .i64 k] w fun e w' => e = .returned (.tuple #[.string ⟨#[]⟩, .int .i64 k, .int .i64 (if k = s.size then 3 else 2)]) ∧ w = w' := by
  by_cases h1 : k = s.size
  · rw [if_pos h1]
    subst h1
    go_enter Tryz.func134, Tryz.ntmps134
    go_wp2_with fail
    go_ret3
    exact ⟨rfl, rfl⟩
  · rw [if_neg h1]
    have e1 : (k : Int) < (s.size : Int) := by omega
    go_enter Tryz.func134, Tryz.ntmps134
    go_wp2_with fail
    go_ret3
    exact ⟨rfl, rfl⟩

theorem qWrongE (s : ByteArray) (k : Nat) (er : Int) (he : Hid ((if k = s.size then (3 : Int) else 2) = er)) (h : k ≤ s.size) (hs : s.size ≤ 200000) (w : World) :
    Calls Tryz.prog 134 #[.string s, .int .i64 k] w fun e w' => e = .returned (.tuple #[.string ⟨#[]⟩, .int .i64 k, .int .i64 er]) ∧ w = w' := by
  have := qWrong s k hs h w
  rwa [he.out] at this

/-- What a reading gives. -/
def rdV (n : Nat) (r : Option (List UInt8) × Nat) : Value := match r.1 with
  | some l => .tuple #[.string ⟨l.toArray⟩, .int .i64 (r.2 : Nat), .int .i64 0]
  | none => .tuple #[.string ⟨#[]⟩, .int .i64 (r.2 : Nat), .int .i64 (if r.2 = n then 3 else 2)]

theorem rd_next {T : Option (List UInt8) × Nat} {t acc : List UInt8} {k n : Nat} {b : UInt8} (h : T = ((rdL t).1.map (acc ++ ·), k + (rdL t).2)) (h34 : t.head? ≠ some 34) (h1 : oneL t = (some b, n)) :
    T = ((rdL (t.drop n)).1.map ((acc ++ [b]) ++ ·), (k + n) + (rdL (t.drop n)).2) := by
  rw [h, rdL_go h34 (by rw [h1]), h1]
  simp only [Option.map_map, Prod.mk.injEq]
  refine ⟨?_, by omega⟩
  congr 1
  funext l
  simp
theorem rd_stop {T : Option (List UInt8) × Nat} {t acc : List UInt8} {k n : Nat} (h : T = ((rdL t).1.map (acc ++ ·), k + (rdL t).2)) (h34 : t.head? ≠ some 34) (h1 : oneL t = (none, n)) : T = (none, k + n) := by
  rw [h, rdL_stop h34 (by rw [h1]), h1]
  rfl
theorem infoByte : (Tryz.prog.info? 5).map (fun i => (i.zero, i.size, i.bytes)) = some (some (.int .u8 0), 1, 1) := by kernel_rfl

set_option maxHeartbeats 4000000 in
theorem qread (s : ByteArray) (hs : s.size ≤ 100000) (w : World) :
    Calls Tryz.prog 115 #[.string s] w fun e w' => e = .returned (rdV s.size (readT s.data.toList)) ∧ Below w.heap.size w w' := by
  by_cases h0 : s.size = 0
  · obtain rfl : s = ⟨#[]⟩ := by
      apply ByteArray.ext
      exact Array.eq_empty_of_size_eq_zero h0
    go_enter Tryz.func115, Tryz.ntmps115
    go_wp2_with fail
    refine (qWrong ⟨#[]⟩ 0 (by decide) (by decide) _).mono ?_; rintro e w1 ⟨rfl, rfl⟩
    go_wp2_with fail
    go_ret3
    exact ⟨rfl, Below.refl _ _⟩
  · have hne : s.toList.isEmpty = false := by
      rw [ByteArray.toList_eq]
      cases hl : s.data.toList with
      | nil => have : s.data.toList.length = s.size := rfl
               rw [hl] at this; simp at this; omega
      | cons _ _ => rfl
    have h1 : 0 < s.size := by omega
    have hd := drop_at s 0 h1
    rw [List.drop_zero] at hd
    by_cases hq : (s[0].toNat : Int) = 34
    · have hr : readT s.data.toList = ((rdL (s.data.toList.drop 1)).1, 1 + (rdL (s.data.toList.drop 1)).2) := by
        rw [hd]; simp only [readT, if_pos (u8_eq (c := s[0]) (d := 34) hq)]
        rfl
      have HR := Lib.hid hr
      clear hr hd
      generalize hT : readT s.data.toList = T at HR ⊢
      clear hT
      go_enter Tryz.func115, Tryz.ntmps115
      go_wp2_with fail
      generalize hB : w.heap.size = B at *
      have hBs : B ≤ w.heap.size := Nat.le_of_eq hB.symm
      have HB := Lib.hid hB
      clear hB
      go_loopw [5, 6] (fun ov iv wr => ∃ (k : Nat) (ao : Option Addr) (cap : Nat) (acc : List UInt8), iv = .int .i64 k ∧ ov = .slice ao acc.length cap ∧ 1 ≤ k ∧ k ≤ s.size ∧ acc.length ≤ k ∧ OB 5 B wr (.slice ao acc.length cap) acc ∧ Below B w wr ∧
        Hid (T = ((rdL (s.data.toList.drop k)).1.map (acc ++ ·), k + (rdL (s.data.toList.drop k)).2))) (fun _ iv _ => s.size - (intOf iv).toNat)
      case atStart => exact ⟨1, none, 0, [], rfl, rfl, Nat.le_refl _, h1, Nat.zero_le _, OB.nil _ _ _, Below.refl _ _, Lib.hid (by rw [HR.out]; simp)⟩
      case round =>
        obtain ⟨k, ao, cap, acc, rfl, rfl, hk1, hk, hal, hob, hb, hH⟩ := hrel
        clear HR hne h0 hq
        have e0 : (0 : Int) ≤ (k : Int) := by omega
        by_cases hlt : k < s.size
        · have e1 : (k : Int) < (s.size : Int) := by omega
          have hd := drop_at s k hlt
          have hcv := hob.text (P := Tryz.prog) Tryz.underlying64 Tryz.underlying5 Tryz.underlying9
          have hr := Below.refl wr.heap.size wr
          by_cases c34 : (s[k].toNat : Int) = 34
          · have hV : rdV s.size T = .tuple #[.string ⟨acc.toArray⟩, .int .i64 ((k : Int) + 1), .int .i64 0] := by
              rw [hH.out, rdL_end (by rw [hd, show s[k] = 34 from u8_eq (c := s[k]) (d := 34) c34]; rfl)]
              simp [rdV]
            have HV := Lib.hid hV
            clear hd hV hob hH
            go_wp2_with fail
            go_ret3
            have hBe := HB.out
            exact ⟨by rw [HV.out]; rfl, by rw [hBe]; exact hb⟩
          · clear hcv
            have h34 : (s.data.toList.drop k).head? ≠ some 34 := by
              rw [hd]
              intro e
              exact c34 (by rw [show s[k] = 34 from by simpa using e]; rfl)
            have d34 := ne_b c34
            by_cases c92 : (s[k].toNat : Int) = 92
            · have he := fun w => qEsc s (k + 1) (by omega) (by omega) w
              have hle := (escL_le (s.data.toList.drop (k + 1))).1
              have hdl : (s.data.toList.drop (k + 1)).length = s.size - (k + 1) := by rw [List.length_drop]; rfl
              have hone : oneL (s.data.toList.drop k) = ((escL (s.data.toList.drop (k + 1))).1, 1 + (escL (s.data.toList.drop (k + 1))).2) := by
                rw [hd]; simp only [oneL, if_pos (u8_eq (c := s[k]) (d := 92) c92)]
              rw [hdl] at hle
              rcases hres : escL (s.data.toList.drop (k + 1)) with ⟨_ | b, m⟩
              · rw [hres] at he hone hle
                have hV := rd_stop hH.out h34 hone
                have HE := Lib.hid he
                have hle' : k + 1 + m ≤ s.size := by simp only at hle; omega
                obtain ⟨er, her⟩ : ∃ er : Int, (if k + 1 + m = s.size then (3 : Int) else 2) = er := ⟨_, rfl⟩
                have HV := Lib.hid (show rdV s.size T = .tuple #[.string ⟨#[]⟩, .int .i64 ((k + 1 + m : Nat) : Int), .int .i64 er] by rw [hV, ← Nat.add_assoc, ← her]; rfl)
                have HER := Lib.hid her
                clear her
                clear he hone hle hdl hres hd h34 hV hH hob
                go_wp2_with fail
                refine (HE.out _).mono ?_; rintro e w1 ⟨rfl, rfl⟩
                go_wp2_with fail
                refine (qWrongE s (k + 1 + m) er HER hle' (by omega) _).mono ?_; rintro e w1 ⟨rfl, rfl⟩
                go_wp2_with fail
                go_ret3
                have hBe := HB.out
                exact ⟨by rw [HV.out]; rfl, by rw [hBe]; exact hb⟩
              · rw [hres] at he hone hle
                have hV := rd_next hH.out h34 hone
                rw [List.drop_drop, ← Nat.add_assoc] at hV
                have HE := Lib.hid he
                have HV := Lib.hid hV
                have hle' : k + 1 + m ≤ s.size := by simp only at hle; omega
                clear he hone hle hdl hres hd h34 hV hH
                go_wp2_with fail
                refine (HE.out _).mono ?_; rintro e w1 ⟨rfl, rfl⟩
                have hm : acc.length ≤ 1000000 := by omega
                go_wp2_with (at_builtin; refine wpList_append_byte infoByte Tryz.underlying64 _ rfl _ _ rfl B _ _ rfl (hob.alloc _) wr.heap.size rfl b ?c1 ?c2 ?c3 ?c4)
                case c1 => exact cell_new1 _ _ _
                case c2 => omega
                case c3 => have := hb.size; simp; omega
                case c4 =>
                  intro ao' cap' w' g1 g2
                  have hb' : Below B w w' := OB.below (hob.alloc _) (hb.alloc (by have := hb.size; omega) _) g2 hBs
                  have hl1 : (acc ++ [b]).length = acc.length + 1 := by simp
                  clear g2 hob hb
                  go_wp2_with fail
                  go_roundw
                  case rel => exact ⟨k + 1 + m, ao', cap', acc ++ [b], rfl, by rw [hl1], by omega, hle', by omega, by rw [hl1]; exact g1, hb', HV⟩
                  case measure => simp [intOf]; omega
            · have d92 := ne_b c92
              by_cases clo : (s[k].toNat : Int) < 32 ∨ 126 < (s[k].toNat : Int)
              · have hone : oneL (s.data.toList.drop k) = (none, 0) := by
                  rw [hd]
                  have : s[k] < 32 ∨ 126 < s[k] ∨ s[k] = 34 := by
                    rcases clo with h | h
                    · exact .inl (UInt8.lt_iff_toNat_lt.2 (by simp; omega))
                    · exact .inr (.inl (UInt8.lt_iff_toNat_lt.2 (by simp; omega)))
                  simp only [oneL, if_neg (fun e : s[k] = 92 => c92 (by rw [e]; rfl)), if_pos this]
                have hV := rd_stop hH.out h34 hone
                obtain ⟨er, her⟩ : ∃ er : Int, (if k = s.size then (3 : Int) else 2) = er := ⟨_, rfl⟩
                have HV := Lib.hid (show rdV s.size T = .tuple #[.string ⟨#[]⟩, .int .i64 (k : Int), .int .i64 er] by rw [hV, ← her]; rfl)
                have HER := Lib.hid her
                clear her
                have clo' : (s[k].toNat : Int) < 32 ∨ ¬ (s[k].toNat : Int) < 32 ∧ 126 < (s[k].toNat : Int) := by omega
                clear hone hd h34 hV hH hob clo
                obtain ⟨n, hn⟩ : ∃ n : Int, (s[k].toNat : Int) = n := ⟨_, rfl⟩
                rw [hn] at d34 d92 clo' c34 c92
                rcases clo' with c1 | ⟨c1, c2⟩
                all_goals (
                  go_wp2_with fail
                  refine (qWrongE s k er HER hk (by omega) _).mono ?_; rintro e w1 ⟨rfl, rfl⟩
                  go_wp2_with fail
                  go_ret3
                  have hBe := HB.out
                  exact ⟨by rw [HV.out]; rfl, by rw [hBe]; exact hb⟩)
              · have hone : oneL (s.data.toList.drop k) = (some s[k], 1) := by
                  rw [hd]
                  have : ¬ (s[k] < 32 ∨ 126 < s[k] ∨ s[k] = 34) := by
                    rintro (h | h | h)
                    · exact clo (.inl (by have := UInt8.lt_iff_toNat_lt.1 h; simp at this; omega))
                    · exact clo (.inr (by have := UInt8.lt_iff_toNat_lt.1 h; simp at this; omega))
                    · exact c34 (by rw [h]; rfl)
                  simp only [oneL, if_neg (fun e : s[k] = 92 => c92 (by rw [e]; rfl)), if_neg this]
                have hV := rd_next hH.out h34 hone
                rw [List.drop_drop] at hV
                have HV := Lib.hid hV
                clear hone hd h34 hV hH
                have c1 : ¬ (s[k].toNat : Int) < 32 := by omega
                have c2 : ¬ 126 < (s[k].toNat : Int) := by omega
                obtain ⟨b, hbe⟩ : ∃ b, b = s[k] := ⟨_, rfl⟩
                obtain ⟨n, hn⟩ : ∃ n : Int, (s[k].toNat : Int) = n := ⟨_, rfl⟩
                have hbn : Hid (n = (b.toNat : Int)) := Lib.hid (by rw [hbe]; exact hn.symm)
                rw [← hbe] at HV
                rw [hn] at d34 d92 c34 c92 c1 c2
                clear hbe clo
                have hm : acc.length ≤ 1000000 := by omega
                go_wp2_with (at_builtin; refine wpList_append_byte infoByte Tryz.underlying64 _ rfl _ _ rfl B _ _ rfl (hob.alloc _) wr.heap.size rfl b ?d1 ?d2 ?d3 ?d4)
                case d1 => rw [← hbn.out]
                case d3 => have := hb.size; simp; omega
                case d4 =>
                  intro ao' cap' w' g1 g2
                  have hb' : Below B w w' := OB.below (hob.alloc _) (hb.alloc (by have := hb.size; omega) _) g2 hBs
                  have hl1 : (acc ++ [b]).length = acc.length + 1 := by simp
                  clear g2 hob hb
                  go_wp2_with fail
                  go_roundw
                  case rel => exact ⟨k + 1, ao', cap', acc ++ [b], by go_num, by rw [hl1], by omega, by omega, by omega, by rw [hl1]; exact g1, hb', HV⟩
                  case measure => simp [intOf]; omega
        · obtain rfl : k = s.size := by omega
          have e1 : ¬ (s.size : Int) < (s.size : Int) := by omega
          have hV : T = (none, s.size) := by
            rw [hH.out, drop_end s _ (Nat.le_refl _)]; rfl
          have HV := Lib.hid (show rdV s.size T = .tuple #[.string ⟨#[]⟩, .int .i64 (s.size : Int), .int .i64 3] by rw [hV]; simp [rdV])
          clear hV hH hob
          go_wp2_with fail
          refine (qWrongE s s.size 3 (Lib.hid (if_pos rfl)) (Nat.le_refl _) (by omega) _).mono ?_; rintro e w1 ⟨rfl, rfl⟩
          go_wp2_with fail
          go_ret3
          have hBe := HB.out
          exact ⟨by rw [HV.out]; rfl, by rw [hBe]; exact hb⟩
    · have hr : readT s.data.toList = (none, 0) := by
        rw [hd]; simp only [readT, if_neg (fun e : s[0] = 34 => hq (by rw [e]; rfl))]
      have hV : rdV s.size (none, 0) = .tuple #[.string ⟨#[]⟩, .int .i64 0, .int .i64 2] := by
        have : ¬ 0 = s.size := fun e => h0 e.symm
        simp [rdV, this]
      rw [hr, hV]
      clear hV
      have hb := ne_b hq
      clear hq hr hd
      go_enter Tryz.func115, Tryz.ntmps115
      go_wp2_with fail
      refine (qWrong s 0 (by omega) (by omega) _).mono ?_; rintro e w1 ⟨rfl, rfl⟩
      go_wp2_with fail
      go_ret3
      exact ⟨rfl, Below.refl _ _⟩

theorem qRead (s : ByteArray) (hs : s.size ≤ 100000) (w : World) :
    Calls Tryz.prog 81 #[.string s] w fun e w' => e = .returned (rdV s.size (readT s.data.toList)) ∧ Below w.heap.size w w' := by
  have hx := fun w => qread s hs w
  generalize readT s.data.toList = T at hx ⊢
  unfold rdV at hx ⊢
  rcases T with ⟨_ | l, n⟩
  all_goals (
    simp only at hx ⊢
    have HX := Lib.hid hx
    clear hx
    go_enter Tryz.func81, Tryz.ntmps81
    go_wp2_with fail
    refine (HX.out _).mono ?_; rintro e w1 ⟨rfl, hb⟩
    go_wp2_with fail
    all_goals (
      go_ret3
      exact ⟨rfl, hb⟩))

/-- What a whole text is. -/
def whV (n : Nat) (r : Option (List UInt8) × Nat) : Value := match r.1 with
  | some l => if r.2 < n then .tuple #[.string ⟨#[]⟩, .int .i64 2] else .tuple #[.string ⟨l.toArray⟩, .int .i64 0]
  | none => .tuple #[.string ⟨#[]⟩, .int .i64 (if r.2 = n then 3 else 2)]

theorem qWhole (s : ByteArray) (hs : s.size ≤ 100000) (w : World) :
    Calls Tryz.prog 103 #[.string s] w fun e w' => e = .returned (whV s.size (readT s.data.toList)) ∧ Below w.heap.size w w' := by
  have hx := fun w => qread s hs w
  have hle := readT_le s.data.toList
  have hl : s.data.toList.length = s.size := rfl
  rw [hl] at hle
  generalize readT s.data.toList = T at hx hle ⊢
  unfold rdV at hx
  unfold whV
  rcases T with ⟨_ | l, n⟩
  · simp only at hx ⊢
    obtain ⟨er, her⟩ : ∃ er : Int, (if n = s.size then (3 : Int) else 2) = er := ⟨_, rfl⟩
    have h0 : (er == 0) = false := ne_b (by rw [← her]; split <;> omega)
    rw [her] at hx ⊢
    have HX := Lib.hid hx
    clear hx her
    go_enter Tryz.func103, Tryz.ntmps103
    go_wp2_with fail
    refine (HX.out _).mono ?_; rintro e w1 ⟨rfl, hb⟩
    go_wp2_with fail
    go_ret2
    exact ⟨rfl, hb⟩
  · simp only at hx hle ⊢
    have HX := Lib.hid hx
    clear hx
    by_cases h : n < s.size
    · rw [if_pos h]
      have h1 : (n : Int) < (s.size : Int) := by omega
      go_enter Tryz.func103, Tryz.ntmps103
      go_wp2_with fail
      refine (HX.out _).mono ?_; rintro e w1 ⟨rfl, hb⟩
      go_wp2_with fail
      go_ret2
      exact ⟨rfl, hb⟩
    · rw [if_neg h]
      have h1 : ¬ (n : Int) < (s.size : Int) := by omega
      go_enter Tryz.func103, Tryz.ntmps103
      go_wp2_with fail
      refine (HX.out _).mono ?_; rintro e w1 ⟨rfl, hb⟩
      go_wp2_with fail
      go_ret2
      exact ⟨rfl, hb⟩
end Go.Proofs.YtmnkekepccdlcaaGreatDoor
