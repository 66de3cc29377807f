/-
  Contracts of package quote: a byte's sign, a text in quotes, and what is read of one.
  Conditions: a text of at most 100000 bytes.
-/
import Derived.Test.YtmnkekepccdlcaaGreatDoorQuoteT
import Derived.Test.YtmnkekepccdlcaaGreatDoorShelf
import Derived.Test.YtmnkekepccdlcaaGreatDoorWgA
import Derived.Test.YtmnkekepccdlcaaGreatDoorWgB
namespace Go.Proofs.YtmnkekepccdlcaaGreatDoor
set_option linter.unusedVariables false
set_option linter.unusedSimpArgs false
open Go.RowKit

theorem u8_lt (c : UInt8) : (0 : Int) ≤ (c.toNat : Int) ∧ (c.toNat : Int) ≤ 255 := by have := c.toNat_lt; omega
theorem cells1 (c : UInt8) : Lib.byteCells [c] = [bval c] := rfl

abbrev Bld (B b : Nat) (l : List UInt8) (w : World) : Prop := Lib.IsBuilderF 75 5 B b (Lib.byteCells l) w

theorem bByte (B b : Nat) (l : List UInt8) (c : UInt8) (w : World) (h : Bld B b l w) (hl : l.length ≤ 1000000) (hB : B ≤ w.heap.size) :
    Calls Tryz.prog 50 #[.pointer (some ⟨b, 0, none⟩), bval c] w fun e w' => e = .returned .nilIface ∧ Bld B b (l ++ [c]) w' ∧ Below B w w' := by
  refine (Tryz.Builder_WriteByte_k B b (Lib.byteCells l) _ w h (by rw [Lib.byteCells_length]; omega) hB).mono ?_
  rintro e w' ⟨rfl, h1, h2, -⟩
  refine ⟨rfl, .inr ?_, h2⟩
  rw [← cells1, ← Lib.byteCells_append] at h1
  exact h1
theorem bStr (B b : Nat) (l : List UInt8) (s : ByteArray) (w : World) (h : Bld B b l w) (hl : l.length + s.size ≤ 1000000) (hB : B ≤ w.heap.size) :
    Calls Tryz.prog 49 #[.pointer (some ⟨b, 0, none⟩), .string s] w fun e w' => e = .returned (.tuple #[.int .i64 s.size, .nilIface]) ∧ Bld B b (l ++ s.data.toList) w' ∧ Below B w w' := by
  refine (Tryz.Builder_WriteString_k B b (Lib.byteCells l) s w h (by rw [Lib.byteCells_length]; omega) hB).mono ?_
  rintro e w' ⟨rfl, h1, h2, -⟩
  refine ⟨rfl, .inr ?_, h2⟩
  rw [Lib.strCells_eq, ← Lib.byteCells_append] at h1
  exact h1
theorem bText (B b : Nat) (l : List UInt8) (w : World) (h : Bld B b l w) (hB : B ≤ w.heap.size) :
    Calls Tryz.prog 51 #[.pointer (some ⟨b, 0, none⟩)] w fun e w' => e = .returned (.string ⟨l.toArray⟩) ∧ Below B w w' := by
  refine (Tryz.Builder_String_any_k B b l w h hB).mono ?_
  rintro e w' ⟨rfl, -, h2, -⟩
  exact ⟨rfl, h2⟩

theorem bNew (w : World) : Bld w.heap.size w.heap.size [] (w.alloc (.cells #[.pointer none, .slice none 0 0] 75)) :=
  .inl ⟨Nat.le_refl _, .slice none 0 0, heap_alloc_new w _, World.ownsRowF_nil _ _ _ _, by simp [Value.ownBlock]⟩
theorem bByteN (B b : Nat) (l : List UInt8) (n : Int) (c : UInt8) (w : World) (h : Bld B b l w) (hl : l.length ≤ 1000000) (hB : B ≤ w.heap.size) (hn : n = (c.toNat : Int)) :
    Calls Tryz.prog 50 #[.pointer (some ⟨b, 0, none⟩), .int .u8 n] w fun e w' => e = .returned .nilIface ∧ Bld B b (l ++ [c]) w' ∧ Below B w w' := by
  subst hn; exact bByte B b l c w h hl hB

theorem qSign34 (B b : Nat) (l : List UInt8) (c : UInt8) (n : Int) (hn : Hid (n = (c.toNat : Int))) (w : World) (h : Bld B b l w) (hl : l.length ≤ 900000) (hB : B ≤ w.heap.size) (h2 : n = 34 ∨ n = 92) :
    Calls Tryz.prog 109 #[.pointer (some ⟨b, 0, none⟩), .int .u8 n] w fun e w' => e = .returned (.tuple #[]) ∧ Bld B b (l ++ [92] ++ [c]) w' ∧ Below B w w' := by
  go_enter Tryz.func109, Tryz.ntmps109
  rcases h2 with rfl | rfl
  all_goals (
    go_wp2_with fail
    refine (bByteN B b l _ 92 w h (by omega) hB rfl).mono ?_; rintro e w1 ⟨rfl, k1, b1⟩
    go_wp2_with fail
    refine (bByteN B b _ _ c w1 k1 (by simp; omega) (Nat.le_trans hB b1.size) hn.out).mono ?_; rintro e w2 ⟨rfl, k2, b2⟩
    go_wp2_with fail
    go_end0
    exact ⟨rfl, k2, b1.trans b2⟩)
set_option maxHeartbeats 1000000 in
theorem qSignS (B b : Nat) (l : List UInt8) (n : Int) (t : ByteArray) (w : World) (h : Bld B b l w) (hl : l.length ≤ 900000) (hB : B ≤ w.heap.size) (h2 : n = 10 ∧ t = ⟨#[92, 110]⟩ ∨ n = 13 ∧ t = ⟨#[92, 114]⟩ ∨ n = 9 ∧ t = ⟨#[92, 116]⟩) :
    Calls Tryz.prog 109 #[.pointer (some ⟨b, 0, none⟩), .int .u8 n] w fun e w' => e = .returned (.tuple #[]) ∧ Bld B b (l ++ t.data.toList) w' ∧ Below B w w' := by
  go_enter Tryz.func109, Tryz.ntmps109
  rcases h2 with ⟨rfl, rfl⟩ | ⟨rfl, rfl⟩ | ⟨rfl, rfl⟩
  all_goals (
    go_wp2_with fail
    refine (bStr B b l _ w h (by show l.length + 2 ≤ _; omega) hB).mono ?_; rintro e w1 ⟨rfl, k1, b1⟩
    go_wp2_with fail
    go_end0
    exact ⟨rfl, k1, b1⟩)
theorem qSign1 (B b : Nat) (l : List UInt8) (c : UInt8) (n : Int) (hn : Hid (n = (c.toNat : Int))) (w : World) (h : Bld B b l w) (hl : l.length ≤ 900000) (hB : B ≤ w.heap.size) (d1 : ¬ n = 34) (d2 : ¬ n = 92) (h6 : ¬ n < 32) (h7 : ¬ 126 < n) :
    Calls Tryz.prog 109 #[.pointer (some ⟨b, 0, none⟩), .int .u8 n] w fun e w' => e = .returned (.tuple #[]) ∧ Bld B b (l ++ [c]) w' ∧ Below B w w' := by
  have d3 : (n == 10) = false := ne_b (by omega)
  have d4 : (n == 13) = false := ne_b (by omega)
  have d5 : (n == 9) = false := ne_b (by omega)
  have e1 := ne_b d1
  have e2 := ne_b d2
  go_enter Tryz.func109, Tryz.ntmps109
  go_wp2_with fail
  refine (bByteN B b _ _ c w h (by omega) hB hn.out).mono ?_; rintro e w2 ⟨rfl, k2, b2⟩
  go_wp2_with fail
  go_end0
  exact ⟨rfl, k2, b2⟩
abbrev digits16 : ByteArray := ⟨#[48, 49, 50, 51, 52, 53, 54, 55, 56, 57, 97, 98, 99, 100, 101, 102]⟩
theorem digits_at : ∀ (k : Nat) (h : k < digits16.size), digits16[k] = hexD k := by
  have : ∀ k : Fin 16, digits16[k] = hexD k := by decide
  intro k h
  exact this ⟨k, h⟩

set_option maxHeartbeats 1000000 in
theorem qSignX (B b : Nat) (l : List UInt8) (n : Int) (w : World) (h : Bld B b l w) (hl : l.length ≤ 900000) (hB : B ≤ w.heap.size) (hb : 0 ≤ n ∧ n ≤ 255) (d3 : ¬ n = 10) (d4 : ¬ n = 13) (d5 : ¬ n = 9) (h6 : n < 32 ∨ 126 < n) :
    Calls Tryz.prog 109 #[.pointer (some ⟨b, 0, none⟩), .int .u8 n] w fun e w' => e = .returned (.tuple #[]) ∧ Bld B b (l ++ [92, 120] ++ [hexD (n / 16).toNat] ++ [hexD (n % 16).toNat]) w' ∧ Below B w w' := by
  have e1 : (n == 34) = false := ne_b (by omega)
  have e2 : (n == 92) = false := ne_b (by omega)
  have e3 := ne_b d3
  have e4 := ne_b d4
  have e5 := ne_b d5
  have h6' : n < 32 ∨ ¬ n < 32 ∧ 126 < n := by omega
  clear h6
  go_enter Tryz.func109, Tryz.ntmps109
  rcases h6' with h6 | ⟨h6, h7⟩
  all_goals (
    go_wp2_with fail
    refine (bStr B b l ⟨#[92, 120]⟩ w h (by show l.length + 2 ≤ _; omega) hB).mono ?_; rintro e w1 ⟨rfl, k1, b1⟩
    go_wp2_with fail
    refine (bByteN B b _ _ (hexD (n / 16).toNat) w1 k1 (by simp; omega) (Nat.le_trans hB b1.size) (by rw [← digits_at])).mono ?_; rintro e w2 ⟨rfl, k2, b2⟩
    go_wp2_with fail
    refine (bByteN B b _ _ (hexD (n % 16).toNat) w2 k2 (by simp; omega) (Nat.le_trans hB (b1.trans b2).size) (by rw [← digits_at])).mono ?_; rintro e w3 ⟨rfl, k3, b3⟩
    go_wp2_with fail
    go_end0
    exact ⟨rfl, k3, (b1.trans b2).trans b3⟩)

theorem qSign (B b : Nat) (l : List UInt8) (c : UInt8) (w : World) (h : Bld B b l w) (hl : l.length ≤ 900000) (hB : B ≤ w.heap.size) :
    Calls Tryz.prog 109 #[.pointer (some ⟨b, 0, none⟩), bval c] w fun e w' => e = .returned (.tuple #[]) ∧ Bld B b (l ++ sgn c) w' ∧ Below B w w' := by
  have hc := u8_lt c
  unfold sgn
  by_cases h1 : c = 34 ∨ c = 92
  · rw [if_pos h1, show [92, c] = [92] ++ [c] from rfl, ← List.append_assoc]
    exact qSign34 B b l c _ (Lib.hid rfl) w h hl hB (by rcases h1 with rfl | rfl <;> decide)
  · rw [if_neg h1]
    have d1 : ¬ (c.toNat : Int) = 34 := fun e => h1 (.inl (u8_eq e))
    have d2 : ¬ (c.toNat : Int) = 92 := fun e => h1 (.inr (u8_eq e))
    by_cases h2 : c = 10
    · subst h2
      exact qSignS B b l 10 ⟨#[92, 110]⟩ w h hl hB (.inl ⟨rfl, rfl⟩)
    · rw [if_neg h2]
      by_cases h3 : c = 13
      · subst h3
        exact qSignS B b l 13 ⟨#[92, 114]⟩ w h hl hB (.inr (.inl ⟨rfl, rfl⟩))
      · rw [if_neg h3]
        by_cases h4 : c = 9
        · subst h4
          exact qSignS B b l 9 ⟨#[92, 116]⟩ w h hl hB (.inr (.inr ⟨rfl, rfl⟩))
        · rw [if_neg h4]
          by_cases h5 : c < 32 ∨ 126 < c
          · rw [if_pos h5]
            have h6 : (c.toNat : Int) < 32 ∨ 126 < (c.toNat : Int) := by
              rcases h5 with h5 | h5
              · left; have := UInt8.lt_iff_toNat_lt.1 h5; simp at this; omega
              · right; have := UInt8.lt_iff_toNat_lt.1 h5; simp at this; omega
            have := qSignX B b l _ w h hl hB hc (fun e => h2 (u8_eq e)) (fun e => h3 (u8_eq e)) (fun e => h4 (u8_eq e)) h6
            have e1 : ((c.toNat : Int) / 16).toNat = c.toNat / 16 := by omega
            have e2 : ((c.toNat : Int) % 16).toNat = c.toNat % 16 := by omega
            rw [e1, e2, List.append_assoc, List.append_assoc] at this
            exact this
          · rw [if_neg h5]
            exact qSign1 B b l c _ (Lib.hid rfl) w h hl hB d1 d2 (fun hh => h5 (.inl (UInt8.lt_iff_toNat_lt.2 (by simp; omega)))) (fun hh => h5 (.inr (UInt8.lt_iff_toNat_lt.2 (by simp; omega))))

theorem flat_snoc (s : ByteArray) (k : Nat) (h : k < s.size) : (s.data.toList.take (k + 1)).flatMap sgn = (s.data.toList.take k).flatMap sgn ++ sgn s[k] := by
  rw [List.take_succ_eq_append_getElem (by simpa using h), List.flatMap_append]
  simp
  rfl
theorem flat_len : ∀ (l : List UInt8), (l.flatMap sgn).length ≤ 4 * l.length
  | [] => by simp
  | c :: l => by
    have := flat_len l
    have h : (sgn c).length ≤ 4 := by unfold sgn; repeat' split
                                      all_goals simp
    simp only [List.flatMap_cons, List.length_append, List.length_cons]
    omega

set_option maxHeartbeats 1000000 in
theorem qQuote (s : ByteArray) (w : World) (hs : s.size ≤ 100000) : Calls Tryz.prog 77 #[.string s] w fun e w' => e = .returned (.string ⟨(quoteT s.data.toList).toArray⟩) ∧ Below w.heap.size w w' := by
  have i0 := bNew w
  have hb0 : Below w.heap.size w (w.alloc (.cells #[.pointer none, .slice none 0 0] 75)) := (Below.refl _ _).alloc (Nat.le_refl _) _
  have HW0 := Lib.hid (rfl : w.alloc (.cells #[.pointer none, .slice none 0 0] 75) = w.alloc (.cells #[.pointer none, .slice none 0 0] 75))
  generalize hw0 : w.alloc (.cells #[.pointer none, .slice none 0 0] 75) = w0 at i0 hb0 HW0
  have HW := Lib.hid hw0
  clear hw0 HW0
  go_enter Tryz.func77, Tryz.ntmps77
  go_wp2_with fail
  rw [HW.out]
  refine (bByteN _ _ _ _ 34 _ i0 (by decide) hb0.size rfl).mono ?_; rintro e w1 ⟨rfl, k1, b1⟩
  have b2 := hb0.trans b1
  clear i0 hb0 b1
  go_wp2_with fail
  generalize hB : w.heap.size = B at *
  have hBs : B ≤ w.heap.size := Nat.le_of_eq hB.symm
  have HB := Lib.hid hB
  clear hB
  go_loopw [8] (fun i wr => ∃ k : Nat, i = .int .i64 k ∧ k ≤ s.size ∧ Bld B B (34 :: (s.data.toList.take k).flatMap sgn) wr ∧ Below B w wr) (fun i _ => s.size - (intOf i).toNat)
  case atStart => exact ⟨0, rfl, Nat.zero_le _, k1, b2⟩
  case round =>
    obtain ⟨k, rfl, hk, hq, hb⟩ := hrel
    clear k1 b2
    have hlen : (34 :: (s.data.toList.take k).flatMap sgn).length ≤ 400001 := by
      have h1 := flat_len (s.data.toList.take k)
      have h2 : (s.data.toList.take k).length ≤ k := List.length_take_le _ _
      simp only [List.length_cons]; omega
    by_cases hlt : k < s.size
    · have hsn := flat_snoc s k hlt
      have e0 : (0 : Int) ≤ (k : Int) := by omega
      have e1 : (k : Int) < (s.size : Int) := by omega
      have HS := Lib.hid hsn
      clear hsn
      go_wp2_with fail
      refine (qSign B B _ s[k] wr hq (by omega) (Nat.le_trans hBs hb.size)).mono ?_; rintro e w3 ⟨rfl, k3, b3⟩
      have b4 := hb.trans b3
      clear hq hb b3
      go_wp2_with fail
      go_roundw
      case rel => exact ⟨k + 1, by go_num, by omega, by rw [HS.out]; exact k3, b4⟩
      case measure => simp [intOf]; omega
    · obtain rfl : k = s.size := by omega
      have e1 : ¬ ((s.size : Int) < (s.size : Int)) := by omega
      have hT : s.data.toList.take s.size = s.data.toList := List.take_length
      rw [hT] at hq hlen
      clear hT
      go_wp2_with fail
      refine (bByteN _ _ _ _ 34 _ hq (by omega) (Nat.le_trans hBs hb.size) rfl).mono ?_; rintro e w3 ⟨rfl, k3, b3⟩
      have b4 := hb.trans b3
      clear hq hb b3
      go_wp2_with fail
      refine (bText _ _ _ _ k3 (Nat.le_trans hBs b4.size)).mono ?_; rintro e w4 ⟨rfl, b5⟩
      have b6 := b4.trans b5
      go_wp2_with fail
      go_ret
      have hBe := HB.out
      exact ⟨rfl, by rw [hBe]; exact b6⟩
end Go.Proofs.YtmnkekepccdlcaaGreatDoor
