/-
  Contracts of the ticks' Times, as the program and its reference have it: a tick so often.
  Conditions: the arguments are numbers of their Go kinds.
-/
import Derived.Test.YtmnkekepccdlcaaGreatDoorWgA
import Derived.Test.YtmnkekepccdlcaaGreatDoorShelf
import Derived.Lib.ItoaLen
import Derived.Lib.SmallJoins
import Derived.Test.YtmnkekepccdlcaaGreatDoorWgB
namespace Go.Proofs.YtmnkekepccdlcaaGreatDoor
set_option linter.unusedVariables false
set_option linter.unusedSimpArgs false
open Go.RowKit

def timesT (t n : Int) : Int := if n < 1 then 0 else if ownT t * n ≥ nev then nev else ownT t * n
/-- A number that is nowhere above the greatest. -/
def sat (x : Int) : Int := if x ≥ nev then nev else x
theorem sat_own {x : Int} (h : 0 ≤ x) : ownT (sat x) = sat x := by unfold ownT sat nev; omega
theorem addT_sat {x y : Int} (hx : 0 ≤ x) (hy : 0 ≤ y) : addT (sat x) (sat y) = sat (x + y) := by
  unfold addT; rw [sat_own hx, sat_own hy]; unfold sat nev; omega
theorem sat_i64 {x : Int} (h : 0 ≤ x) : i64 (sat x) := by unfold i64 sat nev; omega
theorem own_sat {t : Int} (h : i64 t) : ownT t = sat (ownT t) := by unfold ownT sat nev; unfold i64 at h; omega
theorem timesT_sat {t n : Int} (hn : 0 ≤ n) : timesT t n = sat (ownT t * n) := by
  unfold timesT sat
  by_cases h : n < 1
  · have e : n = 0 := by omega
    subst e
    rw [if_pos h, Int.mul_zero]; unfold nev; omega
  · rw [if_neg h]
theorem addT_i64 {a b : Int} (ha : i64 a) (hb : i64 b) : i64 (addT a b) := by
  have h1 := ownT_le ha
  have h2 := ownT_le hb
  unfold addT i64 nev; omega
theorem timesT_i64 {t n : Int} : i64 (timesT t n) := by
  have h : 0 ≤ ownT t := by unfold ownT; omega
  unfold timesT i64
  by_cases h1 : n < 1
  · rw [if_pos h1]; omega
  · rw [if_neg h1]
    have : 0 ≤ ownT t * n := Int.mul_nonneg h (by omega)
    unfold nev; omega


end Go.Proofs.YtmnkekepccdlcaaGreatDoor

namespace Go.Proofs.YtmnkekepccdlcaaGreatDoor
set_option linter.unusedVariables false
set_option linter.unusedSimpArgs false
open Go.RowKit Go.Sort

theorem below_growD (w : World) (k : Nat) (os : Array Obj) : Below w.heap.size w (grow (w.drewN k) os) := by
  have h : Below w.heap.size w (w.drewN k) := below_drewN (Below.refl _ _) k
  refine h.trans ⟨rfl, rfl, rfl, ?_, fun i hi => ?_⟩
  · show (w.drewN k).heap.size ≤ ((w.drewN k).heap ++ os).size
    rw [Array.size_append]; omega
  · show ((w.drewN k).heap ++ os)[i]? = _
    have := h.size
    rw [Array.getElem?_append_left (by omega)]

/-- What a world must hold that a number is printed in it, and one read. -/
abbrev Pow (w : World) : Prop := Lib.TabIs Tryz.prog w "internal/strconv.uint64pow10" .u64 Lib.pow10Tab
theorem tText (t : Int) (w : World) (ht : i64 t) (hp : Pow w) : Calls Tryz.prog 76 #[.int .i64 t] w fun e w' => e = .returned (.string (bt (textT t))) ∧ Below w.heap.size w w' := by
  by_cases g : t = 9223372036854775807
  · subst g
    go_enter Tryz.func76, Tryz.ntmps76
    go_wp2_with fail
    go_ret
    exact ⟨rfl, Below.refl _ _⟩
  · have e1 := ne_b g
    have e2 : textT t = Lib.itoa (ownT t) := by
      unfold textT nev Lib.itoa
      have := ownT_le ht
      rw [if_neg g, if_neg (by omega)]
    rw [e2]
    have f2 := fun w hp => Tryz.strconv_FormatInt_10 (ownT t) (by have := ownT_le ht; omega) (ownT_le ht).2 w hp
    have F2 := Lib.hid f2
    have HP := Lib.hid hp
    clear e2 f2 g ht hp
    go_enter Tryz.func76, Tryz.ntmps76
    go_wp2_with fail
    refine (town _ _).mono ?_; rintro e w1 ⟨rfl, rfl⟩
    go_wp2_with fail
    refine (F2.out _ HP.out).mono ?_; rintro e w1 ⟨rfl, k, os, rfl⟩
    go_wp2_with fail
    go_ret
    exact ⟨rfl, below_growD _ _ _⟩
theorem dec_step (n : Nat) (l : List UInt8) (h : 9 < n) : Lib.decDigits n ++ l = Lib.decDigits (n / 10) ++ (UInt8.ofNat (48 + n % 10) :: l) := by
  rw [dec_big (by omega), List.append_assoc]; rfl
theorem dig10 {m : Nat} (h : m < 10) (l : List UInt8) : (⟨#[48, 49, 50, 51, 52, 53, 54, 55, 56, 57]⟩ : ByteArray).extract m (m + 1) ++ bt l = bt (UInt8.ofNat (48 + m) :: l) := by
  have e : ∀ i : Fin 10, (⟨#[48, 49, 50, 51, 52, 53, 54, 55, 56, 57]⟩ : ByteArray).extract i.val (i.val + 1) = bt [UInt8.ofNat (48 + i.val)] := by decide
  rw [e ⟨m, h⟩]
  apply ByteArray.ext
  rw [ByteArray.data_append]
  simp
set_option maxHeartbeats 1000000 in
theorem rDigits (n0 : Nat) (w : World) (hn : n0 < 9223372036854775808) : Calls Tryz.prog 68 #[.int .i64 n0] w fun e w' => e = .returned (.string (bt (Lib.decDigits n0))) ∧ w = w' := by
  go_enter Tryz.func68, Tryz.ntmps68
  go_wp2_with fail
  go_loopw [0, 3] (fun nv sv wr => ∃ (n : Nat) (l : List UInt8), nv = .int .i64 n ∧ sv = .string (bt l) ∧ n < 9223372036854775808 ∧ Hid (Lib.decDigits n ++ l = Lib.decDigits n0) ∧ w = wr) (fun nv _ _ => (intOf nv).toNat)
  case atStart => exact ⟨n0, [], rfl, rfl, hn, Lib.hid (List.append_nil _), rfl⟩
  case round =>
    obtain ⟨n, l, rfl, rfl, hlt, hH, rfl⟩ := hrel
    have hl : l.length ≤ 21 := by
      have h1 := congrArg List.length hH.out
      have h2 := Lib.itoa_length_le n0 (by omega) (by omega)
      rw [Lib.itoa_nonneg] at h2
      rw [List.length_append] at h1
      omega
    by_cases h9 : 9 < n
    · go_wp2_with fail
      refine ⟨⟨n / 10, UInt8.ofNat (48 + n % 10) :: l, rfl, by rw [dig10 (by omega)], by omega, Lib.hid (by rw [← hH.out, dec_step n l h9]), trivial⟩, ?_⟩
      simp only [intOf]; omega
    · have e : (⟨#[48, 49, 50, 51, 52, 53, 54, 55, 56, 57]⟩ : ByteArray).extract n (n + 1) ++ bt l = bt (Lib.decDigits n0) := by
        rw [dig10 (by omega), ← hH.out, dec_small (by omega)]; rfl
      have E := Lib.hid e
      clear e
      go_wp2_with fail
      simp only [E.out]
      go_ret
      exact ⟨rfl, rfl⟩
theorem rText (t : Int) (w : World) (ht : i64 t) : Calls Tryz.prog 42 #[.int .i64 t] w fun e w' => e = .returned (.string (bt (textT t))) ∧ w = w' := by
  by_cases g : t = 9223372036854775807
  · subst g
    go_enter Tryz.func42, Tryz.ntmps42
    go_wp2_with fail
    go_ret
    exact ⟨rfl, rfl⟩
  · have e1 := ne_b g
    have e2 : textT t = Lib.decDigits (ownT t).toNat := by
      unfold textT nev
      rw [if_neg g]
    rw [e2]
    have h1 := ownT_le ht
    have f1 := fun w => rOwn t w
    generalize ownT t = x at *
    obtain ⟨x, rfl⟩ := Int.eq_ofNat_of_zero_le h1.1
    have F1 := Lib.hid f1
    clear e2 f1 g ht
    go_enter Tryz.func42, Tryz.ntmps42
    go_wp2_with fail
    refine (F1.out _).mono ?_; rintro e w1 ⟨rfl, rfl⟩
    go_wp2_with fail
    refine (rDigits x _ (by omega)).mono ?_; rintro e w1 ⟨rfl, rfl⟩
    go_wp2_with fail
    go_ret
    exact ⟨rfl, rfl⟩
theorem all_upto {s : ByteArray} {k : Nat} (hk : k < s.size) (ha : (s.data.toList.take k).all digB = true) (hd : digB s[k] = true) : (s.data.toList.take (k + 1)).all digB = true := by
  rw [List.take_succ_eq_append_getElem (by simpa using hk), List.all_append, ha]
  simp only [List.all_cons, List.all_nil, Bool.and_true, Bool.true_and]
  exact hd
theorem not_plain {s : ByteArray} {k : Nat} (hk : k < s.size) (hd : digB s[k] = false) : plainD s.data.toList = false := by
  unfold plainD
  have : s.data.toList.all digB = false := by
    rw [List.all_eq_false]
    exact ⟨s[k], Array.getElem_mem_toList _, by simp [hd]⟩
  rw [this]; rfl
set_option maxHeartbeats 1000000 in
theorem tPlain (s : ByteArray) (hs : s.size ≤ 100000) (w : World) : Calls Tryz.prog 126 #[.string s] w fun e w' => e = .returned (.bool (plainD s.data.toList)) ∧ w = w' := by
  go_enter Tryz.func126, Tryz.ntmps126
  go_wp2_with fail
  go_loopw [6] (fun iv wr => ∃ k : Nat, iv = .int .i64 k ∧ k ≤ s.size ∧ Hid ((s.data.toList.take k).all digB = true) ∧ w = wr) (fun iv _ => s.size - (intOf iv).toNat)
  case atStart => exact ⟨0, rfl, Nat.zero_le _, Lib.hid rfl, rfl⟩
  case round =>
    obtain ⟨k, rfl, hk, hH, rfl⟩ := hrel
    by_cases hlt : k < s.size
    · by_cases hd : digB s[k] = true
      · have h1 := digB_iff.1 hd
        have HD := Lib.hid hd
        have g1 : ¬ s[k].toNat < 48 := by omega
        have g2 : ¬ 57 < s[k].toNat := by omega
        clear hd
        go_wp2_with fail
        go_roundw
        case rel => exact ⟨k + 1, by go_num, by omega, Lib.hid (all_upto hlt hH.out HD.out), trivial⟩
        case measure => simp [intOf]; omega
      · have h1 : ¬ (48 ≤ s[k].toNat ∧ s[k].toNat ≤ 57) := fun h => hd (digB_iff.2 h)
        have HV := Lib.hid (not_plain hlt (by simpa using hd))
        clear hd
        go_wp2_with fail
        all_goals go_ret
        all_goals exact ⟨by rw [HV.out]; rfl, rfl⟩
    · obtain rfl : k = s.size := by omega
      have ha : s.data.toList.all digB = true := by
        have := hH.out
        rwa [List.take_of_length_le (by exact Nat.le_refl _)] at this
      have hP : plainD s.data.toList = (s.data.toList == [48] || (!s.data.toList.isEmpty && !(s.data.toList.head? == some 48))) := by unfold plainD; rw [ha, Bool.true_and]
      clear ha hH
      by_cases c1 : s.toList = [48]
      · have HP := Lib.hid (show plainD s.data.toList = true by rw [hP, ← ByteArray.toList_eq, c1]; rfl)
        clear hP
        go_wp2_with fail
        go_ret
        exact ⟨by rw [HP.out]; rfl, rfl⟩
      · by_cases c2 : s.toList = []
        · have HP := Lib.hid (show plainD s.data.toList = false by rw [hP, ← ByteArray.toList_eq, c2]; rfl)
          clear hP
          go_wp2_with fail
          go_ret
          exact ⟨by rw [HP.out]; rfl, rfl⟩
        · have hz : 0 < s.size := by
            rcases Nat.eq_zero_or_pos s.size with h | h
            · exact absurd (by rw [ByteArray.toList_eq]; exact List.eq_nil_of_length_eq_zero h) c2
            · exact h
          have hd := drop_at s 0 hz
          rw [List.drop_zero] at hd
          have hq : plainD s.data.toList = !(s[0] == 48) := by
            rw [hP, ← ByteArray.toList_eq] at *
            rw [beq_eq_false_iff_ne.2 c1, hd]
            rfl
          have HQ := Lib.hid hq
          clear hP hd hq
          by_cases c3 : s[0] = 48
          · have c4 : (s[0].toNat : Int) = 48 := by rw [c3]; rfl
            go_wp2_with fail
            go_ret
            exact ⟨by rw [HQ.out, c3, beq_eq_false_iff_ne.2 c1]; rfl, rfl⟩
          · have c4 : ¬ (s[0].toNat : Int) = 48 := fun e => c3 (u8_eq (d := 48) e)
            go_wp2_with fail
            go_ret
            exact ⟨by rw [HQ.out, beq_eq_false_iff_ne.2 c3]; exact ret_bool (a := s.toList == [48] || !s.toList.isEmpty && (s[0].toNat : Int) != 48) (by simp [c2, c4]), rfl⟩
abbrev RangeV (w : World) : Prop := ∃ t p, w.cell? ⟨5, 0, none⟩ = some (.iface t p)
theorem below_one {w w' : World} {e : TypeId} (h : w' = w ∨ ∃ t, w' = Lib.bytesWorld w e t) : Below w.heap.size w w' := by
  rcases h with rfl | ⟨t, rfl⟩
  · exact Below.refl _ _
  · exact Joins.below_bytesWorld _ _ _ _ (Nat.le_refl _)
set_option maxHeartbeats 1000000 in
theorem tParse (s : ByteArray) (hs : s.size ≤ 100000) (w : World) (hr : RangeV w) :
    Calls Tryz.prog 102 #[.string s] w fun e w' => e = .returned (.tuple #[.int .i64 (parseT s.data.toList).1, .int .i64 (parseT s.data.toList).2]) ∧ Below w.heap.size w w' := by
  by_cases c1 : s.toList = [110, 101, 118, 101, 114]
  · have e : parseT s.data.toList = (9223372036854775807, 0) := by rw [← ByteArray.toList_eq, c1]; rfl
    have E := Lib.hid e
    clear e hr
    go_enter Tryz.func102, Tryz.ntmps102
    go_wp2_with fail
    go_ret2
    exact ⟨by rw [E.out]; rfl, Below.refl _ _⟩
  · have c1' : ¬ s.data.toList = neverL := by rw [← ByteArray.toList_eq]; exact c1
    have c1b : (s.toList == [110, 101, 118, 101, 114]) = false := beq_eq_false_iff_ne.2 c1
    clear c1
    have f1 := fun w => tPlain s hs w
    by_cases c2 : plainD s.data.toList = true
    · rw [c2] at f1
      have F1 := Lib.hid f1
      have e : parseT s.data.toList = if (numF 0 s.data.toList : Int) ≥ nev then ((0 : Int), (12 : Int)) else ((numF 0 s.data.toList : Int), (0 : Int)) := by unfold parseT; rw [if_neg c1', if_pos c2]
      have hi := int_digits c2
      obtain ⟨m, hm⟩ : ∃ m, m = numF 0 s.data.toList := ⟨_, rfl⟩
      rw [← hm] at hi e
      by_cases c3 : m < 9223372036854775808
      · rw [if_pos c3] at hi
        have F2 := Lib.hid (fun w => Tryz.strconv_ParseInt_10_at64_ok s (by omega) m hi w)
        clear f1 hi hm hr c1' c2
        by_cases c4 : m = 9223372036854775807
        · subst c4
          rw [if_pos (by unfold nev; omega)] at e
          have E := Lib.hid e
          clear e
          go_enter Tryz.func102, Tryz.ntmps102
          go_wp2_with fail
          refine (F1.out _).mono ?_; rintro e w1 ⟨rfl, rfl⟩
          go_wp2_with fail
          refine (F2.out _).mono ?_; rintro e w1 ⟨rfl, hb⟩
          have hb := below_one hb
          go_wp2_with fail
          go_ret2
          exact ⟨by rw [E.out]; rfl, hb⟩
        · rw [if_neg (by unfold nev; omega)] at e
          have E := Lib.hid e
          have c5 : ¬ (m : Int) = 9223372036854775807 := by omega
          clear e
          go_enter Tryz.func102, Tryz.ntmps102
          go_wp2_with fail
          refine (F1.out _).mono ?_; rintro e w1 ⟨rfl, rfl⟩
          go_wp2_with fail
          refine (F2.out _).mono ?_; rintro e w1 ⟨rfl, hb⟩
          have hb := below_one hb
          go_wp2_with fail
          go_ret2
          exact ⟨by rw [E.out]; rfl, hb⟩
      · rw [if_neg c3] at hi
        rw [if_pos (by unfold nev; omega)] at e
        have E := Lib.hid e
        obtain ⟨tt, pp, hc⟩ := hr
        have F2 := Lib.hid (fun w hc => Tryz.strconv_ParseInt_10_at64_range s (by omega) hi (.iface tt pp) w hc (.inr ⟨_, _, rfl⟩))
        have HC := Lib.hid hc
        clear f1 hi hm hc e c1' c2
        go_enter Tryz.func102, Tryz.ntmps102
        go_wp2_with fail
        refine (F1.out _).mono ?_; rintro e w1 ⟨rfl, rfl⟩
        go_wp2_with fail
        refine (F2.out _ HC.out).mono ?_; rintro e w1 ⟨N, rfl, -, -, hb⟩
        go_wp2_with fail
        go_ret2
        exact ⟨by rw [E.out]; rfl, hb⟩
    · have e : parseT s.data.toList = (0, 2) := by unfold parseT; rw [if_neg c1', if_neg c2]
      have E := Lib.hid e
      rw [Bool.not_eq_true] at c2
      rw [c2] at f1
      have F1 := Lib.hid f1
      clear e hr f1 c1' c2
      go_enter Tryz.func102, Tryz.ntmps102
      go_wp2_with fail
      refine (F1.out _).mono ?_; rintro e w1 ⟨rfl, rfl⟩
      go_wp2_with fail
      go_ret2
      exact ⟨by rw [E.out]; rfl, Below.refl _ _⟩
end Go.Proofs.YtmnkekepccdlcaaGreatDoor

namespace Go.Proofs.YtmnkekepccdlcaaGreatDoor
set_option linter.unusedVariables false
set_option linter.unusedSimpArgs false
open Go.RowKit Go.Sort

theorem num_take {s : ByteArray} {k : Nat} (hk : k < s.size) : numF 0 (s.data.toList.take (k + 1)) = numF 0 (s.data.toList.take k) * 10 + (s[k].toNat - 48) := by
  rw [List.take_succ_eq_append_getElem (by simpa using hk), numF_snoc]; rfl
theorem take_all {s : ByteArray} : s.data.toList.take s.size = s.data.toList := List.take_of_length_le (Nat.le_refl _)
theorem parse_form {l : List UInt8} (h1 : ¬ l = neverL) (h2 : plainD l = false) : parseT l = (0, 2) := by
  unfold parseT; rw [if_neg h1, if_neg (by rw [h2]; exact Bool.false_ne_true)]
theorem parse_num {l : List UInt8} (h1 : ¬ l = neverL) (h2 : plainD l = true) (h3 : numF 0 l < 9223372036854775807) : parseT l = ((numF 0 l : Int), 0) := by
  unfold parseT; rw [if_neg h1, if_pos h2, if_neg (by unfold nev; omega)]
theorem parse_big {l : List UInt8} (h1 : ¬ l = neverL) (h2 : plainD l = true) (h3 : ¬ numF 0 l < 9223372036854775807) : parseT l = (0, 12) := by
  unfold parseT; rw [if_neg h1, if_pos h2, if_pos (by unfold nev; omega)]
abbrev ParseOut (s : ByteArray) (w : World) : Ending → World → Prop := fun e w' => e = .returned (.tuple #[.int .i64 (parseT s.data.toList).1, .int .i64 (parseT s.data.toList).2]) ∧ w = w'

set_option maxHeartbeats 2000000 in
theorem rParse (s : ByteArray) (hs : s.size ≤ 100000) (w : World) : Calls Tryz.prog 138 #[.string s] w (ParseOut s w) := by
  by_cases c1 : s.toList = [110, 101, 118, 101, 114]
  · have e : parseT s.data.toList = (9223372036854775807, 0) := by rw [← ByteArray.toList_eq, c1]; rfl
    have E := Lib.hid e
    clear e
    go_enter Tryz.func138, Tryz.ntmps138
    go_wp2_with fail
    go_ret2
    exact ⟨by rw [E.out]; rfl, rfl⟩
  have c1b : (s.toList == [110, 101, 118, 101, 114]) = false := beq_eq_false_iff_ne.2 c1
  have hn : ¬ s.data.toList = neverL := by rw [← ByteArray.toList_eq]; exact c1
  have HN := Lib.hid hn
  clear c1 hn
  by_cases c2 : s.toList = []
  · have E := Lib.hid (parse_form HN.out (by rw [← ByteArray.toList_eq, c2]; rfl))
    go_enter Tryz.func138, Tryz.ntmps138
    go_wp2_with fail
    go_ret2
    exact ⟨by rw [E.out]; rfl, rfl⟩
  have hz : 0 < s.size := by
    rcases Nat.eq_zero_or_pos s.size with h | h
    · exact absurd (by rw [ByteArray.toList_eq]; exact List.eq_nil_of_length_eq_zero h) c2
    · exact h
  have hd := drop_at s 0 hz
  rw [List.drop_zero] at hd
  have c2b : s.toList.isEmpty = false := by cases h : s.toList with
    | nil => exact absurd h c2
    | cons _ _ => rfl
  clear c2
  by_cases c3 : 1 < s.size ∧ s[0] = 48
  · obtain ⟨c3, c4⟩ := c3
    have hp : plainD s.data.toList = false := by
      have hl : s.data.toList.length = s.size := rfl
      unfold plainD
      rw [beq_eq_false_iff_ne.2 (show s.data.toList ≠ [48] by intro e; rw [e] at hl; simp at hl; omega), hd, c4]
      simp
    have E := Lib.hid (parse_form HN.out hp)
    have c5 : (s[0].toNat : Int) = 48 := by rw [c4]; rfl
    clear hp hd c4
    go_enter Tryz.func138, Tryz.ntmps138
    go_wp2_with fail
    go_ret2
    exact ⟨by rw [E.out]; rfl, rfl⟩
  have hP : s.data.toList.all digB = true → plainD s.data.toList = true := by
    intro ha
    unfold plainD
    rw [ha, hd]
    by_cases c4 : s[0] = 48
    · have : s.size = 1 := by
        have : ¬ 1 < s.size := fun h => c3 ⟨h, c4⟩
        omega
      rw [c4, drop_end s 1 (by omega)]; rfl
    · simp [c4]
  have HP := Lib.hid hP
  have c3' : ¬ (1 < s.size ∧ (s[0].toNat : Int) = 48) := fun h => c3 ⟨h.1, u8_eq (d := 48) h.2⟩
  clear hP hd c3
  go_enter Tryz.func138, Tryz.ntmps138
  by_cases c6 : 1 < s.size
  all_goals try have c7 : ¬ (s[0].toNat : Int) = 48 := fun h => c3' ⟨c6, h⟩
  all_goals clear c3'
  all_goals (
    go_wp2_with fail
    go_loopw [4, 5, 6] (fun nv bv iv wr => ∃ (n k : Nat) (b : Bool), nv = .int .i64 n ∧ bv = .bool b ∧ iv = .int .i64 k ∧ k ≤ s.size ∧ n ≤ 9223372036854775806 ∧ Hid ((s.data.toList.take k).all digB = true) ∧ Hid (b = decide (9223372036854775807 ≤ numF 0 (s.data.toList.take k))) ∧ Hid (numF 0 (s.data.toList.take k) < 9223372036854775807 → n = numF 0 (s.data.toList.take k)) ∧ w = wr) (fun _ _ iv _ => s.size - (intOf iv).toNat)
    case atStart => exact ⟨0, 0, false, rfl, rfl, rfl, Nat.zero_le _, by omega, Lib.hid rfl, Lib.hid rfl, Lib.hid (fun _ => rfl), rfl⟩
    case round =>
      obtain ⟨n, k, b, rfl, rfl, rfl, hk, hn, hH, hB, hN, rfl⟩ := hrel
      by_cases hlt : k < s.size
      · have e1 : (k : Int) < (s.size : Int) := by omega
        by_cases hd : digB s[k] = true
        · have h1 := digB_iff.1 hd
          have HD := Lib.hid (all_upto hlt hH.out hd)
          have NT := Lib.hid (num_take hlt)
          have g1 : ¬ (s[k].toNat : Int) < 48 := by omega
          have g2 : ¬ 57 < (s[k].toNat : Int) := by omega
          clear hd
          cases b with
          | true =>
            have hb : 9223372036854775807 ≤ numF 0 (s.data.toList.take k) := of_decide_eq_true hB.out.symm
            have HT := Lib.hid (show true = decide (9223372036854775807 ≤ numF 0 (s.data.toList.take (k + 1))) by rw [NT.out]; symm; apply decide_eq_true; omega)
            have HU := Lib.hid (show numF 0 (s.data.toList.take (k + 1)) < 9223372036854775807 → n = numF 0 (s.data.toList.take (k + 1)) by rw [NT.out]; intro h; omega)
            clear hb
            go_wp2_with fail
            go_roundw
            case rel => exact ⟨n, k + 1, true, rfl, rfl, by go_num, by omega, hn, HD, HT, HU, trivial⟩
            case measure => simp [intOf]; omega
          | false =>
            have hb : ¬ 9223372036854775807 ≤ numF 0 (s.data.toList.take k) := of_decide_eq_false hB.out.symm
            have hm := hN.out (by omega)
            have NT2 : numF 0 (s.data.toList.take (k + 1)) = n * 10 + (s[k].toNat - 48) := by rw [hm]; exact NT.out
            obtain ⟨d, hdd⟩ : ∃ d : Int, d = (s[k].toNat : Int) - 48 := ⟨_, rfl⟩
            by_cases g3 : (9223372036854775806 - ((s[k].toNat : Int) - 48)) / 10 < (n : Int)
            · have HT := Lib.hid (show true = decide (9223372036854775807 ≤ numF 0 (s.data.toList.take (k + 1))) by rw [NT2]; symm; apply decide_eq_true; omega)
              have HU := Lib.hid (show numF 0 (s.data.toList.take (k + 1)) < 9223372036854775807 → n = numF 0 (s.data.toList.take (k + 1)) by rw [NT2]; intro h; omega)
              clear hb hm NT2 hdd
              go_wp2_with fail
              go_roundw
              case rel => exact ⟨n, k + 1, true, rfl, rfl, by go_num, by omega, hn, HD, HT, HU, trivial⟩
              case measure => simp [intOf]; omega
            · have HT := Lib.hid (show false = decide (9223372036854775807 ≤ numF 0 (s.data.toList.take (k + 1))) by rw [NT2]; symm; apply decide_eq_false; omega)
              have HU := Lib.hid (show numF 0 (s.data.toList.take (k + 1)) < 9223372036854775807 → n * 10 + (s[k].toNat - 48) = numF 0 (s.data.toList.take (k + 1)) by rw [NT2]; intro h; rfl)
              have g4 : n * 10 + (s[k].toNat - 48) ≤ 9223372036854775806 := by omega
              have g5 : 10 * (n : Int) + ((s[k].toNat : Int) - 48) = ((n * 10 + (s[k].toNat - 48) : Nat) : Int) := by omega
              have G5 := Lib.hid g5
              clear hb hm NT2 hdd g5
              go_wp2_with fail
              go_roundw
              case rel => exact ⟨n * 10 + (s[k].toNat - 48), k + 1, false, by rw [G5.out], rfl, by go_num, by omega, g4, HD, HT, HU, trivial⟩
              case measure => simp [intOf]; omega
        · have h1 : ¬ (48 ≤ s[k].toNat ∧ s[k].toNat ≤ 57) := fun h => hd (digB_iff.2 h)
          have HV := Lib.hid (parse_form HN.out (not_plain hlt (by simpa using hd)))
          clear hd
          go_wp2_with fail
          all_goals go_ret2
          all_goals exact ⟨by rw [HV.out]; rfl, rfl⟩
      · obtain rfl : k = s.size := by omega
        have hpl := HP.out (by have := hH.out; rwa [take_all] at this)
        have e1 : ¬ (s.size : Int) < (s.size : Int) := by omega
        have hB' := hB.out
        have hN' := hN.out
        rw [take_all] at hB' hN'
        cases b with
        | true =>
          have HV := Lib.hid (parse_big HN.out hpl (by have := of_decide_eq_true hB'.symm; omega))
          clear hpl hB' hN'
          go_wp2_with fail
          go_ret2
          exact ⟨by rw [HV.out]; rfl, rfl⟩
        | false =>
          have hs' := of_decide_eq_false hB'.symm
          have HV := Lib.hid (parse_num HN.out hpl (by omega))
          rw [← hN' (by omega)] at HV
          clear hpl hB' hN' hs'
          go_wp2_with fail
          go_ret2
          exact ⟨by rw [HV.out]; rfl, rfl⟩)
end Go.Proofs.YtmnkekepccdlcaaGreatDoor

namespace Go.Proofs.YtmnkekepccdlcaaGreatDoor
set_option linter.unusedVariables false
set_option linter.unusedSimpArgs false
open Go.RowKit Go.Sort

theorem range_later {w w' : World} (h : RangeV w) (hb : Below w.heap.size w w') : RangeV w' := by
  obtain ⟨t, p, hc⟩ := h
  exact ⟨t, p, (hb.cell (p := ⟨5, 0, none⟩) (World.block_lt_of_cell? w _ hc)).trans hc⟩
theorem gPow : Tryz.prog.globalNamed "internal/strconv.uint64pow10" = some 1 := by kernel_rfl
theorem pow_later {w w' : World} (h : Pow w) (hb : Below w.heap.size w w') : Pow w' := by
  have e : w.var? Tryz.prog "internal/strconv.uint64pow10" = some (Lib.pow10Tab.map fun z => Value.int .u64 z).toArray := h
  show w'.var? Tryz.prog "internal/strconv.uint64pow10" = _
  rw [← e]
  unfold World.var? at e ⊢
  rw [gPow] at e ⊢
  simp only [Option.bind_some] at e ⊢
  have hlt : 1 < w.heap.size := by
    rcases Nat.lt_or_ge 1 w.heap.size with h | h
    · exact h
    · rw [Array.getElem?_eq_none h] at e; cases e
  rw [hb.block _ hlt]

end Go.Proofs.YtmnkekepccdlcaaGreatDoor

namespace Go.Proofs.YtmnkekepccdlcaaGreatDoor
set_option linter.unusedVariables false
set_option linter.unusedSimpArgs false
open Go.RowKit

set_option maxHeartbeats 1000000 in
theorem xNumber (s : ByteArray) (most : Int) (w : World) (hs : s.size ≤ 100000) (hm : 0 ≤ most ∧ most ≤ 1000000000000) (hr : RangeV w) :
    Calls Tryz.prog 119 #[.string s, .int .i64 most] w fun e w' => e = .returned (.tuple #[.int .i64 (numW most s.data.toList).1, .int .i64 (numW most s.data.toList).2]) ∧ Below w.heap.size w w' := by
  have F1 := Lib.hid (tParse s hs w hr)
  have hq : numW most s.data.toList = if (parseT s.data.toList).2 = 0 ∧ most < (parseT s.data.toList).1 then (0, 12) else parseT s.data.toList := rfl
  rw [hq]
  generalize parseT s.data.toList = R at *
  obtain ⟨v, e⟩ := R
  simp only at F1 ⊢
  clear hr hq
  have n0 : (most == 9223372036854775807) = false := ne_b (by omega)
  have n0' : ¬ most = 9223372036854775807 := by omega
  by_cases c0 : e = 0
  · subst c0
    by_cases c1 : most < v
    · have c2 : (if (0 : Int) = 0 ∧ most < v then ((0 : Int), (12 : Int)) else (v, 0)) = (0, 12) := if_pos ⟨rfl, c1⟩
      rw [c2]
      clear c2
      go_enter Tryz.func119, Tryz.ntmps119
      go_wp2_with fail
      refine F1.out.mono ?_; rintro e w1 ⟨rfl, hb1⟩
      go_wp2_with fail
      go_ret2
      exact ⟨rfl, hb1⟩
    · have c2 : (if (0 : Int) = 0 ∧ most < v then ((0 : Int), (12 : Int)) else (v, 0)) = (v, 0) := if_neg (fun h => c1 h.2)
      rw [c2]
      clear c2
      go_enter Tryz.func119, Tryz.ntmps119
      go_wp2_with fail
      refine F1.out.mono ?_; rintro e w1 ⟨rfl, hb1⟩
      go_wp2_with fail
      go_ret2
      exact ⟨rfl, hb1⟩
  · have c2 : (if e = 0 ∧ most < v then ((0 : Int), (12 : Int)) else (v, e)) = (v, e) := if_neg (fun h => c0 h.1)
    rw [c2]
    have c0b := ne_b c0
    clear c2
    go_enter Tryz.func119, Tryz.ntmps119
    go_wp2_with fail
    refine F1.out.mono ?_; rintro x w1 ⟨rfl, hb1⟩
    go_wp2_with fail
    go_ret2
    exact ⟨rfl, hb1⟩
set_option maxHeartbeats 1000000 in
theorem yNumber (s : ByteArray) (most : Int) (w : World) (hs : s.size ≤ 100000) (hm : 0 ≤ most ∧ most ≤ 1000000000000) :
    Calls Tryz.prog 121 #[.string s, .int .i64 most] w fun e w' => e = .returned (.tuple #[.int .i64 (numW most s.data.toList).1, .int .i64 (numW most s.data.toList).2]) ∧ Below w.heap.size w w' := by
  have F1 := Lib.hid (rParse s hs w)
  unfold ParseOut at F1
  have hq : numW most s.data.toList = if (parseT s.data.toList).2 = 0 ∧ most < (parseT s.data.toList).1 then (0, 12) else parseT s.data.toList := rfl
  rw [hq]
  generalize parseT s.data.toList = R at *
  obtain ⟨v, e⟩ := R
  simp only at F1 ⊢
  clear hq
  have n0 : (most == 9223372036854775807) = false := ne_b (by omega)
  have n0' : ¬ most = 9223372036854775807 := by omega
  by_cases c0 : e = 0
  · subst c0
    by_cases c1 : most < v
    · have c2 : (if (0 : Int) = 0 ∧ most < v then ((0 : Int), (12 : Int)) else (v, 0)) = (0, 12) := if_pos ⟨rfl, c1⟩
      rw [c2]
      clear c2
      go_enter Tryz.func121, Tryz.ntmps121
      go_wp2_with fail
      refine F1.out.mono ?_; rintro e w1 ⟨rfl, rfl⟩
      go_wp2_with fail
      go_ret2
      exact ⟨rfl, Below.refl _ _⟩
    · have c2 : (if (0 : Int) = 0 ∧ most < v then ((0 : Int), (12 : Int)) else (v, 0)) = (v, 0) := if_neg (fun h => c1 h.2)
      rw [c2]
      clear c2
      go_enter Tryz.func121, Tryz.ntmps121
      go_wp2_with fail
      refine F1.out.mono ?_; rintro e w1 ⟨rfl, rfl⟩
      go_wp2_with fail
      go_ret2
      exact ⟨rfl, Below.refl _ _⟩
  · have c2 : (if e = 0 ∧ most < v then ((0 : Int), (12 : Int)) else (v, e)) = (v, e) := if_neg (fun h => c0 h.1)
    rw [c2]
    have c0b := ne_b c0
    clear c2
    go_enter Tryz.func121, Tryz.ntmps121
    go_wp2_with fail
    refine F1.out.mono ?_; rintro x w1 ⟨rfl, rfl⟩
    go_wp2_with fail
    go_ret2
    exact ⟨rfl, Below.refl _ _⟩
theorem numW_i64 (most : Int) (l : List UInt8) (hm : i64 most) : i64 (numW most l).1 := by
  have := parse_i64 l
  unfold numW
  split
  · unfold i64; simp
  · exact this
end Go.Proofs.YtmnkekepccdlcaaGreatDoor
