/-
  Contracts of the ticks' texts (package tick and its reference), and of how long a tick takes.
  Conditions: a text of at most 100000 bytes; the table of powers of ten and strconv's two errors are laid.
-/
import Derived.Test.YtmnkekepccdlcaaGreatDoorTickT
import Derived.Test.YtmnkekepccdlcaaGreatDoorTimes
import Derived.Test.YtmnkekepccdlcaaGreatDoorOwn
import Derived.Lib.ItoaLen
import Derived.Lib.SmallJoins
namespace Go.Proofs.YtmnkekepccdlcaaGreatDoor
set_option linter.unusedVariables false
set_option linter.unusedSimpArgs false
open Go.RowKit Go.Sort

theorem below_growD (w : World) (k : Nat) (os : Array Obj) : Below w.heap.size w (grow (w.drewN k) os) := by
  have h : Below w.heap.size w (w.drewN k) := below_drewN (Below.refl _ _) k
  refine h.trans ⟨rfl, rfl, rfl, ?_, fun i hi => ?_⟩
  · show (w.drewN k).heap.size ≤ ((w.drewN k).heap ++ os).size
    rw [Array.size_append]; omega
  · show ((w.drewN k).heap ++ os)[i]? = _
    have := h.size
    rw [Array.getElem?_append_left (by omega)]

/-- What a world must hold that a number is printed in it, and one read. -/
abbrev Pow (w : World) : Prop := Lib.TabIs Tryz.prog w "internal/strconv.uint64pow10" .u64 Lib.pow10Tab
theorem tText (t : Int) (w : World) (ht : i64 t) (hp : Pow w) : Calls Tryz.prog 76 #[.int .i64 t] w fun e w' => e = .returned (.string (bt (textT t))) ∧ Below w.heap.size w w' := by
  by_cases g : t = 9223372036854775807
  · subst g
    go_enter Tryz.func76, Tryz.ntmps76
    go_wp2_with fail
    go_ret
    exact ⟨rfl, Below.refl _ _⟩
  · have e1 := ne_b g
    have e2 : textT t = Lib.itoa (ownT t) := by
      unfold textT nev Lib.itoa
      have := ownT_le ht
      rw [if_neg g, if_neg (by omega)]
    rw [e2]
    have f2 := fun w hp => Tryz.strconv_FormatInt_10 (ownT t) (by have := ownT_le ht; omega) (ownT_le ht).2 w hp
    have F2 := Lib.hid f2
    have HP := Lib.hid hp
    clear e2 f2 g ht hp
    go_enter Tryz.func76, Tryz.ntmps76
    go_wp2_with fail
    refine (town _ _).mono ?_; rintro e w1 ⟨rfl, rfl⟩
    go_wp2_with fail
    refine (F2.out _ HP.out).mono ?_; rintro e w1 ⟨rfl, k, os, rfl⟩
    go_wp2_with fail
    go_ret
    exact ⟨rfl, below_growD _ _ _⟩
theorem dec_step (n : Nat) (l : List UInt8) (h : 9 < n) : Lib.decDigits n ++ l = Lib.decDigits (n / 10) ++ (UInt8.ofNat (48 + n % 10) :: l) := by
  rw [dec_big (by omega), List.append_assoc]; rfl
theorem dig10 {m : Nat} (h : m < 10) (l : List UInt8) : (⟨#[48, 49, 50, 51, 52, 53, 54, 55, 56, 57]⟩ : ByteArray).extract m (m + 1) ++ bt l = bt (UInt8.ofNat (48 + m) :: l) := by
  have e : ∀ i : Fin 10, (⟨#[48, 49, 50, 51, 52, 53, 54, 55, 56, 57]⟩ : ByteArray).extract i.val (i.val + 1) = bt [UInt8.ofNat (48 + i.val)] := by decide
  rw [e ⟨m, h⟩]
  apply ByteArray.ext
  rw [ByteArray.data_append]
  simp
set_option maxHeartbeats 1000000 in
theorem rDigits (n0 : Nat) (w : World) (hn : n0 < 9223372036854775808) : Calls Tryz.prog 68 #[.int .i64 n0] w fun e w' => e = .returned (.string (bt (Lib.decDigits n0))) ∧ w = w' := by
  go_enter Tryz.func68, Tryz.ntmps68
  go_wp2_with fail
  go_loopw [0, 3] (fun nv sv wr => ∃ (n : Nat) (l : List UInt8), nv = .int .i64 n ∧ sv = .string (bt l) ∧ n < 9223372036854775808 ∧ Hid (Lib.decDigits n ++ l = Lib.decDigits n0) ∧ w = wr) (fun nv _ _ => (intOf nv).toNat)
  case atStart => exact ⟨n0, [], rfl, rfl, hn, Lib.hid (List.append_nil _), rfl⟩
  case round =>
    obtain ⟨n, l, rfl, rfl, hlt, hH, rfl⟩ := hrel
    have hl : l.length ≤ 21 := by
      have h1 := congrArg List.length hH.out
      have h2 := Lib.itoa_length_le n0 (by omega) (by omega)
      rw [Lib.itoa_nonneg] at h2
      rw [List.length_append] at h1
      omega
    by_cases h9 : 9 < n
    · go_wp2_with fail
      refine ⟨⟨n / 10, UInt8.ofNat (48 + n % 10) :: l, rfl, by rw [dig10 (by omega)], by omega, Lib.hid (by rw [← hH.out, dec_step n l h9]), trivial⟩, ?_⟩
      simp only [intOf]; omega
    · have e : (⟨#[48, 49, 50, 51, 52, 53, 54, 55, 56, 57]⟩ : ByteArray).extract n (n + 1) ++ bt l = bt (Lib.decDigits n0) := by
        rw [dig10 (by omega), ← hH.out, dec_small (by omega)]; rfl
      have E := Lib.hid e
      clear e
      go_wp2_with fail
      simp only [E.out]
      go_ret
      exact ⟨rfl, rfl⟩
theorem rText (t : Int) (w : World) (ht : i64 t) : Calls Tryz.prog 42 #[.int .i64 t] w fun e w' => e = .returned (.string (bt (textT t))) ∧ w = w' := by
  by_cases g : t = 9223372036854775807
  · subst g
    go_enter Tryz.func42, Tryz.ntmps42
    go_wp2_with fail
    go_ret
    exact ⟨rfl, rfl⟩
  · have e1 := ne_b g
    have e2 : textT t = Lib.decDigits (ownT t).toNat := by
      unfold textT nev
      rw [if_neg g]
    rw [e2]
    have h1 := ownT_le ht
    have f1 := fun w => rOwn t w
    generalize ownT t = x at *
    obtain ⟨x, rfl⟩ := Int.eq_ofNat_of_zero_le h1.1
    have F1 := Lib.hid f1
    clear e2 f1 g ht
    go_enter Tryz.func42, Tryz.ntmps42
    go_wp2_with fail
    refine (F1.out _).mono ?_; rintro e w1 ⟨rfl, rfl⟩
    go_wp2_with fail
    refine (rDigits x _ (by omega)).mono ?_; rintro e w1 ⟨rfl, rfl⟩
    go_wp2_with fail
    go_ret
    exact ⟨rfl, rfl⟩
theorem all_upto {s : ByteArray} {k : Nat} (hk : k < s.size) (ha : (s.data.toList.take k).all digB = true) (hd : digB s[k] = true) : (s.data.toList.take (k + 1)).all digB = true := by
  rw [List.take_succ_eq_append_getElem (by simpa using hk), List.all_append, ha]
  simp only [List.all_cons, List.all_nil, Bool.and_true, Bool.true_and]
  exact hd
theorem not_plain {s : ByteArray} {k : Nat} (hk : k < s.size) (hd : digB s[k] = false) : plainD s.data.toList = false := by
  unfold plainD
  have : s.data.toList.all digB = false := by
    rw [List.all_eq_false]
    exact ⟨s[k], Array.getElem_mem_toList _, by simp [hd]⟩
  rw [this]; rfl
set_option maxHeartbeats 1000000 in
theorem tPlain (s : ByteArray) (hs : s.size ≤ 100000) (w : World) : Calls Tryz.prog 126 #[.string s] w fun e w' => e = .returned (.bool (plainD s.data.toList)) ∧ w = w' := by
  go_enter Tryz.func126, Tryz.ntmps126
  go_wp2_with fail
  go_loopw [6] (fun iv wr => ∃ k : Nat, iv = .int .i64 k ∧ k ≤ s.size ∧ Hid ((s.data.toList.take k).all digB = true) ∧ w = wr) (fun iv _ => s.size - (intOf iv).toNat)
  case atStart => exact ⟨0, rfl, Nat.zero_le _, Lib.hid rfl, rfl⟩
  case round =>
    obtain ⟨k, rfl, hk, hH, rfl⟩ := hrel
    by_cases hlt : k < s.size
    · by_cases hd : digB s[k] = true
      · have h1 := digB_iff.1 hd
        have HD := Lib.hid hd
        have g1 : ¬ s[k].toNat < 48 := by omega
        have g2 : ¬ 57 < s[k].toNat := by omega
        clear hd
        go_wp2_with fail
        go_roundw
        case rel => exact ⟨k + 1, by go_num, by omega, Lib.hid (all_upto hlt hH.out HD.out), trivial⟩
        case measure => simp [intOf]; omega
      · have h1 : ¬ (48 ≤ s[k].toNat ∧ s[k].toNat ≤ 57) := fun h => hd (digB_iff.2 h)
        have HV := Lib.hid (not_plain hlt (by simpa using hd))
        clear hd
        go_wp2_with fail
        all_goals go_ret
        all_goals exact ⟨by rw [HV.out]; rfl, rfl⟩
    · obtain rfl : k = s.size := by omega
      have ha : s.data.toList.all digB = true := by
        have := hH.out
        rwa [List.take_of_length_le (by exact Nat.le_refl _)] at this
      have hP : plainD s.data.toList = (s.data.toList == [48] || (!s.data.toList.isEmpty && !(s.data.toList.head? == some 48))) := by unfold plainD; rw [ha, Bool.true_and]
      clear ha hH
      by_cases c1 : s.toList = [48]
      · have HP := Lib.hid (show plainD s.data.toList = true by rw [hP, ← ByteArray.toList_eq, c1]; rfl)
        clear hP
        go_wp2_with fail
        go_ret
        exact ⟨by rw [HP.out]; rfl, rfl⟩
      · by_cases c2 : s.toList = []
        · have HP := Lib.hid (show plainD s.data.toList = false by rw [hP, ← ByteArray.toList_eq, c2]; rfl)
          clear hP
          go_wp2_with fail
          go_ret
          exact ⟨by rw [HP.out]; rfl, rfl⟩
        · have hz : 0 < s.size := by
            rcases Nat.eq_zero_or_pos s.size with h | h
            · exact absurd (by rw [ByteArray.toList_eq]; exact List.eq_nil_of_length_eq_zero h) c2
            · exact h
          have hd := drop_at s 0 hz
          rw [List.drop_zero] at hd
          have hq : plainD s.data.toList = !(s[0] == 48) := by
            rw [hP, ← ByteArray.toList_eq] at *
            rw [beq_eq_false_iff_ne.2 c1, hd]
            rfl
          have HQ := Lib.hid hq
          clear hP hd hq
          by_cases c3 : s[0] = 48
          · have c4 : (s[0].toNat : Int) = 48 := by rw [c3]; rfl
            go_wp2_with fail
            go_ret
            exact ⟨by rw [HQ.out, c3, beq_eq_false_iff_ne.2 c1]; rfl, rfl⟩
          · have c4 : ¬ (s[0].toNat : Int) = 48 := fun e => c3 (u8_eq (d := 48) e)
            go_wp2_with fail
            go_ret
            exact ⟨by rw [HQ.out, beq_eq_false_iff_ne.2 c3]; exact ret_bool (a := s.toList == [48] || !s.toList.isEmpty && (s[0].toNat : Int) != 48) (by simp [c2, c4]), rfl⟩
abbrev RangeV (w : World) : Prop := ∃ t p, w.cell? ⟨5, 0, none⟩ = some (.iface t p)
theorem below_one {w w' : World} {e : TypeId} (h : w' = w ∨ ∃ t, w' = Lib.bytesWorld w e t) : Below w.heap.size w w' := by
  rcases h with rfl | ⟨t, rfl⟩
  · exact Below.refl _ _
  · exact Joins.below_bytesWorld _ _ _ _ (Nat.le_refl _)
set_option maxHeartbeats 1000000 in
theorem tParse (s : ByteArray) (hs : s.size ≤ 100000) (w : World) (hr : RangeV w) :
    Calls Tryz.prog 102 #[.string s] w fun e w' => e = .returned (.tuple #[.int .i64 (parseT s.data.toList).1, .int .i64 (parseT s.data.toList).2]) ∧ Below w.heap.size w w' := by
  by_cases c1 : s.toList = [110, 101, 118, 101, 114]
  · have e : parseT s.data.toList = (9223372036854775807, 0) := by rw [← ByteArray.toList_eq, c1]; rfl
    have E := Lib.hid e
    clear e hr
    go_enter Tryz.func102, Tryz.ntmps102
    go_wp2_with fail
    go_ret2
    exact ⟨by rw [E.out]; rfl, Below.refl _ _⟩
  · have c1' : ¬ s.data.toList = neverL := by rw [← ByteArray.toList_eq]; exact c1
    have c1b : (s.toList == [110, 101, 118, 101, 114]) = false := beq_eq_false_iff_ne.2 c1
    clear c1
    have f1 := fun w => tPlain s hs w
    by_cases c2 : plainD s.data.toList = true
    · rw [c2] at f1
      have F1 := Lib.hid f1
      have e : parseT s.data.toList = if (numF 0 s.data.toList : Int) ≥ nev then ((0 : Int), (12 : Int)) else ((numF 0 s.data.toList : Int), (0 : Int)) := by unfold parseT; rw [if_neg c1', if_pos c2]
      have hi := int_digits c2
      obtain ⟨m, hm⟩ : ∃ m, m = numF 0 s.data.toList := ⟨_, rfl⟩
      rw [← hm] at hi e
      by_cases c3 : m < 9223372036854775808
      · rw [if_pos c3] at hi
        have F2 := Lib.hid (fun w => Tryz.strconv_ParseInt_10_at64_ok s (by omega) m hi w)
        clear f1 hi hm hr c1' c2
        by_cases c4 : m = 9223372036854775807
        · subst c4
          rw [if_pos (by unfold nev; omega)] at e
          have E := Lib.hid e
          clear e
          go_enter Tryz.func102, Tryz.ntmps102
          go_wp2_with fail
          refine (F1.out _).mono ?_; rintro e w1 ⟨rfl, rfl⟩
          go_wp2_with fail
          refine (F2.out _).mono ?_; rintro e w1 ⟨rfl, hb⟩
          have hb := below_one hb
          go_wp2_with fail
          go_ret2
          exact ⟨by rw [E.out]; rfl, hb⟩
        · rw [if_neg (by unfold nev; omega)] at e
          have E := Lib.hid e
          have c5 : ¬ (m : Int) = 9223372036854775807 := by omega
          clear e
          go_enter Tryz.func102, Tryz.ntmps102
          go_wp2_with fail
          refine (F1.out _).mono ?_; rintro e w1 ⟨rfl, rfl⟩
          go_wp2_with fail
          refine (F2.out _).mono ?_; rintro e w1 ⟨rfl, hb⟩
          have hb := below_one hb
          go_wp2_with fail
          go_ret2
          exact ⟨by rw [E.out]; rfl, hb⟩
      · rw [if_neg c3] at hi
        rw [if_pos (by unfold nev; omega)] at e
        have E := Lib.hid e
        obtain ⟨tt, pp, hc⟩ := hr
        have F2 := Lib.hid (fun w hc => Tryz.strconv_ParseInt_10_at64_range s (by omega) hi (.iface tt pp) w hc (.inr ⟨_, _, rfl⟩))
        have HC := Lib.hid hc
        clear f1 hi hm hc e c1' c2
        go_enter Tryz.func102, Tryz.ntmps102
        go_wp2_with fail
        refine (F1.out _).mono ?_; rintro e w1 ⟨rfl, rfl⟩
        go_wp2_with fail
        refine (F2.out _ HC.out).mono ?_; rintro e w1 ⟨N, rfl, -, -, hb⟩
        go_wp2_with fail
        go_ret2
        exact ⟨by rw [E.out]; rfl, hb⟩
    · have e : parseT s.data.toList = (0, 2) := by unfold parseT; rw [if_neg c1', if_neg c2]
      have E := Lib.hid e
      rw [Bool.not_eq_true] at c2
      rw [c2] at f1
      have F1 := Lib.hid f1
      clear e hr f1 c1' c2
      go_enter Tryz.func102, Tryz.ntmps102
      go_wp2_with fail
      refine (F1.out _).mono ?_; rintro e w1 ⟨rfl, rfl⟩
      go_wp2_with fail
      go_ret2
      exact ⟨by rw [E.out]; rfl, Below.refl _ _⟩
end Go.Proofs.YtmnkekepccdlcaaGreatDoor
