/-
  The reference's Parse of a tick's text; and that ticks live.
  Conditions: a text of at most 100000 bytes.
-/
import Derived.Test.YtmnkekepccdlcaaGreatDoorTickW
namespace Go.Proofs.YtmnkekepccdlcaaGreatDoor
open Go.RowKit Go.Sort

theorem num_take {s : ByteArray} {k : Nat} (hk : k < s.size) : numF 0 (s.data.toList.take (k + 1)) = numF 0 (s.data.toList.take k) * 10 + (s[k].toNat - 48) := by
  rw [List.take_succ_eq_append_getElem (by simpa using hk), numF_snoc]; rfl
theorem take_all {s : ByteArray} : s.data.toList.take s.size = s.data.toList := List.take_of_length_le (Nat.le_refl _)
theorem parse_form {l : List UInt8} (h1 : ¬ l = neverL) (h2 : plainD l = false) : parseT l = (0, 2) := by
  unfold parseT; rw [if_neg h1, if_neg (by rw [h2]; exact Bool.false_ne_true)]
theorem parse_num {l : List UInt8} (h1 : ¬ l = neverL) (h2 : plainD l = true) (h3 : numF 0 l < 9223372036854775807) : parseT l = ((numF 0 l : Int), 0) := by
  unfold parseT; rw [if_neg h1, if_pos h2, if_neg (by unfold nev; omega)]
theorem parse_big {l : List UInt8} (h1 : ¬ l = neverL) (h2 : plainD l = true) (h3 : ¬ numF 0 l < 9223372036854775807) : parseT l = (0, 12) := by
  unfold parseT; rw [if_neg h1, if_pos h2, if_pos (by unfold nev; omega)]
abbrev ParseOut (s : ByteArray) (w : World) : Ending → World → Prop := fun e w' => e = .returned (.tuple #[.int .i64 (parseT s.data.toList).1, .int .i64 (parseT s.data.toList).2]) ∧ w = w'

set_option maxHeartbeats 2000000 in
theorem rParse (s : ByteArray) (hs : s.size ≤ 100000) (w : World) : Calls Tryz.prog 138 #[.string s] w (ParseOut s w) := by
  by_cases c1 : s.toList = [110, 101, 118, 101, 114]
  · have e : parseT s.data.toList = (9223372036854775807, 0) := by rw [← ByteArray.toList_eq, c1]; rfl
    have E := Lib.hid e
    clear e
    go_enter Tryz.func138, Tryz.ntmps138
    go_wp2_with fail
    go_ret2
    exact ⟨by rw [E.out]; rfl, rfl⟩
  have c1b : (s.toList == [110, 101, 118, 101, 114]) = false := beq_eq_false_iff_ne.2 c1
  have hn : ¬ s.data.toList = neverL := by rw [← ByteArray.toList_eq]; exact c1
  have HN := Lib.hid hn
  clear c1 hn
  by_cases c2 : s.toList = []
  · have E := Lib.hid (parse_form HN.out (by rw [← ByteArray.toList_eq, c2]; rfl))
    go_enter Tryz.func138, Tryz.ntmps138
    go_wp2_with fail
    go_ret2
    exact ⟨by rw [E.out]; rfl, rfl⟩
  have hz : 0 < s.size := by
    rcases Nat.eq_zero_or_pos s.size with h | h
    · exact absurd (by rw [ByteArray.toList_eq]; exact List.eq_nil_of_length_eq_zero h) c2
    · exact h
  have hd := drop_at s 0 hz
  rw [List.drop_zero] at hd
  have c2b : s.toList.isEmpty = false := by cases h : s.toList with
    | nil => exact absurd h c2
    | cons _ _ => rfl
  clear c2
  by_cases c3 : 1 < s.size ∧ s[0] = 48
  · obtain ⟨c3, c4⟩ := c3
    have hp : plainD s.data.toList = false := by
      have hl : s.data.toList.length = s.size := rfl
      unfold plainD
      rw [beq_eq_false_iff_ne.2 (show s.data.toList ≠ [48] by intro e; rw [e] at hl; simp at hl; omega), hd, c4]
      simp
    have E := Lib.hid (parse_form HN.out hp)
    have c5 : (s[0].toNat : Int) = 48 := by rw [c4]; rfl
    clear hp hd c4
    go_enter Tryz.func138, Tryz.ntmps138
    go_wp2_with fail
    go_ret2
    exact ⟨by rw [E.out]; rfl, rfl⟩
  have hP : s.data.toList.all digB = true → plainD s.data.toList = true := by
    intro ha
    unfold plainD
    rw [ha, hd]
    by_cases c4 : s[0] = 48
    · have : s.size = 1 := by
        have : ¬ 1 < s.size := fun h => c3 ⟨h, c4⟩
        omega
      rw [c4, drop_end s 1 (by omega)]; rfl
    · simp [c4]
  have HP := Lib.hid hP
  have c3' : ¬ (1 < s.size ∧ (s[0].toNat : Int) = 48) := fun h => c3 ⟨h.1, u8_eq (d := 48) h.2⟩
  clear hP hd c3
  go_enter Tryz.func138, Tryz.ntmps138
  by_cases c6 : 1 < s.size
  all_goals try have c7 : ¬ (s[0].toNat : Int) = 48 := fun h => c3' ⟨c6, h⟩
  all_goals clear c3'
  all_goals (
    go_wp2_with fail
    go_loopw [4, 5, 6] (fun nv bv iv wr => ∃ (n k : Nat) (b : Bool), nv = .int .i64 n ∧ bv = .bool b ∧ iv = .int .i64 k ∧ k ≤ s.size ∧ n ≤ 9223372036854775806 ∧ Hid ((s.data.toList.take k).all digB = true) ∧ Hid (b = decide (9223372036854775807 ≤ numF 0 (s.data.toList.take k))) ∧ Hid (numF 0 (s.data.toList.take k) < 9223372036854775807 → n = numF 0 (s.data.toList.take k)) ∧ w = wr) (fun _ _ iv _ => s.size - (intOf iv).toNat)
    case atStart => exact ⟨0, 0, false, rfl, rfl, rfl, Nat.zero_le _, by omega, Lib.hid rfl, Lib.hid rfl, Lib.hid (fun _ => rfl), rfl⟩
    case round =>
      obtain ⟨n, k, b, rfl, rfl, rfl, hk, hn, hH, hB, hN, rfl⟩ := hrel
      by_cases hlt : k < s.size
      · have e1 : (k : Int) < (s.size : Int) := by omega
        by_cases hd : digB s[k] = true
        · have h1 := digB_iff.1 hd
          have HD := Lib.hid (all_upto hlt hH.out hd)
          have NT := Lib.hid (num_take hlt)
          have g1 : ¬ (s[k].toNat : Int) < 48 := by omega
          have g2 : ¬ 57 < (s[k].toNat : Int) := by omega
          clear hd
          cases b with
          | true =>
            have hb : 9223372036854775807 ≤ numF 0 (s.data.toList.take k) := of_decide_eq_true hB.out.symm
            have HT := Lib.hid (show true = decide (9223372036854775807 ≤ numF 0 (s.data.toList.take (k + 1))) by rw [NT.out]; symm; apply decide_eq_true; omega)
            have HU := Lib.hid (show numF 0 (s.data.toList.take (k + 1)) < 9223372036854775807 → n = numF 0 (s.data.toList.take (k + 1)) by rw [NT.out]; intro h; omega)
            clear hb
            go_wp2_with fail
            go_roundw
            case rel => exact ⟨n, k + 1, true, rfl, rfl, by go_num, by omega, hn, HD, HT, HU, trivial⟩
            case measure => simp [intOf]; omega
          | false =>
            have hb : ¬ 9223372036854775807 ≤ numF 0 (s.data.toList.take k) := of_decide_eq_false hB.out.symm
            have hm := hN.out (by omega)
            have NT2 : numF 0 (s.data.toList.take (k + 1)) = n * 10 + (s[k].toNat - 48) := by rw [hm]; exact NT.out
            obtain ⟨d, hdd⟩ : ∃ d : Int, d = (s[k].toNat : Int) - 48 := ⟨_, rfl⟩
            by_cases g3 : (9223372036854775806 - ((s[k].toNat : Int) - 48)) / 10 < (n : Int)
            · have HT := Lib.hid (show true = decide (9223372036854775807 ≤ numF 0 (s.data.toList.take (k + 1))) by rw [NT2]; symm; apply decide_eq_true; omega)
              have HU := Lib.hid (show numF 0 (s.data.toList.take (k + 1)) < 9223372036854775807 → n = numF 0 (s.data.toList.take (k + 1)) by rw [NT2]; intro h; omega)
              clear hb hm NT2 hdd
              go_wp2_with fail
              go_roundw
              case rel => exact ⟨n, k + 1, true, rfl, rfl, by go_num, by omega, hn, HD, HT, HU, trivial⟩
              case measure => simp [intOf]; omega
            · have HT := Lib.hid (show false = decide (9223372036854775807 ≤ numF 0 (s.data.toList.take (k + 1))) by rw [NT2]; symm; apply decide_eq_false; omega)
              have HU := Lib.hid (show numF 0 (s.data.toList.take (k + 1)) < 9223372036854775807 → n * 10 + (s[k].toNat - 48) = numF 0 (s.data.toList.take (k + 1)) by rw [NT2]; intro h; rfl)
              have g4 : n * 10 + (s[k].toNat - 48) ≤ 9223372036854775806 := by omega
              have g5 : 10 * (n : Int) + ((s[k].toNat : Int) - 48) = ((n * 10 + (s[k].toNat - 48) : Nat) : Int) := by omega
              have G5 := Lib.hid g5
              clear hb hm NT2 hdd g5
              go_wp2_with fail
              go_roundw
              case rel => exact ⟨n * 10 + (s[k].toNat - 48), k + 1, false, by rw [G5.out], rfl, by go_num, by omega, g4, HD, HT, HU, trivial⟩
              case measure => simp [intOf]; omega
        · have h1 : ¬ (48 ≤ s[k].toNat ∧ s[k].toNat ≤ 57) := fun h => hd (digB_iff.2 h)
          have HV := Lib.hid (parse_form HN.out (not_plain hlt (by simpa using hd)))
          clear hd
          go_wp2_with fail
          all_goals go_ret2
          all_goals exact ⟨by rw [HV.out]; rfl, rfl⟩
      · obtain rfl : k = s.size := by omega
        have hpl := HP.out (by have := hH.out; rwa [take_all] at this)
        have e1 : ¬ (s.size : Int) < (s.size : Int) := by omega
        have hB' := hB.out
        have hN' := hN.out
        rw [take_all] at hB' hN'
        cases b with
        | true =>
          have HV := Lib.hid (parse_big HN.out hpl (by have := of_decide_eq_true hB'.symm; omega))
          clear hpl hB' hN'
          go_wp2_with fail
          go_ret2
          exact ⟨by rw [HV.out]; rfl, rfl⟩
        | false =>
          have hs' := of_decide_eq_false hB'.symm
          have HV := Lib.hid (parse_num HN.out hpl (by omega))
          rw [← hN' (by omega)] at HV
          clear hpl hB' hN' hs'
          go_wp2_with fail
          go_ret2
          exact ⟨by rw [HV.out]; rfl, rfl⟩)
end Go.Proofs.YtmnkekepccdlcaaGreatDoor
