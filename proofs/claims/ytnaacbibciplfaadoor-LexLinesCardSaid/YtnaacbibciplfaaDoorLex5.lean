/-
  Contracts of package lex and of its reference, last part: words joined by the reference; the same words; which lines say nothing; a text's lines.
  Conditions: a text of at most 100000 bytes; words of so many bytes together.
-/
import Derived.Test.YtnaacbibciplfaaDoorLex4
import Derived.Lib.SplitLaws
namespace Go.Proofs.YtnaacbibciplfaaDoor
open Go.RowKit

theorem joinT_snoc : ∀ (l : List Wd) (x : Wd), joinT (l ++ [x]) = if l = [] then wordB x else joinT l ++ 32 :: wordB x
  | [], _ => rfl
  | [y], x => rfl
  | y :: z :: l, x => by
    have := joinT_snoc (z :: l) x
    rw [if_neg (by simp)] at this ⊢
    show wordB y ++ 32 :: joinT (z :: l ++ [x]) = (wordB y ++ 32 :: joinT (z :: l)) ++ 32 :: wordB x
    rw [this]
    simp
theorem joinT_take (l : List Wd) : ∀ k, k ≤ l.length → (joinT (l.take k)).length ≤ (joinT l).length := by
  have h : ∀ (n k : Nat), k + n = l.length → (joinT (l.take k)).length ≤ (joinT l).length := by
    intro n
    induction n with
    | zero => intro k hk; rw [List.take_of_length_le (by omega)]; exact Nat.le_refl _
    | succ n ih =>
      intro k hk
      have h1 := ih (k + 1) (by omega)
      rw [List.take_succ_eq_append_getElem (by omega), joinT_snoc] at h1
      split at h1
      · rename_i h2
        rw [h2]
        exact Nat.zero_le _
      · rw [List.length_append] at h1
        omega
  intro k hk
  exact h (l.length - k) k (by omega)

set_option maxHeartbeats 4000000 in
theorem yJoin (l : List Wd) (ao : Option Addr) (cap B : Nat) (w : World) (h : OW 41 B w ao cap l) (hl : l.length ≤ 1000) (hj : (joinT l).length ≤ 100000) :
    Calls Tryd.prog 16 #[.slice ao l.length cap] w fun e w' => e = .returned (.string (bt (joinT l))) ∧ Below w.heap.size w w' := by
  have hlz : l.length ≤ 9223372036854775807 := by omega
  have HAT := Lib.hid (ow_at h)
  have HJ := Lib.hid hj
  clear h hj
  go_enter Tryd.func16, Tryd.ntmps16
  go_wp2_with fail
  go_loopw [3, 4] (fun ov iv wr => ∃ (k : Nat) (o : ByteArray), iv = .int .i64 k ∧ k ≤ l.length ∧ ov = .string o ∧ Hid (o = bt (joinT (l.take k))) ∧ Below w.heap.size w wr) (fun _ iv _ => l.length - (intOf iv).toNat)
  case atStart => exact ⟨0, _, rfl, Nat.zero_le _, rfl, Lib.hid rfl, Below.refl _ _⟩
  case round =>
    obtain ⟨k, o, rfl, hk, rfl, ho, hb⟩ := hrel
    have e0 : (0 : Int) ≤ (k : Int) := by omega
    by_cases hlt : k < l.length
    · have e1 : (k : Int) < (l.length : Int) := by omega
      obtain ⟨g, rfl, hg, hc⟩ := HAT.out k hlt
      have d0 : ∀ w', Below w.heap.size w w' → w'.cell? ⟨g, k * 3, none⟩ = some (.string (bt l[k].text)) ∧ w'.cell? ⟨g, k * 3 + 1, none⟩ = some (.bool l[k].quoted) ∧ w'.cell? ⟨g, k * 3 + 2, none⟩ = some (.int .i64 (l[k].place : Nat)) := hc
      have hsn : joinT (l.take (k + 1)) = if l.take k = [] then wordB l[k] else joinT (l.take k) ++ 32 :: wordB l[k] := by
        rw [List.take_succ_eq_append_getElem hlt, joinT_snoc]
      have ht1 := joinT_take l k hk
      have ht2 := joinT_take l (k + 1) (by omega)
      have htx := text_le l[k]
      have hwl := joinT_word (List.getElem_mem hlt)
      have hos : o.size = (joinT (l.take k)).length := by rw [ho.out]; rfl
      have hempty : l.take k = [] ↔ k = 0 := by
        rw [List.take_eq_nil_iff]
        constructor
        · rintro (h | h)
          · exact h
          · rw [h] at hlt; simp at hlt
        · exact .inl
      obtain ⟨x, hx⟩ : ∃ x, x = l[k] := ⟨_, rfl⟩
      rw [← hx] at d0 hsn htx hwl
      obtain ⟨tx, qd, pl⟩ := x
      simp only at d0 htx
      -- the words so far, and a blank
      obtain ⟨o2, ho2, hos2⟩ : ∃ o2 : ByteArray, (if k = 0 then o else o ++ ⟨#[32]⟩) = o2 ∧ o2 ++ bt (wordB ⟨tx, qd, pl⟩) = bt (joinT (l.take (k + 1))) := by
        refine ⟨_, rfl, ?_⟩
        by_cases hk0 : k = 0
        · rw [if_pos hk0, hsn, if_pos (hempty.2 hk0), ho.out, hempty.2 hk0]
          apply ByteArray.ext; simp [joinT]
        · rw [if_neg hk0, hsn, if_neg (fun e => hk0 (hempty.1 e)), ho.out]
          apply ByteArray.ext; simp
      have hz : o2.size + (wordB ⟨tx, qd, pl⟩).length ≤ 100000 := by
        have h1 := congrArg ByteArray.size hos2
        rw [ByteArray.size_append] at h1
        have h2 : (bt (joinT (l.take (k + 1)))).size = (joinT (l.take (k + 1))).length := rfl
        have h3 : (bt (wordB ⟨tx, qd, pl⟩)).size = (wordB ⟨tx, qd, pl⟩).length := rfl
        have := HJ.out
        omega
      have hoz : o.size ≤ 100000 := by have := HJ.out; omega
      have HO := Lib.hid hos2
      clear hos2 hsn hx ht1 ht2 hempty hos hwl hc
      have hz2 : ¬ 9223372036854775807 < o.size + (⟨#[32]⟩ : ByteArray).size := by show ¬ _ < o.size + 1; omega
      cases qd with
      | true =>
        have hq : ∀ w, Calls Tryd.prog 25 #[.string (bt tx)] w fun e w' => e = .returned (.string (bt (wordB ⟨tx, true, pl⟩))) ∧ Below w.heap.size w w' := fun w => rQuote (bt tx) w (by show tx.length ≤ _; omega)
        have hz3 : ¬ 9223372036854775807 < o2.size + (bt (wordB ⟨tx, true, pl⟩)).size := by show ¬ _ < o2.size + (wordB ⟨tx, true, pl⟩).length; omega
        have HQ := Lib.hid hq
        clear hq
        generalize bt (wordB ⟨tx, true, pl⟩) = wb at *
        generalize bt tx = tx' at *
        have hr := hb
        by_cases hk0 : k = 0
        · rw [if_pos hk0] at ho2
          subst ho2
          have ek : ¬ 0 < k := by omega
          clear hk0
          go_wp2_with fail
          refine (HQ.out _).mono ?_; rintro e w1 ⟨rfl, hb1⟩
          have hb2 := hb.up hb1
          go_wp2_with fail
          go_roundw
          case rel => exact ⟨k + 1, _, by go_num, by omega, rfl, HO, hb2⟩
          case measure => simp [intOf]; omega
        · rw [if_neg hk0] at ho2
          have ek : 0 < k := by omega
          subst ho2
          have hz4 : ¬ 9223372036854775807 < o.size + (⟨#[32]⟩ : ByteArray).size + wb.size := by rw [← ByteArray.size_append]; exact hz3
          have hz5 : ¬ 9223372036854775807 < o.size + 1 + wb.size := hz4
          clear hk0
          go_wp2_with fail
          refine (HQ.out _).mono ?_; rintro e w1 ⟨rfl, hb1⟩
          have hb2 := hb.up hb1
          go_wp2_with fail
          go_roundw
          case rel => exact ⟨k + 1, _, by go_num, by omega, rfl, HO, hb2⟩
          case measure => simp [intOf]; omega
      | false =>
        have hwb : wordB ⟨tx, false, pl⟩ = tx := rfl
        rw [hwb] at HO hz
        have hz3 : ¬ 9223372036854775807 < o2.size + (bt tx).size := by show ¬ _ < o2.size + tx.length; omega
        generalize bt tx = tx' at *
        have hr := hb
        by_cases hk0 : k = 0
        · rw [if_pos hk0] at ho2
          subst ho2
          have ek : ¬ 0 < k := by omega
          clear hk0
          go_wp2_with fail
          go_roundw
          case rel => exact ⟨k + 1, _, by go_num, by omega, rfl, HO, hb⟩
          case measure => simp [intOf]; omega
        · rw [if_neg hk0] at ho2
          have ek : 0 < k := by omega
          subst ho2
          have hz4 : ¬ 9223372036854775807 < o.size + (⟨#[32]⟩ : ByteArray).size + tx'.size := by rw [← ByteArray.size_append]; exact hz3
          have hz5 : ¬ 9223372036854775807 < o.size + 1 + tx'.size := hz4
          clear hk0
          go_wp2_with fail
          go_roundw
          case rel => exact ⟨k + 1, _, by go_num, by omega, rfl, HO, hb⟩
          case measure => simp [intOf]; omega
    · obtain rfl : k = l.length := by omega
      have e1 : ¬ (l.length : Int) < (l.length : Int) := by omega
      have hT : l.take l.length = l := List.take_length
      rw [hT] at ho
      go_wp2_with fail
      go_ret
      exact ⟨by rw [← ho.out]; rfl, hb⟩

set_option maxHeartbeats 4000000 in
theorem lSame (l : List Wd) (ao bo : Option Addr) (cap bcap B B' : Nat) (w : World) (h1 : OW 29 B w ao cap l) (h2 : OW 41 B' w bo bcap l) (hl : l.length ≤ 100000) :
    Calls Tryd.prog 14 #[.slice ao l.length cap, .slice bo l.length bcap] w fun e w' => e = .returned (.bool true) ∧ Below w.heap.size w w' := by
  have hlz : l.length ≤ 9223372036854775807 := by omega
  have HA := Lib.hid (ow_at h1)
  have HB := Lib.hid (ow_at h2)
  clear h1 h2
  go_enter Tryd.func14, Tryd.ntmps14
  go_wp2_with fail
  go_loopw [5] (fun iv wr => ∃ (k : Nat), iv = .int .i64 k ∧ k ≤ l.length ∧ Below w.heap.size w wr) (fun iv _ => l.length - (intOf iv).toNat)
  case atStart => exact ⟨0, rfl, Nat.zero_le _, Below.refl _ _⟩
  case round =>
    obtain ⟨k, rfl, hk, hb⟩ := hrel
    have e0 : (0 : Int) ≤ (k : Int) := by omega
    by_cases hlt : k < l.length
    · have e1 : (k : Int) < (l.length : Int) := by omega
      obtain ⟨g, rfl, hg, hc⟩ := HA.out k hlt
      obtain ⟨g', rfl, hg', hc'⟩ := HB.out k hlt
      generalize l[k] = x at *
      obtain ⟨tx, qd, pl⟩ := x
      simp only at hc hc'
      obtain ⟨a0, a1, a2⟩ := hc wr hb
      obtain ⟨c0, c1, c2⟩ := hc' wr hb
      generalize bt tx = tx' at *
      clear hc hc'
      go_wp2_with fail
      go_quiet (fail)
      go_wp2_with fail
      go_roundw
      case rel => exact ⟨k + 1, by go_num, by omega, below_drewN hb _⟩
      case measure => simp [intOf]; omega
    · obtain rfl : k = l.length := by omega
      have e1 : ¬ (l.length : Int) < (l.length : Int) := by omega
      go_wp2_with fail
      go_ret
      exact ⟨rfl, hb⟩
end Go.Proofs.YtnaacbibciplfaaDoor
