/-
  What a tick's text is, and what tick a text is: plain functions of lists of bytes; a text comes back as its tick, and a tick as its text.
  Conditions: none.
-/
import Derived.Test.YtmnkekepccdlcaaGreatDoorTick
import Derived.Lib.ItoaMem
import Derived.Lib.ParseIntBCases
namespace Go.Proofs.YtmnkekepccdlcaaGreatDoor
set_option linter.unusedVariables false
set_option linter.unusedSimpArgs false

def digB (c : UInt8) : Bool := decide (48 ≤ c.toNat) && decide (c.toNat ≤ 57)
theorem digB_iff {c : UInt8} : digB c = true ↔ 48 ≤ c.toNat ∧ c.toNat ≤ 57 := by unfold digB; simp
def numF (a : Nat) (l : List UInt8) : Nat := l.foldl (fun a c => a * 10 + (c.toNat - 48)) a
theorem numF_nil (a : Nat) : numF a [] = a := rfl
theorem numF_cons (a : Nat) (c : UInt8) (l : List UInt8) : numF a (c :: l) = numF (a * 10 + (c.toNat - 48)) l := by unfold numF; rw [List.foldl_cons]
theorem numF_snoc (a : Nat) (l : List UInt8) (c : UInt8) : numF a (l ++ [c]) = numF a l * 10 + (c.toNat - 48) := by unfold numF; rw [List.foldl_append, List.foldl_cons, List.foldl_nil]
theorem numF_ge : ∀ (l : List UInt8) (a : Nat), a ≤ numF a l
  | [], a => Nat.le_refl _
  | c :: l, a => by rw [numF_cons]; have := numF_ge l (a * 10 + (c.toNat - 48)); omega
def plainD (l : List UInt8) : Bool := l.all digB && (l == [48] || (!l.isEmpty && !(l.head? == some 48)))
def neverL : List UInt8 := [110, 101, 118, 101, 114]
/-- The tick of a text, and the error. -/
def parseT (l : List UInt8) : Int × Int := if l = neverL then (nev, 0) else if plainD l = true then (if (numF 0 l : Int) ≥ nev then (0, 12) else (numF 0 l, 0)) else (0, 2)
def textT (t : Int) : List UInt8 := if t = nev then neverL else Lib.decDigits (ownT t).toNat

theorem head_app {l : List UInt8} (h : l ≠ []) (r : List UInt8) : (l ++ r).head? = l.head? := by
  cases l with
  | nil => exact absurd rfl h
  | cons c l => rfl
theorem dig_of {n : Nat} (h : n < 10) : (UInt8.ofNat (48 + n)).toNat = 48 + n := by rw [UInt8.toNat_ofNat_of_lt']; show 48 + n < 256; omega
theorem dec_small {u : Nat} (h : u < 10) : Lib.decDigits u = [UInt8.ofNat (48 + u)] := by rw [Lib.decDigits, dif_pos h]
theorem dec_big {u : Nat} (h : ¬ u < 10) : Lib.decDigits u = Lib.decDigits (u / 10) ++ [UInt8.ofNat (48 + u % 10)] := by rw [Lib.decDigits, dif_neg h]
theorem dec_facts (u : Nat) : (Lib.decDigits u).all digB = true ∧ numF 0 (Lib.decDigits u) = u ∧ Lib.decDigits u ≠ [] ∧ (u ≠ 0 → (Lib.decDigits u).head? ≠ some 48) := by
  induction u using Nat.strongRecOn with
  | _ u ih =>
    by_cases h : u < 10
    · rw [dec_small h]
      have e := dig_of h
      refine ⟨?_, ?_, by simp, ?_⟩
      · simp only [List.all_cons, List.all_nil, Bool.and_true]
        exact digB_iff.2 ⟨by omega, by omega⟩
      · rw [numF_cons, numF_nil, e]; omega
      · intro h0 hh
        simp only [List.head?_cons, Option.some.injEq] at hh
        rw [hh] at e
        have : (48 : UInt8).toNat = 48 := rfl
        omega
    · obtain ⟨i1, i2, i3, i4⟩ := ih (u / 10) (by omega)
      rw [dec_big h]
      have e := dig_of (n := u % 10) (by omega)
      refine ⟨?_, ?_, by simp, ?_⟩
      · rw [List.all_append, i1]
        simp only [List.all_cons, List.all_nil, Bool.and_true, Bool.true_and]
        exact digB_iff.2 ⟨by omega, by omega⟩
      · rw [numF_snoc, i2, e]; omega
      · intro _
        rw [head_app i3]
        exact i4 (by omega)
theorem dec_plain (u : Nat) : plainD (Lib.decDigits u) = true := by
  obtain ⟨h1, h2, h3, h4⟩ := dec_facts u
  unfold plainD
  rw [h1]
  by_cases h : u = 0
  · subst h
    rw [dec_small (by decide)]; rfl
  · have h4 := h4 h
    cases hd : Lib.decDigits u with
    | nil => exact absurd hd h3
    | cons c l => rw [hd] at h4; simp at h4 ⊢; exact .inr h4
theorem dec_back : ∀ (n : Nat) (l : List UInt8), l.length = n → l ≠ [] → l.all digB = true → l.head? ≠ some 48 → 0 < numF 0 l ∧ Lib.decDigits (numF 0 l) = l
  | 0, l, hl, h0, _, _ => absurd (List.length_eq_zero_iff.1 hl) h0
  | n + 1, l, hl, _, ha, hh => by
    rcases List.eq_nil_or_concat l with rfl | ⟨r, c, rfl⟩
    · cases hl
    · simp only [List.concat_eq_append] at *
      rw [List.all_append] at ha
      simp only [Bool.and_eq_true, List.all_cons, List.all_nil, Bool.and_true] at ha
      obtain ⟨ha, hc⟩ := ha
      have hc := digB_iff.1 hc
      have e : UInt8.ofNat (48 + (c.toNat - 48)) = c := by
        rw [show 48 + (c.toNat - 48) = c.toNat by omega]; exact UInt8.ofNat_toNat
      by_cases hr : r = []
      · subst hr
        rw [List.nil_append] at hh ⊢
        rw [numF_cons, numF_nil]
        have hne : c.toNat ≠ 48 := fun e => hh (by rw [List.head?_cons]; exact congrArg some (UInt8.toNat_inj.1 e))
        refine ⟨by omega, ?_⟩
        rw [dec_small (by omega), Nat.zero_mul, Nat.zero_add, e]
      · rw [head_app hr] at hh
        obtain ⟨i1, i2⟩ := dec_back n r (by simpa using hl) hr ha hh
        rw [numF_snoc]
        refine ⟨by omega, ?_⟩
        rw [dec_big (by omega), show (numF 0 r * 10 + (c.toNat - 48)) / 10 = numF 0 r by omega, show (numF 0 r * 10 + (c.toNat - 48)) % 10 = c.toNat - 48 by omega, i2, e]
theorem plain_back {l : List UInt8} (h : plainD l = true) : Lib.decDigits (numF 0 l) = l := by
  unfold plainD at h
  simp only [Bool.and_eq_true, Bool.or_eq_true, beq_iff_eq] at h
  obtain ⟨ha, rfl | ⟨h1, h2⟩⟩ := h
  · rw [show numF 0 [48] = 0 from rfl, dec_small (by decide)]; rfl
  · refine (dec_back _ l rfl ?_ ha ?_).2
    · rintro rfl; simp at h1
    · intro e; rw [e] at h2; simp at h2
theorem never_not : plainD neverL = false := by decide
/-- A tick's text comes back as the tick. -/
theorem parse_text (t : Int) (h : i64 t) : parseT (textT t) = (ownT t, 0) := by
  unfold textT
  by_cases h1 : t = nev
  · subst h1; rfl
  · rw [if_neg h1]
    have h2 := dec_plain (ownT t).toNat
    have h3 := (dec_facts (ownT t).toNat).2.1
    have h4 := ownT_le h
    have h5 : ownT t < nev := by unfold ownT nev at *; unfold i64 at h; omega
    unfold parseT
    rw [if_neg (by intro e; rw [e, never_not] at h2; cases h2), if_pos h2, h3, if_neg (by omega), Int.toNat_of_nonneg h4.1]
/-- A text that is a tick is that tick's text. -/
theorem text_parse {l : List UInt8} (h : (parseT l).2 = 0) : textT (parseT l).1 = l := by
  unfold parseT at *
  by_cases h1 : l = neverL
  · rw [if_pos h1, h1]; rfl
  · rw [if_neg h1] at h ⊢
    by_cases h2 : plainD l = true
    · rw [if_pos h2] at h ⊢
      by_cases h3 : (numF 0 l : Int) ≥ nev
      · rw [if_pos h3] at h; cases h
      · rw [if_neg h3]
        unfold textT
        rw [if_neg (by simp only; omega), show (ownT (numF 0 l)).toNat = numF 0 l by unfold ownT; omega]
        exact plain_back h2
    · rw [if_neg h2] at h; cases h
theorem parse_i64 (l : List UInt8) : i64 (parseT l).1 := by
  unfold parseT i64
  split
  · unfold nev; simp
  · split
    · split
      · simp
      · rename_i h; unfold nev at h; simp only; omega
    · simp

/-! What strconv.ParseInt makes of digits. -/
theorem uint_digits : ∀ (l : List UInt8) (a : Nat), a ≤ 18446744073709551615 → l.all digB = true → Lib.parseUintM 18446744073709551615 a l = if numF a l ≤ 18446744073709551615 then .ok (numF a l) else .range
  | [], a, ha, _ => by rw [numF_nil, if_pos ha]; rfl
  | c :: l, a, ha, hd => by
    simp only [List.all_cons, Bool.and_eq_true] at hd
    have hc := digB_iff.1 hd.1
    have hg := numF_ge l (a * 10 + (c.toNat - 48))
    unfold Lib.parseUintM
    rw [if_pos hc, numF_cons]
    by_cases h1 : 1844674407370955162 ≤ a
    · rw [if_pos h1, if_neg (by omega)]
    · rw [if_neg h1]
      by_cases h2 : 18446744073709551615 < a * 10 + (c.toNat - 48)
      · rw [if_pos h2, if_neg (by omega)]
      · rw [if_neg h2]
        exact uint_digits l _ (by omega) hd.2
theorem int_digits {l : List UInt8} (h : plainD l = true) : Lib.parseIntB 64 l = if numF 0 l < 9223372036854775808 then .ok (numF 0 l : Int) else .range := by
  have ha : l.all digB = true := by unfold plainD at h; simp only [Bool.and_eq_true] at h; exact h.1
  have hne : l ≠ [] := by rintro rfl; simp [plainD] at h
  obtain ⟨c, r, rfl⟩ := List.exists_cons_of_ne_nil hne
  have hc := digB_iff.1 (by simp only [List.all_cons, Bool.and_eq_true] at ha; exact ha.1 : digB c = true)
  rw [Lib.parseIntB_plain 64 c r (by omega) (by omega)]
  have e : (2 : Nat) ^ 64 - 1 = 18446744073709551615 := by decide
  have e2 : (2 : Nat) ^ (64 - 1) = 9223372036854775808 := by decide
  unfold Lib.parseUintB
  rw [if_neg hne, e, e2, uint_digits _ 0 (by omega) ha]
  by_cases h1 : numF 0 (c :: r) < 9223372036854775808
  · rw [if_pos h1, if_pos (by omega)]
    simp only [Lib.signlessC]
    rw [if_neg (by omega)]
  · rw [if_neg h1]
    by_cases h2 : numF 0 (c :: r) ≤ 18446744073709551615
    · rw [if_pos h2]
      simp only [Lib.signlessC]
      rw [if_pos (by omega)]
    · rw [if_neg h2]; rfl
end Go.Proofs.YtmnkekepccdlcaaGreatDoor
