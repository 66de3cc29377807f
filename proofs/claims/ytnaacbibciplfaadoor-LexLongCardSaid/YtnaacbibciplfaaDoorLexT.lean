/-
  Words of a line, as plain lists of bytes: how a line is read, and that words that are joined are read as the same.
  Conditions: none; no program is named.
-/
import Derived.Test.YtnaacbibciplfaaDoorQuoteT
namespace Go.Proofs.YtnaacbibciplfaaDoor

/-- A word: its text, whether it stood in quotes, and where it begins. -/
structure Wd where
  text : List UInt8
  quoted : Bool
  place : Nat

/-- May a byte stand in a word that is not in quotes? -/
def plainB (b : UInt8) : Bool := decide (32 < b) && decide (b < 127) && !(b == 34) && !(b == 92)
def bareN (t : List UInt8) : Nat := (t.takeWhile plainB).length
/-- The first word, how many bytes it takes; of none, how far it goes on right, and what is wrong. -/
def oneW (t : List UInt8) : Option (List UInt8 × Bool) × Nat × Int :=
  if t.head? = some 34 then ((readT t).1.map (fun l => (l, true)), (readT t).2, if (readT t).1.isSome then 0 else if (readT t).2 = t.length then 3 else 2)
  else if bareN t = 0 then (none, 0, if t = [] then 3 else 2) else (some (t.take (bareN t), false), bareN t, 0)
/-- The words from a place on. -/
def wordsF : Nat → List UInt8 → Nat → Option (List Wd) × Nat × Int
  | 0, _, _ => (none, 0, 0)
  | f + 1, t, p =>
    match (oneW t).1 with
    | none => (none, p + (oneW t).2.1, (oneW t).2.2)
    | some (x, q) =>
      if t.drop (oneW t).2.1 = [] then (some [⟨x, q, p⟩], 0, 0)
      else if (t.drop (oneW t).2.1).head? = some 32 then
        ((wordsF f (t.drop ((oneW t).2.1 + 1)) (p + (oneW t).2.1 + 1)).1.map (⟨x, q, p⟩ :: ·), (wordsF f (t.drop ((oneW t).2.1 + 1)) (p + (oneW t).2.1 + 1)).2)
      else (none, p + (oneW t).2.1, 2)
def wordsL (t : List UInt8) (p : Nat) : Option (List Wd) × Nat × Int := wordsF (t.length + 1) t p
/-- A line's words. -/
def wordsT (t : List UInt8) : Option (List Wd) × Nat × Int := if 1200 < t.length then (none, 1200, 4) else if t = [] then (some [], 0, 0) else wordsL t 0

theorem bareN_le (t : List UInt8) : bareN t ≤ t.length := (List.takeWhile_sublist _).length_le
theorem oneW_le (t : List UInt8) : (oneW t).2.1 ≤ t.length := by
  unfold oneW
  split
  · exact readT_le t
  · split
    · exact Nat.zero_le _
    · exact bareN_le t

theorem wordsF_more : ∀ (f g : Nat) (t : List UInt8) (p : Nat), t.length < f → f ≤ g → wordsF g t p = wordsF f t p
  | 0, _, _, _, h, _ => by omega
  | f + 1, g, t, p, h, hg => by
    obtain ⟨g, rfl⟩ : ∃ g', g = g' + 1 := ⟨g - 1, by omega⟩
    unfold wordsF
    cases hb : (oneW t).1 with
    | none => rfl
    | some x =>
      obtain ⟨x, q⟩ := x
      simp only
      split
      · rfl
      · rename_i hne
        split
        · have h1 : t.length ≠ 0 := by
            intro e
            exact hne (by rw [List.eq_nil_of_length_eq_zero e]; simp)
          have := wordsF_more f g (t.drop ((oneW t).2.1 + 1)) (p + (oneW t).2.1 + 1) (by rw [List.length_drop]; omega) (by omega)
          rw [this]
        · rfl
theorem wordsL_none {t : List UInt8} (p : Nat) (h : (oneW t).1 = none) : wordsL t p = (none, p + (oneW t).2.1, (oneW t).2.2) := by
  unfold wordsL wordsF
  rw [h]
theorem wordsL_end {t x : List UInt8} {q : Bool} (p : Nat) (h : (oneW t).1 = some (x, q)) (h1 : t.drop (oneW t).2.1 = []) : wordsL t p = (some [⟨x, q, p⟩], 0, 0) := by
  unfold wordsL wordsF
  rw [h]
  simp only [if_pos h1]
theorem wordsL_bad {t x : List UInt8} {q : Bool} (p : Nat) (h : (oneW t).1 = some (x, q)) (h1 : t.drop (oneW t).2.1 ≠ []) (h2 : (t.drop (oneW t).2.1).head? ≠ some 32) : wordsL t p = (none, p + (oneW t).2.1, 2) := by
  unfold wordsL wordsF
  rw [h]
  simp only [if_neg h1, if_neg h2]
theorem wordsL_go {t x : List UInt8} {q : Bool} (p : Nat) (h : (oneW t).1 = some (x, q)) (h1 : t.drop (oneW t).2.1 ≠ []) (h2 : (t.drop (oneW t).2.1).head? = some 32) :
    wordsL t p = ((wordsL (t.drop ((oneW t).2.1 + 1)) (p + (oneW t).2.1 + 1)).1.map (⟨x, q, p⟩ :: ·), (wordsL (t.drop ((oneW t).2.1 + 1)) (p + (oneW t).2.1 + 1)).2) := by
  have h3 : t.length ≠ 0 := by
    intro e
    exact h1 (by rw [List.eq_nil_of_length_eq_zero e]; simp)
  have := wordsF_more ((t.drop ((oneW t).2.1 + 1)).length + 1) t.length (t.drop ((oneW t).2.1 + 1)) (p + (oneW t).2.1 + 1) (by omega) (by rw [List.length_drop]; omega)
  conv => lhs; unfold wordsL wordsF
  rw [h]
  simp only [if_neg h1, if_pos h2, this]
  rfl

/-! Words that are joined. -/
def wordB (x : Wd) : List UInt8 := if x.quoted then quoteT x.text else x.text
def joinT : List Wd → List UInt8
  | [] => []
  | [x] => wordB x
  | x :: y :: l => wordB x ++ 32 :: joinT (y :: l)
/-- A word as one is read: if it is not in quotes it is of plain bytes, and of one at least. -/
def goodW (x : Wd) : Prop := x.quoted = false → x.text ≠ [] ∧ ∀ b ∈ x.text, plainB b = true

theorem oneW_good {t x : List UInt8} {q : Bool} (p : Nat) (h : (oneW t).1 = some (x, q)) : goodW ⟨x, q, p⟩ := by
  unfold oneW at h
  intro hq
  simp only at hq
  subst hq
  split at h
  · cases hr : (readT t).1 with
    | none => simp [hr] at h
    | some l => simp [hr] at h
  · split at h
    · cases h
    · rename_i h1 h2
      simp only [Option.some.injEq, Prod.mk.injEq, and_true] at h
      subst h
      have e : t.take (bareN t) = t.takeWhile plainB := by
        unfold bareN
        conv => lhs; rw [← List.takeWhile_append_dropWhile (p := plainB) (l := t)]
        rw [List.takeWhile_append_dropWhile]
        exact (List.prefix_iff_eq_take.1 (List.takeWhile_prefix (p := plainB) (l := t))).symm
      rw [e]
      refine ⟨?_, fun b hb => ?_⟩
      · intro e2
        exact h2 (by unfold bareN; rw [show t.takeWhile plainB = [] from e2]; rfl)
      · exact List.all_eq_true.1 (List.all_takeWhile (p := plainB) (l := t)) b hb
theorem wordsF_good : ∀ (f : Nat) (t : List UInt8) (p : Nat) (l : List Wd), (wordsF f t p).1 = some l → l ≠ [] ∧ ∀ x ∈ l, goodW x
  | 0, _, _, _, h => by cases h
  | f + 1, t, p, l, h => by
    unfold wordsF at h
    cases hb : (oneW t).1 with
    | none => rw [hb] at h; cases h
    | some x =>
      obtain ⟨x, q⟩ := x
      rw [hb] at h
      have hg := oneW_good p hb
      simp only at h
      split at h
      · simp only [Option.some.injEq] at h
        subst h
        exact ⟨by simp, fun y hy => by simp at hy; subst hy; exact hg⟩
      · split at h
        · obtain ⟨l', hl', rfl⟩ := Option.map_eq_some_iff.1 h
          have := wordsF_good f _ _ l' hl'
          refine ⟨by simp, fun y hy => ?_⟩
          rcases List.mem_cons.1 hy with rfl | hy
          · exact hg
          · exact this.2 y hy
        · cases h

theorem takeWhile_plain {x r : List UInt8} (hx : ∀ b ∈ x, plainB b = true) (hr : r = [] ∨ r.head? = some 32) : (x ++ r).takeWhile plainB = x := by
  rw [List.takeWhile_append_of_pos hx]
  have : r.takeWhile plainB = [] := by
    rcases hr with rfl | hr
    · rfl
    · cases r with
      | nil => rfl
      | cons a r =>
        simp at hr
        subst hr
        rfl
  rw [this, List.append_nil]
/-- The first word of words that are joined. -/
theorem oneW_join {x : Wd} (hg : goodW x) {r : List UInt8} (hr : r = [] ∨ r.head? = some 32) : oneW (wordB x ++ r) = (some (x.text, x.quoted), (wordB x).length, 0) := by
  obtain ⟨tx, q, p⟩ := x
  cases q with
  | true =>
    have h1 := read_quote tx r
    have h2 : (quoteT tx ++ r).head? = some 34 := by simp [quoteT]
    simp only [oneW, wordB, if_true, if_pos h2, h1]
    simp
  | false =>
    obtain ⟨h1, h2⟩ := hg rfl
    simp only at h1 h2
    have h3 : (tx ++ r).head? ≠ some 34 := by
      cases tx with
      | nil => exact absurd rfl h1
      | cons a tx =>
        have := h2 a (by simp)
        intro e
        simp at e
        subst e
        exact absurd this (by decide)
    have h4 : bareN (tx ++ r) = tx.length := by unfold bareN; rw [takeWhile_plain h2 hr]
    have h5 : tx.length ≠ 0 := fun e => h1 (List.eq_nil_of_length_eq_zero e)
    simp only [oneW, wordB, Bool.false_eq_true, if_false, if_neg h3, h4, if_neg h5, List.take_left']
/-- Words that are joined are read as the same. -/
theorem words_join : ∀ (l : List Wd) (p : Nat), l ≠ [] → (∀ x ∈ l, goodW x) → ∃ m, wordsL (joinT l) p = (some m, 0, 0) ∧ m.map (fun x => (x.text, x.quoted)) = l.map (fun x => (x.text, x.quoted))
  | [], _, h, _ => absurd rfl h
  | [x], p, _, hg => by
    have h1 := oneW_join (hg x (by simp)) (r := []) (.inl rfl)
    rw [List.append_nil] at h1
    refine ⟨[⟨x.text, x.quoted, p⟩], ?_, rfl⟩
    show wordsL (wordB x) p = _
    exact wordsL_end p (by rw [h1]) (by rw [h1]; simp)
  | x :: y :: l, p, _, hg => by
    have h1 := oneW_join (hg x (by simp)) (r := 32 :: joinT (y :: l)) (.inr rfl)
    obtain ⟨m, hm, hmm⟩ := words_join (y :: l) (p + (wordB x).length + 1) (by simp) (fun z hz => hg z (by simp at hz ⊢; exact .inr hz))
    refine ⟨⟨x.text, x.quoted, p⟩ :: m, ?_, by rw [List.map_cons, hmm]; rfl⟩
    show wordsL (wordB x ++ 32 :: joinT (y :: l)) p = _
    have e1 : (wordB x ++ 32 :: joinT (y :: l)).drop (wordB x).length = 32 :: joinT (y :: l) := List.drop_left' rfl
    have e2 : (wordB x ++ 32 :: joinT (y :: l)).drop ((wordB x).length + 1) = joinT (y :: l) := by
      rw [← List.drop_drop, e1]; rfl
    rw [wordsL_go p (by rw [h1]) (by rw [h1, e1]; simp) (by rw [h1, e1]; rfl), h1, e2, hm]
    rfl
end Go.Proofs.YtnaacbibciplfaaDoor
