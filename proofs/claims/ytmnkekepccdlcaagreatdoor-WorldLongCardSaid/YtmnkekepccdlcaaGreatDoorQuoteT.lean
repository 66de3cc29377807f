/-
  Texts in quotes, as plain lists of bytes: how they are written, how they are read, and that they come back.
  Conditions: none; no program is named.
-/

namespace Go.Proofs.YtmnkekepccdlcaaGreatDoor
set_option linter.unusedVariables false
set_option linter.unusedSimpArgs false

/-- A digit of base 16. -/
def hexD (n : Nat) : UInt8 := if n < 10 then UInt8.ofNat (48 + n) else UInt8.ofNat (87 + n)
/-- What a digit counts. -/
def hv (b : UInt8) : Option Nat := if 48 ≤ b ∧ b ≤ 57 then some (b.toNat - 48) else if 97 ≤ b ∧ b ≤ 102 then some (b.toNat - 87) else none
/-- A byte's sign. -/
def sgn (b : UInt8) : List UInt8 :=
  if b = 34 ∨ b = 92 then [92, b] else if b = 10 then [92, 110] else if b = 13 then [92, 114] else if b = 9 then [92, 116]
  else if b < 32 ∨ 126 < b then [92, 120, hexD (b.toNat / 16), hexD (b.toNat % 16)] else [b]
/-- A text in quotes. -/
def quoteT (l : List UInt8) : List UInt8 := 34 :: (l.flatMap sgn ++ [34])

/-- The byte of two digits, and how far they go on right. -/
def hexL : List UInt8 → Option UInt8 × Nat
  | [] => (none, 0)
  | e :: t => match hv e with
    | none => (none, 0)
    | some x => match t with
      | [] => (none, 1)
      | f :: _ => match hv f with
        | none => (none, 1)
        | some y => (some (UInt8.ofNat (16 * x + y)), 2)
/-- The byte of what stands behind a backslash. -/
def escL : List UInt8 → Option UInt8 × Nat
  | [] => (none, 0)
  | d :: t =>
    if d = 34 ∨ d = 92 then (some d, 1) else if d = 110 then (some 10, 1) else if d = 114 then (some 13, 1) else if d = 116 then (some 9, 1)
    else if d = 120 then ((hexL t).1, 1 + (hexL t).2) else (none, 0)
/-- The byte of the first sign; or how many bytes some sign begins with. -/
def oneL : List UInt8 → Option UInt8 × Nat
  | [] => (none, 0)
  | c :: t => if c = 92 then ((escL t).1, 1 + (escL t).2) else if c < 32 ∨ 126 < c ∨ c = 34 then (none, 0) else (some c, 1)
/-- What stands behind the first quote. -/
def rdF : Nat → List UInt8 → Option (List UInt8) × Nat
  | 0, _ => (none, 0)
  | f + 1, t => if t.head? = some 34 then (some [], 1) else
    match (oneL t).1 with
    | none => (none, (oneL t).2)
    | some b => ((rdF f (t.drop (oneL t).2)).1.map (b :: ·), (oneL t).2 + (rdF f (t.drop (oneL t).2)).2)
def rdL (t : List UInt8) : Option (List UInt8) × Nat := rdF (t.length + 1) t
/-- A text in quotes, read. -/
def readT : List UInt8 → Option (List UInt8) × Nat
  | [] => (none, 0)
  | c :: t => if c = 34 then ((rdL t).1, 1 + (rdL t).2) else (none, 0)

theorem hexL_le (t : List UInt8) : (hexL t).2 ≤ t.length ∧ (hexL t).2 ≤ 2 ∧ ((hexL t).1 ≠ none → (hexL t).2 = 2) := by
  match t with
  | [] => simp [hexL]
  | [e] => cases he : hv e <;> simp [hexL, he]
  | e :: f :: t =>
    cases he : hv e with
    | none => simp [hexL, he]
    | some x => cases hf : hv f <;> simp [hexL, he, hf]
theorem escL_le (t : List UInt8) : (escL t).2 ≤ t.length ∧ ((escL t).1 ≠ none → 1 ≤ (escL t).2) := by
  match t with
  | [] => simp [escL]
  | d :: t =>
    have := hexL_le t
    simp only [escL]
    repeat' split
    all_goals simp
    omega
theorem oneL_le (t : List UInt8) : (oneL t).2 ≤ t.length ∧ ((oneL t).1 ≠ none → 1 ≤ (oneL t).2) := by
  match t with
  | [] => simp [oneL]
  | d :: t =>
    have := escL_le t
    simp only [oneL]
    repeat' split
    all_goals simp
    omega
theorem oneL_some {t : List UInt8} {b : UInt8} (h : (oneL t).1 = some b) : 1 ≤ (oneL t).2 := (oneL_le t).2 (by rw [h]; simp)

theorem rdF_more : ∀ (f g : Nat) (t : List UInt8), t.length < f → f ≤ g → rdF g t = rdF f t
  | 0, _, _, h, _ => by omega
  | f + 1, g, t, h, hg => by
    obtain ⟨g, rfl⟩ : ∃ g', g = g' + 1 := ⟨g - 1, by omega⟩
    unfold rdF
    split
    · rfl
    · cases hb : (oneL t).1 with
      | none => rfl
      | some b =>
        have h1 := oneL_some hb
        have h2 := (oneL_le t).1
        have := rdF_more f g (t.drop (oneL t).2) (by rw [List.length_drop]; omega) (by omega)
        simp only [this]
/-- One step of the reading. -/
theorem rdL_step (t : List UInt8) : rdL t = if t.head? = some 34 then (some [], 1) else
    match (oneL t).1 with
    | none => (none, (oneL t).2)
    | some b => ((rdL (t.drop (oneL t).2)).1.map (b :: ·), (oneL t).2 + (rdL (t.drop (oneL t).2)).2) := by
  conv => lhs; unfold rdL rdF
  split
  · rfl
  · cases hb : (oneL t).1 with
    | none => rfl
    | some b =>
      have h1 := oneL_some hb
      have h2 := (oneL_le t).1
      have := rdF_more ((t.drop (oneL t).2).length + 1) t.length (t.drop (oneL t).2) (by omega) (by rw [List.length_drop]; omega)
      unfold rdL
      simp only [this]
theorem rdL_end {t : List UInt8} (h : t.head? = some 34) : rdL t = (some [], 1) := by rw [rdL_step, if_pos h]
theorem rdL_stop {t : List UInt8} (h : t.head? ≠ some 34) (h1 : (oneL t).1 = none) : rdL t = (none, (oneL t).2) := by rw [rdL_step, if_neg h, h1]
theorem rdL_go {t : List UInt8} {b : UInt8} (h : t.head? ≠ some 34) (h1 : (oneL t).1 = some b) : rdL t = ((rdL (t.drop (oneL t).2)).1.map (b :: ·), (oneL t).2 + (rdL (t.drop (oneL t).2)).2) := by rw [rdL_step, if_neg h, h1]

/-- Whatever is true of a text that ends, stops or goes on, is true of each. -/
theorem rd_ind {Q : List UInt8 → Prop} (h1 : ∀ t, t.head? = some 34 → Q t) (h2 : ∀ t, t.head? ≠ some 34 → (oneL t).1 = none → Q t)
    (h3 : ∀ t b, t.head? ≠ some 34 → (oneL t).1 = some b → Q (t.drop (oneL t).2) → Q t) : ∀ (n : Nat) (t : List UInt8), t.length ≤ n → Q t := by
  intro n
  induction n with
  | zero =>
    intro t h
    obtain rfl := List.eq_nil_of_length_eq_zero (by omega : t.length = 0)
    exact h2 [] (by simp) rfl
  | succ n ih =>
    intro t h
    by_cases c : t.head? = some 34
    · exact h1 t c
    · cases hb : (oneL t).1 with
      | none => exact h2 t c hb
      | some b => exact h3 t b c hb (ih _ (by have := oneL_some hb; have := (oneL_le t).1; rw [List.length_drop]; omega))

theorem rdL_le (t : List UInt8) : (rdL t).2 ≤ t.length := by
  refine rd_ind (Q := fun t => (rdL t).2 ≤ t.length) ?_ ?_ ?_ t.length t (Nat.le_refl _)
  · intro t h
    rw [rdL_end h]
    cases t with
    | nil => simp at h
    | cons _ _ => simp
  · intro t h h1
    rw [rdL_stop h h1]
    exact (oneL_le t).1
  · intro t b h h1 h2
    rw [rdL_go h h1]
    have := (oneL_le t).1
    rw [List.length_drop] at h2
    simp only
    omega
theorem readT_le (s : List UInt8) : (readT s).2 ≤ s.length := by
  match s with
  | [] => simp [readT]
  | c :: t =>
    have := rdL_le t
    by_cases h : c = 34
    · simp only [readT, if_pos h, List.length_cons]; omega
    · simp only [readT, if_neg h]; omega

/-! What is written comes back. -/
theorem hv_hexD : ∀ n, n < 16 → hv (hexD n) = some n := by decide
theorem one_sgn (b : UInt8) (t : List UInt8) : oneL (sgn b ++ t) = (some b, (sgn b).length) ∧ (sgn b ++ t).head? ≠ some 34 := by
  unfold sgn
  by_cases h1 : b = 34 ∨ b = 92
  · rw [if_pos h1]; simp [oneL, escL, h1]
  · rw [if_neg h1]
    by_cases h2 : b = 10
    · subst h2; simp [oneL, escL]
    · rw [if_neg h2]
      by_cases h3 : b = 13
      · subst h3; simp [oneL, escL]
      · rw [if_neg h3]
        by_cases h4 : b = 9
        · subst h4; simp [oneL, escL]
        · rw [if_neg h4]
          by_cases h5 : b < 32 ∨ 126 < b
          · rw [if_pos h5]
            have hb := b.toNat_lt
            have e1 : hv (hexD (b.toNat / 16)) = some (b.toNat / 16) := hv_hexD _ (by omega)
            have e2 : hv (hexD (b.toNat % 16)) = some (b.toNat % 16) := hv_hexD _ (by omega)
            have e3 : UInt8.ofNat (16 * (b.toNat / 16) + b.toNat % 16) = b := by
              rw [Nat.div_add_mod]; exact UInt8.ofNat_toNat
            simp [oneL, escL, hexL, e1, e2, e3]
          · rw [if_neg h5]
            have h6 : ¬ b = 92 := fun e => h1 (.inr e)
            have h7 : ¬ (b < 32 ∨ 126 < b ∨ b = 34) := fun e => by
              rcases e with e | e | e
              · exact h5 (.inl e)
              · exact h5 (.inr e)
              · exact h1 (.inl e)
            simp only [List.cons_append, List.nil_append, oneL, if_neg h6, if_neg h7]
            refine ⟨rfl, fun e => h1 (.inl ?_)⟩
            simpa using e
theorem rd_quote : ∀ (l behind : List UInt8), rdL (l.flatMap sgn ++ 34 :: behind) = (some l, (l.flatMap sgn).length + 1)
  | [], behind => by rw [rdL_end (by simp)]; simp
  | b :: l, behind => by
    have h := one_sgn b (l.flatMap sgn ++ 34 :: behind)
    have e : (b :: l).flatMap sgn ++ 34 :: behind = sgn b ++ (l.flatMap sgn ++ 34 :: behind) := by simp
    rw [e, rdL_go h.2 (by rw [h.1]), h.1]
    simp only [List.drop_left, rd_quote l behind]
    simp
    omega
theorem read_quote (l behind : List UInt8) : readT (quoteT l ++ behind) = (some l, (quoteT l).length) := by
  have h := rd_quote l behind
  have e : quoteT l ++ behind = 34 :: (l.flatMap sgn ++ 34 :: behind) := by simp [quoteT]
  rw [e]
  simp only [readT, if_true, h]
  simp [quoteT]
  omega

/-! Where the reading stops. -/
theorem hexL_pre {t : List UInt8} {n : Nat} (h : hexL t = (none, n)) : hexL (t.take n) = (none, n) ∧ (n < t.length → ∀ x, hexL (t.take (n + 1) ++ x) = (none, n)) := by
  match t with
  | [] => simp [hexL] at h; subst h; simp [hexL]
  | e :: t =>
    cases he : hv e with
    | none => simp [hexL, he] at h; subst h; simp [hexL, he]
    | some x =>
      match t with
      | [] => simp [hexL, he] at h; subst h; simp [hexL, he]
      | f :: t =>
        cases hf : hv f with
        | none => simp [hexL, he, hf] at h; subst h; simp [hexL, he, hf]
        | some y => simp [hexL, he, hf] at h
theorem hexL_yes {t : List UInt8} {b : UInt8} {n : Nat} (h : hexL t = (some b, n)) : ∀ x, hexL (t.take n ++ x) = (some b, n) := by
  match t with
  | [] => simp [hexL] at h
  | e :: t =>
    cases he : hv e with
    | none => simp [hexL, he] at h
    | some x =>
      match t with
      | [] => simp [hexL, he] at h
      | f :: t =>
        cases hf : hv f with
        | none => simp [hexL, he, hf] at h
        | some y =>
          simp [hexL, he, hf] at h
          obtain ⟨rfl, rfl⟩ := h
          simp [hexL, he, hf]
theorem escL_pre {t : List UInt8} {n : Nat} (h : escL t = (none, n)) : escL (t.take n) = (none, n) ∧ (n < t.length → ∀ x, escL (t.take (n + 1) ++ x) = (none, n)) := by
  match t with
  | [] => simp [escL] at h; subst h; simp [escL]
  | d :: t =>
    simp only [escL] at h
    by_cases h1 : d = 34 ∨ d = 92
    · simp [if_pos h1] at h
    · rw [if_neg h1] at h
      by_cases h2 : d = 110
      · simp [h2] at h
      · rw [if_neg h2] at h
        by_cases h3 : d = 114
        · simp [h3] at h
        · rw [if_neg h3] at h
          by_cases h4 : d = 116
          · simp [h4] at h
          · rw [if_neg h4] at h
            by_cases h5 : d = 120
            · rw [if_pos h5] at h
              have h6 : hexL t = (none, (hexL t).2) := by
                have := congrArg Prod.fst h
                exact Prod.ext this rfl
              have h7 : 1 + (hexL t).2 = n := congrArg Prod.snd h
              have hp := hexL_pre h6
              generalize (hexL t).2 = m at *
              obtain rfl : n = m + 1 := by omega
              refine ⟨?_, fun hn x => ?_⟩
              · simp only [List.take_succ_cons, escL, if_neg h1, if_neg h2, if_neg h3, if_neg h4, if_pos h5, hp.1]
                rw [Nat.add_comm]
              · have := hp.2 (by simpa using hn) x
                simp only [List.take_succ_cons, List.cons_append, escL, if_neg h1, if_neg h2, if_neg h3, if_neg h4, if_pos h5, this]
                rw [Nat.add_comm]
            · rw [if_neg h5] at h
              obtain rfl : 0 = n := congrArg Prod.snd h
              refine ⟨by simp [escL], fun _ x => ?_⟩
              simp only [List.take_succ_cons, List.take_zero, List.cons_append, List.nil_append, escL, if_neg h1, if_neg h2, if_neg h3, if_neg h4, if_neg h5]
theorem escL_yes {t : List UInt8} {b : UInt8} {n : Nat} (h : escL t = (some b, n)) : ∀ x, escL (t.take n ++ x) = (some b, n) := by
  match t with
  | [] => simp [escL] at h
  | d :: t =>
    intro x
    have hn : ∃ m, n = m + 1 := ⟨n - 1, by have := (escL_le (d :: t)).2 (by rw [h]; simp); rw [h] at this; simp only at this; omega⟩
    obtain ⟨m, rfl⟩ := hn
    simp only [escL] at h
    simp only [List.take_succ_cons, List.cons_append, escL]
    by_cases h1 : d = 34 ∨ d = 92
    · simpa only [if_pos h1] using h
    · rw [if_neg h1] at h ⊢
      by_cases h2 : d = 110
      · simpa only [if_pos h2] using h
      · rw [if_neg h2] at h ⊢
        by_cases h3 : d = 114
        · simpa only [if_pos h3] using h
        · rw [if_neg h3] at h ⊢
          by_cases h4 : d = 116
          · simpa only [if_pos h4] using h
          · rw [if_neg h4] at h ⊢
            by_cases h5 : d = 120
            · rw [if_pos h5] at h ⊢
              have h7 : 1 + (hexL t).2 = m + 1 := congrArg Prod.snd h
              have h6 : hexL t = (some b, m) := by
                have := congrArg Prod.fst h
                exact Prod.ext this (by simp only; omega)
              rw [hexL_yes h6 x, Nat.add_comm]
            · rw [if_neg h5] at h
              cases h
theorem oneL_pre {t : List UInt8} {n : Nat} (h : oneL t = (none, n)) : oneL (t.take n) = (none, n) ∧ (n < t.length → ∀ x, oneL (t.take (n + 1) ++ x) = (none, n)) := by
  match t with
  | [] => simp [oneL] at h; subst h; simp [oneL]
  | c :: t =>
    simp only [oneL] at h
    by_cases h5 : c = 92
    · rw [if_pos h5] at h
      have h6 : escL t = (none, (escL t).2) := by
        have := congrArg Prod.fst h
        exact Prod.ext this rfl
      have h7 : 1 + (escL t).2 = n := congrArg Prod.snd h
      have hp := escL_pre h6
      generalize (escL t).2 = m at *
      obtain rfl : n = m + 1 := by omega
      refine ⟨?_, fun hn x => ?_⟩
      · simp only [List.take_succ_cons, oneL, if_pos h5, hp.1]
        rw [Nat.add_comm]
      · have := hp.2 (by simpa using hn) x
        simp only [List.take_succ_cons, List.cons_append, oneL, if_pos h5, this]
        rw [Nat.add_comm]
    · rw [if_neg h5] at h
      by_cases h6 : c < 32 ∨ 126 < c ∨ c = 34
      · rw [if_pos h6] at h
        obtain rfl : 0 = n := congrArg Prod.snd h
        refine ⟨by simp [oneL], fun _ x => ?_⟩
        simp only [List.take_succ_cons, List.take_zero, List.cons_append, List.nil_append, oneL, if_neg h5, if_pos h6]
      · rw [if_neg h6] at h
        cases h
theorem oneL_yes {t : List UInt8} {b : UInt8} {n : Nat} (h : oneL t = (some b, n)) : ∀ x, oneL (t.take n ++ x) = (some b, n) := by
  match t with
  | [] => simp [oneL] at h
  | c :: t =>
    intro x
    have hn : ∃ m, n = m + 1 := ⟨n - 1, by have := (oneL_le (c :: t)).2 (by rw [h]; simp); rw [h] at this; simp only at this; omega⟩
    obtain ⟨m, rfl⟩ := hn
    simp only [oneL] at h
    simp only [List.take_succ_cons, List.cons_append, oneL]
    by_cases h5 : c = 92
    · rw [if_pos h5] at h ⊢
      have h7 : 1 + (escL t).2 = m + 1 := congrArg Prod.snd h
      have h6 : escL t = (some b, m) := by
        have := congrArg Prod.fst h
        exact Prod.ext this (by simp only; omega)
      rw [escL_yes h6 x, Nat.add_comm]
    · rw [if_neg h5] at h ⊢
      exact h

theorem head_take {t : List UInt8} {n : Nat} (hn : 1 ≤ n) (x : List UInt8) : (t.take n ++ x).head? = if t = [] then x.head? else t.head? := by
  obtain ⟨m, rfl⟩ : ∃ m, n = m + 1 := ⟨n - 1, by omega⟩
  cases t <;> simp
/-- What is read where the reading stops: what stands ahead only ends too soon; with the next byte nothing goes on. -/
theorem rdL_pre (t : List UInt8) : (rdL t).1 = none → rdL (t.take (rdL t).2) = (none, (rdL t).2) ∧ ((rdL t).2 < t.length → ∀ x, rdL (t.take ((rdL t).2 + 1) ++ x) = (none, (rdL t).2)) := by
  refine rd_ind (Q := fun t => (rdL t).1 = none → rdL (t.take (rdL t).2) = (none, (rdL t).2) ∧ ((rdL t).2 < t.length → ∀ x, rdL (t.take ((rdL t).2 + 1) ++ x) = (none, (rdL t).2))) ?_ ?_ ?_ t.length t (Nat.le_refl _)
  · intro t h h0
    rw [rdL_end h] at h0
    cases h0
  · intro t h h1 _
    rw [rdL_stop h h1]
    have h2 : oneL t = (none, (oneL t).2) := Prod.ext h1 rfl
    have hp := oneL_pre h2
    generalize (oneL t).2 = n at *
    refine ⟨?_, fun hn x => ?_⟩
    · have hh : (t.take n).head? ≠ some 34 := by
        cases n with
        | zero => simp
        | succ n => cases t with
          | nil => simp
          | cons a t => simpa using h
      rw [rdL_stop hh (by rw [hp.1]), hp.1]
    · have hq := hp.2 hn x
      have hh : (t.take (n + 1) ++ x).head? ≠ some 34 := by
        rw [head_take (by omega)]
        cases t with
        | nil => simp at hn
        | cons a t => simpa using h
      rw [rdL_stop hh (by rw [hq]), hq]
  · intro t b h h1 ih h0
    have h2 : oneL t = (some b, (oneL t).2) := Prod.ext h1 rfl
    have hy := oneL_yes h2
    have hk1 := oneL_some h1
    have hk2 := (oneL_le t).1
    rw [rdL_go h h1] at h0 ⊢
    generalize (oneL t).2 = k at *
    have h3 : (rdL (t.drop k)).1 = none := by simpa using h0
    obtain ⟨i1, i2⟩ := ih h3
    generalize rdL (t.drop k) = r at *
    obtain ⟨r1, r2⟩ := r
    simp only at h3 i1 i2 ⊢
    subst h3
    have tk : ∀ j, t.take (k + j) = t.take k ++ (t.drop k).take j := fun j => List.take_add
    have hl : (t.take k).length = k := by rw [List.length_take]; omega
    refine ⟨?_, fun hn x => ?_⟩
    · have hq := hy ((t.drop k).take r2)
      have hh : (t.take k ++ (t.drop k).take r2).head? ≠ some 34 := by
        rw [head_take hk1]
        cases t with
        | nil => simp at hk2; omega
        | cons a t => simpa using h
      rw [tk, rdL_go hh (by rw [hq]), hq]
      simp only [List.drop_left' hl, i1]
      rfl
    · have hq := hy ((t.drop k).take (r2 + 1) ++ x)
      have hh : (t.take k ++ ((t.drop k).take (r2 + 1) ++ x)).head? ≠ some 34 := by
        rw [head_take hk1]
        cases t with
        | nil => simp at hk2; omega
        | cons a t => simpa using h
      rw [Nat.add_assoc, tk, List.append_assoc, rdL_go hh (by rw [hq]), hq]
      simp only [List.drop_left' hl, i2 (by rw [List.length_drop]; omega) x]
      rfl
theorem readT_pre (s : List UInt8) (h : (readT s).1 = none) : readT (s.take (readT s).2) = (none, (readT s).2) ∧ ((readT s).2 < s.length → ∀ x, readT (s.take ((readT s).2 + 1) ++ x) = (none, (readT s).2)) := by
  match s with
  | [] => simp [readT]
  | c :: t =>
    by_cases h1 : c = 34
    · simp only [readT, if_pos h1] at h ⊢
      have hp := rdL_pre t h
      generalize (rdL t).2 = n at *
      rw [Nat.add_comm 1 n]
      refine ⟨?_, fun hn x => ?_⟩
      · simp only [List.take_succ_cons, if_pos h1, hp.1]
        rw [Nat.add_comm]
      · have := hp.2 (by simpa using hn) x
        simp only [List.take_succ_cons, List.cons_append, if_pos h1, this]
        rw [Nat.add_comm]
    · simp only [readT, if_neg h1]
      simp [h1]
end Go.Proofs.YtmnkekepccdlcaaGreatDoor
