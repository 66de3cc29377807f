/-
  What is read of a line, as plain words, and that a good event comes back from its line.
  Conditions: none; no program is named.
-/
import Derived.Test.YtmnkekepccdlcaaGreatDoorLogT
import Derived.Lib.AtoiAllCases
import Derived.Lib.SplitLaws
namespace Go.Proofs.YtmnkekepccdlcaaGreatDoor
set_option linter.unusedVariables false
set_option linter.unusedSimpArgs false

/-- What strconv.Atoi gives beside an error, or without one. -/
def numT (s : List UInt8) : Int := match Lib.atoiAll s with
  | .ok v => v
  | .range => Lib.atoiSat s
  | _ => 0
def atW (w : List (List UInt8)) (i : Nat) : List UInt8 := (w[i]?).getD []
def idxF (x : List UInt8) : List (List UInt8) → Int → Int
  | [], _ => -1
  | y :: r, i => if x = y then i else idxF x r (i + 1)
/-- What a whole text in quotes is; nothing: it is none. -/
def wholeL (l : List UInt8) : List UInt8 := match (readT l).1 with
  | some t => if (readT l).2 < l.length then [] else t
  | none => []
def wRead : List UInt8 := [114, 101, 97, 100]
def wWrite : List UInt8 := [119, 114, 105, 116, 101]
def wRound : List UInt8 := [114, 111, 117, 110, 100]
def wDrain : List UInt8 := [100, 114, 97, 105, 110]
def wOpen : List UInt8 := [111, 112, 101, 110]
def wRefuse : List UInt8 := [114, 101, 102, 117, 115, 101]
def wEof : List UInt8 := [101, 111, 102]
def wStep : List UInt8 := [115, 116, 101, 112]
def wStop : List UInt8 := [115, 116, 111, 112]
/-- The words of a line: what is in quotes is the third one. -/
def splitT (s : List UInt8) : List (List UInt8) :=
  let l := Lib.splitN s [32] 3
  if l.length < 3 ∨ atW l 0 = wRead ∨ atW l 0 = wWrite then l else l.take 2 ++ Lib.split (atW l 2) [32]
/-- The event of some words. -/
def someT (w : List (List UInt8)) : Ev :=
  let x : Ev := { ev0 with id := numT (atW w 1) }
  if atW w 0 = wRound then { ev0 with kind := 1, tick := (parseT (atW w 1)).1 }
  else if atW w 0 = wDrain then { ev0 with kind := 7, tick := (parseT (atW w 1)).1 }
  else if atW w 0 = wOpen then { x with kind := 2, n := numT (atW w 2) }
  else if atW w 0 = wRefuse then { x with kind := 3, n := numT (atW w 2), err := numT (atW w 3) }
  else if atW w 0 = wRead then { x with kind := 4, bytes := ⟨(wholeL (atW w 2)).toArray⟩, n := ((wholeL (atW w 2)).length : Int) }
  else if atW w 0 = wWrite then { x with kind := 6, bytes := ⟨(wholeL (atW w 2)).toArray⟩, n := ((wholeL (atW w 2)).length : Int) }
  else if atW w 0 = wEof then { x with kind := 5 }
  else if atW w 0 = wStep then { x with kind := 8, sT := (parseT (atW w 2)).1, sA := numT (atW w 3), sW := idxF (atW w 4) whatsL 0, sR := numT (atW w 5), sN := numT (atW w 6), sS := idxF (atW w 7) statsL 0 }
  else if atW w 0 = wStop then { x with kind := 9 }
  else x

/-! Numbers come back. -/
theorem uint10_digits : ∀ (l : List UInt8) (a : Nat), numF a l < 18446744073709551616 → l.all digB = true → Lib.parseUint10 a l = .ok (numF a l)
  | [], a, _, _ => rfl
  | c :: l, a, ha, hd => by
    simp only [List.all_cons, Bool.and_eq_true] at hd
    have hc := digB_iff.1 hd.1
    have hg := numF_ge l (a * 10 + (c.toNat - 48))
    rw [numF_cons] at ha ⊢
    unfold Lib.parseUint10
    rw [if_pos hc, if_neg (by omega), if_neg (by omega)]
    exact uint10_digits l _ ha hd.2
theorem mag_digits (u : Nat) (h : u < 18446744073709551616) : Lib.parseMag (Lib.decDigits u) = .ok u := by
  obtain ⟨h1, h2, h3, -⟩ := dec_facts u
  unfold Lib.parseMag
  rw [if_neg h3, uint10_digits _ 0 (by rw [h2]; exact h) h1, h2]
theorem num_itoa (n : Int) (h : i64 n) : numT (Lib.itoa n) = n := by
  unfold i64 at h
  have e : Lib.atoiAll (Lib.itoa n) = .ok n := by
    by_cases hn : n < 0
    · obtain ⟨u, rfl⟩ : ∃ u : Nat, n = -(u : Int) := ⟨n.natAbs, by omega⟩
      rw [Lib.itoa_neg u (by omega), Lib.atoiAll_minus, mag_digits u (by omega)]
      simp only [Lib.signed]
      rw [if_neg (by omega)]
    · obtain ⟨u, rfl⟩ : ∃ u : Nat, n = u := ⟨n.toNat, by omega⟩
      rw [Lib.itoa_nonneg u]
      obtain ⟨h1, h2, h3, -⟩ := dec_facts u
      have hm := mag_digits u (by omega)
      obtain ⟨c, r, hl⟩ := List.exists_cons_of_ne_nil h3
      rw [hl] at h1 hm ⊢
      have hc := digB_iff.1 (by simp only [List.all_cons, Bool.and_eq_true] at h1; exact h1.1 : digB c = true)
      rw [Lib.atoiAll_plain c r (by omega) (by omega), hm]
      simp only [Lib.signless]
      rw [if_neg (by omega)]
  unfold numT
  rw [e]
theorem num_i64 (s : List UInt8) : i64 (numT s) := by
  unfold numT i64
  split
  · rename_i v hv; have := Lib.atoiAll_bounds hv; omega
  · have := Lib.atoiSat_bounds s; omega
  · omega

/-! Words without a space, joined and split. -/
theorem index_sp : ∀ (x r : List UInt8), 32 ∉ x → Lib.index (x ++ 32 :: r) [32] = (x.length : Int)
  | [], r, _ => by rw [List.nil_append, Lib.index]; simp [List.isPrefixOf]
  | b :: x, r, h => by
    have hb : b ≠ 32 := fun e => h (by simp [e])
    have ih := index_sp x r (fun e => h (by simp [e]))
    have hp : ([32] : List UInt8).isPrefixOf (b :: (x ++ 32 :: r)) = false := by simp [List.isPrefixOf, Ne.symm hb]
    have hn : ¬ ((x.length : Int) == -1) = true := fun e => by have := beq_iff_eq.1 e; omega
    rw [List.cons_append, Lib.index, hp, ih, if_neg (by decide), if_neg hn]
    simp
theorem index_no : ∀ (x : List UInt8), 32 ∉ x → Lib.index x [32] = -1
  | [], _ => rfl
  | b :: x, h => by
    have hb : b ≠ 32 := fun e => h (by simp [e])
    have ih := index_no x (fun e => h (by simp [e]))
    have hp : ([32] : List UInt8).isPrefixOf (b :: x) = false := by simp [List.isPrefixOf, Ne.symm hb]
    rw [Lib.index, hp, ih]
    rfl
theorem splitK_one (k : Nat) (x : List UInt8) (h : 32 ∉ x) : Lib.splitK [32] 0 k x = [x] := by
  cases k with
  | zero => rfl
  | succ k => unfold Lib.splitK; rw [index_no x h]; rfl
theorem splitK_more (k : Nat) (x r : List UInt8) (h : 32 ∉ x) : Lib.splitK [32] 0 (k + 1) (x ++ 32 :: r) = x :: Lib.splitK [32] 0 k r := by
  have hn : ¬ ((x.length : Int) == -1) = true := fun e => by have := beq_iff_eq.1 e; omega
  have e1 : (x ++ 32 :: r).drop (x.length + 1) = r := by
    rw [← List.drop_drop, List.drop_left]; rfl
  rw [Lib.splitK, index_sp x r h, if_neg hn]
  simp only [Int.toNat_natCast, Nat.add_zero, List.length_cons, List.length_nil, Nat.zero_add]
  rw [e1, List.take_left]
theorem split_join : ∀ (w : List (List UInt8)), w ≠ [] → (∀ x ∈ w, 32 ∉ x) → Lib.split (joinL w) [32] = w := by
  have key : ∀ (w : List (List UInt8)), w ≠ [] → (∀ x ∈ w, 32 ∉ x) → Lib.splitK [32] 0 (Lib.count (joinL w) [32]) (joinL w) = w := by
    intro w
    induction w with
    | nil => intro h; exact absurd rfl h
    | cons x l ih =>
      intro _ hw
      have hx := hw x (by simp)
      cases l with
      | nil =>
        show Lib.splitK [32] 0 _ x = [x]
        exact splitK_one _ x hx
      | cons y l =>
        show Lib.splitK [32] 0 (Lib.count (x ++ 32 :: joinL (y :: l)) [32]) (x ++ 32 :: joinL (y :: l)) = x :: y :: l
        have e : Lib.count (x ++ 32 :: joinL (y :: l)) [32] = Lib.count (joinL (y :: l)) [32] + 1 := by
          rw [Lib.count_one, Lib.count_one, List.count_append, List.count_cons_self, List.count_eq_zero_of_not_mem hx]
          omega
        rw [e, splitK_more _ x _ hx, ih (by simp) (fun z hz => hw z (by simp [hz]))]
  intro w h1 h2
  exact key w h1 h2
theorem splitN_one (x : List UInt8) (h : 32 ∉ x) : Lib.splitN x [32] 3 = [x] := splitK_one _ x h
theorem splitN_two (x y : List UInt8) (h : 32 ∉ x) (h2 : 32 ∉ y) : Lib.splitN (x ++ 32 :: y) [32] 3 = [x, y] := by
  unfold Lib.splitN
  obtain ⟨k, hk⟩ : ∃ k, min 3 ((x ++ 32 :: y).length + 1) - 1 = k + 1 := ⟨min 3 ((x ++ 32 :: y).length + 1) - 2, by simp; omega⟩
  rw [hk, splitK_more k x y h, splitK_one k y h2]
theorem splitN_three (x y z : List UInt8) (h : 32 ∉ x) (h2 : 32 ∉ y) : Lib.splitN (x ++ 32 :: (y ++ 32 :: z)) [32] 3 = [x, y, z] := by
  unfold Lib.splitN
  have hk : min 3 ((x ++ 32 :: (y ++ 32 :: z)).length + 1) - 1 = 1 + 1 := by simp; omega
  rw [hk, splitK_more 1 x _ h, splitK_more 0 y z h2]
  rfl
theorem splitT_one (x : List UInt8) (h : 32 ∉ x) : splitT x = [x] := by
  unfold splitT
  rw [splitN_one x h]
  rfl
theorem splitT_two (x y : List UInt8) (h : 32 ∉ x) (h2 : 32 ∉ y) : splitT (x ++ 32 :: y) = [x, y] := by
  unfold splitT
  rw [splitN_two x y h h2]
  rfl
theorem splitT_text (x y z : List UInt8) (h : 32 ∉ x) (h2 : 32 ∉ y) (h3 : x = wRead ∨ x = wWrite) : splitT (x ++ 32 :: (y ++ 32 :: z)) = [x, y, z] := by
  unfold splitT
  rw [splitN_three x y z h h2]
  exact if_pos (.inr h3)
theorem splitT_many (x y z : List UInt8) (l : List (List UInt8)) (h : ∀ t ∈ x :: y :: z :: l, 32 ∉ t) (h3 : ¬ (x = wRead ∨ x = wWrite)) : splitT (joinL (x :: y :: z :: l)) = x :: y :: z :: l := by
  show splitT (x ++ 32 :: (y ++ 32 :: joinL (z :: l))) = _
  unfold splitT
  rw [splitN_three x y _ (h x (by simp)) (h y (by simp))]
  have e : ¬ (([x, y, joinL (z :: l)] : List (List UInt8)).length < 3 ∨ atW [x, y, joinL (z :: l)] 0 = wRead ∨ atW [x, y, joinL (z :: l)] 0 = wWrite) := by
    rintro (e | e)
    · simp at e
    · exact h3 e
  show (if _ then _ else _) = _
  rw [if_neg e]
  show [x, y] ++ Lib.split (joinL (z :: l)) [32] = _
  rw [split_join (z :: l) (by simp) (fun t ht => h t (by simp only [List.mem_cons] at ht ⊢; exact .inr (.inr ht)))]
  rfl

/-! The words of a good event have no space. -/
theorem dig_no {l : List UInt8} (h : l.all digB = true) : 32 ∉ l := fun e => by
  have := List.all_eq_true.1 h 32 e
  revert this; decide
theorem itoa_no (n : Int) : 32 ∉ Lib.itoa n := by
  by_cases hn : n < 0
  · obtain ⟨u, rfl⟩ : ∃ u : Nat, n = -(u : Int) := ⟨n.natAbs, by omega⟩
    rw [Lib.itoa_neg u (by omega)]
    simp only [List.mem_cons, not_or]
    exact ⟨by decide, dig_no (dec_facts u).1⟩
  · obtain ⟨u, rfl⟩ : ∃ u : Nat, n = u := ⟨n.toNat, by omega⟩
    rw [Lib.itoa_nonneg u]
    exact dig_no (dec_facts u).1
theorem text_no (t : Int) : 32 ∉ textT t := by
  unfold textT
  split
  · decide
  · exact dig_no (dec_facts _).1
theorem what_no (n : Int) (h : inT n 1 14 = true) : 32 ∉ whatT n ∧ idxF (whatT n) whatsL 0 = n := by
  unfold inT at h; simp at h
  obtain ⟨k, rfl, hk, hk2⟩ : ∃ k : Nat, n = k ∧ 1 ≤ k ∧ k ≤ 14 := ⟨n.toNat, by omega, by omega, by omega⟩
  have key : ∀ k : Fin 15, 1 ≤ k.val → (32 ∉ whatT (k.val : Int) ∧ idxF (whatT (k.val : Int)) whatsL 0 = (k.val : Int)) := by decide
  exact key ⟨k, by omega⟩ hk
theorem stat_no (n : Int) (h : inT n 0 5 = true) : 32 ∉ statT n ∧ idxF (statT n) statsL 0 = n := by
  unfold inT at h; simp at h
  obtain ⟨k, rfl, hk2⟩ : ∃ k : Nat, n = k ∧ k ≤ 5 := ⟨n.toNat, by omega, by omega⟩
  have key : ∀ k : Fin 6, (32 ∉ statT (k.val : Int) ∧ idxF (statT (k.val : Int)) statsL 0 = (k.val : Int)) := by decide
  exact key ⟨k, by omega⟩
theorem whole_quote (l : List UInt8) : wholeL (quoteT l) = l := by
  have h := read_quote l []
  rw [List.append_nil] at h
  unfold wholeL
  rw [h]
  simp

theorem inT_i64 {n a b : Int} (h : inT n a b = true) (ha : -10000 ≤ a) (hb : b ≤ 10000) : i64 n := by
  unfold inT at h; simp at h; unfold i64; omega
theorem own_of {t : Int} (h : 0 ≤ t) : ownT t = t := by unfold ownT; omega
/-- A good event comes back from its line. -/
theorem some_line (x : Ev) (h : goodT x = true) (ht : i64 x.tick) (hs : i64 x.sT) (hn : i64 x.n) : someT (splitT (lineT x)) = x := by
  obtain ⟨k, d, n, t, b, er, s1, s2, s3, s4, s5, s6⟩ := x
  unfold goodT at h
  simp only [Bool.and_eq_true, decide_eq_true_eq] at h
  obtain ⟨⟨hb, hk⟩, hg⟩ := h
  unfold inT at hk; simp at hk
  have hq : ∀ k : Int, 1 ≤ k → k ≤ 9 → k = 1 ∨ k = 2 ∨ k = 3 ∨ k = 4 ∨ k = 5 ∨ k = 6 ∨ k = 7 ∨ k = 8 ∨ k = 9 := by intro k; omega
  unfold bareT ev0 at hb
  simp only at ht hs hn
  rcases hq k hk.1 hk.2 with rfl | rfl | rfl | rfl | rfl | rfl | rfl | rfl | rfl
  · simp at hb hg
    obtain ⟨rfl, rfl, rfl, rfl, rfl, rfl, rfl, rfl, rfl, rfl⟩ := hb
    show someT (splitT (wRound ++ 32 :: textT t)) = _
    rw [splitT_two _ _ (by decide) (text_no t)]
    show ({ ev0 with kind := 1, tick := (parseT (textT t)).1 } : Ev) = _
    rw [parse_text t ht, own_of hg]
    rfl
  · simp at hb hg
    obtain ⟨rfl, rfl, rfl, rfl, rfl, rfl, rfl, rfl, rfl⟩ := hb
    show someT (splitT (joinL [wOpen, Lib.itoa d, Lib.itoa n])) = _
    rw [splitT_many _ _ _ _ (by simp [itoa_no]; decide) (by decide)]
    show ({ ev0 with id := numT (Lib.itoa d), kind := 2, n := numT (Lib.itoa n) } : Ev) = _
    rw [num_itoa d (inT_i64 hg.1 (by decide) (by decide)), num_itoa n (inT_i64 hg.2 (by decide) (by decide))]
    rfl
  · simp at hb hg
    obtain ⟨rfl, rfl, rfl, rfl, rfl, rfl, rfl, rfl⟩ := hb
    show someT (splitT (joinL [wRefuse, Lib.itoa d, Lib.itoa n, Lib.itoa er])) = _
    rw [splitT_many _ _ _ _ (by simp [itoa_no]; decide) (by decide)]
    show ({ ev0 with id := numT (Lib.itoa d), kind := 3, n := numT (Lib.itoa n), err := numT (Lib.itoa er) } : Ev) = _
    rw [num_itoa d (inT_i64 hg.1 (by decide) (by decide)), num_itoa n hn, num_itoa er (inT_i64 hg.2 (by decide) (by decide))]
    rfl
  · simp at hb hg
    obtain ⟨rfl, rfl, rfl, rfl, rfl, rfl, rfl, rfl, rfl⟩ := hb
    show someT (splitT (wRead ++ 32 :: (Lib.itoa d ++ 32 :: quoteT b.data.toList))) = _
    rw [splitT_text _ _ _ (by decide) (itoa_no d) (.inl rfl)]
    show ({ ev0 with id := numT (Lib.itoa d), kind := 4, bytes := ⟨(wholeL (quoteT b.data.toList)).toArray⟩, n := ((wholeL (quoteT b.data.toList)).length : Int) } : Ev) = _
    rw [num_itoa d (inT_i64 hg.1 (by decide) (by decide)), whole_quote]
    rfl
  · simp at hb hg
    obtain ⟨rfl, rfl, rfl, rfl, rfl, rfl, rfl, rfl, rfl, rfl⟩ := hb
    show someT (splitT (wEof ++ 32 :: Lib.itoa d)) = _
    rw [splitT_two _ _ (by decide) (itoa_no d)]
    show ({ ev0 with id := numT (Lib.itoa d), kind := 5 } : Ev) = _
    rw [num_itoa d (inT_i64 hg (by decide) (by decide))]
    rfl
  · simp at hb hg
    obtain ⟨rfl, rfl, rfl, rfl, rfl, rfl, rfl, rfl, rfl⟩ := hb
    show someT (splitT (wWrite ++ 32 :: (Lib.itoa d ++ 32 :: quoteT b.data.toList))) = _
    rw [splitT_text _ _ _ (by decide) (itoa_no d) (.inr rfl)]
    show ({ ev0 with id := numT (Lib.itoa d), kind := 6, bytes := ⟨(wholeL (quoteT b.data.toList)).toArray⟩, n := ((wholeL (quoteT b.data.toList)).length : Int) } : Ev) = _
    rw [num_itoa d (inT_i64 hg.1 (by decide) (by decide)), whole_quote]
    rfl
  · simp at hb hg
    obtain ⟨rfl, rfl, rfl, rfl, rfl, rfl, rfl, rfl, rfl, rfl⟩ := hb
    show someT (splitT (wDrain ++ 32 :: textT t)) = _
    rw [splitT_two _ _ (by decide) (text_no t)]
    show ({ ev0 with kind := 7, tick := (parseT (textT t)).1 } : Ev) = _
    rw [parse_text t ht, own_of hg]
    rfl
  · simp at hb hg
    obtain ⟨rfl, rfl, rfl, rfl⟩ := hb
    obtain ⟨hg1, hg2⟩ := hg
    unfold stepT at hg2
    simp only [Bool.and_eq_true, decide_eq_true_eq] at hg2
    obtain ⟨⟨⟨⟨⟨q1, q2⟩, q3⟩, q4⟩, q5⟩, q6⟩ := hg2
    obtain ⟨u1, u2⟩ := what_no s3 q3
    obtain ⟨v1, v2⟩ := stat_no s6 q6
    show someT (splitT (joinL [wStep, Lib.itoa d, textT s1, Lib.itoa s2, whatT s3, Lib.itoa s4, Lib.itoa s5, statT s6])) = _
    rw [splitT_many _ _ _ _ (by simp [itoa_no, text_no, u1, v1]; decide) (by decide)]
    show ({ ev0 with id := numT (Lib.itoa d), kind := 8, sT := (parseT (textT s1)).1, sA := numT (Lib.itoa s2), sW := idxF (whatT s3) whatsL 0, sR := numT (Lib.itoa s4), sN := numT (Lib.itoa s5), sS := idxF (statT s6) statsL 0 } : Ev) = _
    rw [num_itoa d (inT_i64 hg1 (by decide) (by decide)), parse_text s1 hs, own_of q1, num_itoa s2 (inT_i64 q2 (by decide) (by decide)), u2, num_itoa s4 (inT_i64 q4 (by decide) (by decide)), num_itoa s5 (inT_i64 q5 (by decide) (by decide)), v2]
    rfl
  · simp at hb hg
    obtain ⟨rfl, rfl, rfl, rfl, rfl, rfl, rfl, rfl, rfl, rfl, rfl⟩ := hb
    show someT (splitT wStop) = _
    rw [splitT_one _ (by decide)]
    rfl
/-- What a line is read as: nothing, if it is no good event's line. -/
def parseEv (s : List UInt8) : Option Ev := if goodT (someT (splitT s)) = true ∧ lineT (someT (splitT s)) = s then some (someT (splitT s)) else none
theorem parse_line (x : Ev) (h : goodT x = true) (ht : i64 x.tick) (hs : i64 x.sT) (hn : i64 x.n) : parseEv (lineT x) = some x := by
  have e := some_line x h ht hs hn
  unfold parseEv
  rw [e, if_pos ⟨h, rfl⟩]
theorem parse_good {s : List UInt8} {x : Ev} (h : parseEv s = some x) : goodT x = true ∧ lineT x = s := by
  unfold parseEv at h
  split at h
  · rename_i hc
    injection h with h
    subst h
    exact hc
  · cases h
end Go.Proofs.YtmnkekepccdlcaaGreatDoor
