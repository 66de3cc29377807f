/-
  Few rounds, and few in each.
  Conditions: none; no program is named.
-/
import Derived.Test.YtmnkekepccdlcaaGreatDoorWgB
import Derived.Test.YtmnkekepccdlcaaGreatDoorWgA
import Derived.Lib.AtoiAllCases
import Derived.Lib.SplitLaws
namespace Go.Proofs.YtmnkekepccdlcaaGreatDoor
set_option linter.unusedVariables false
set_option linter.unusedSimpArgs false
open Go.RowKit

/-- Few rounds, and few in each. -/
def Sml (K : Nat) (rs : List Rd) : Prop := rs.length ≤ K ∧ ∀ r ∈ rs, r.opens.length ≤ K ∧ r.offers.length ≤ K ∧ r.reports.length ≤ K
theorem sml_more {K : Nat} {rs : List Rd} (h : Sml K rs) : Sml (K + 1) rs := ⟨Nat.le_succ_of_le h.1, fun r hr => ⟨Nat.le_succ_of_le (h.2 r hr).1, Nat.le_succ_of_le (h.2 r hr).2.1, Nat.le_succ_of_le (h.2 r hr).2.2⟩⟩
theorem sml_tick {K : Nat} {rs : List Rd} {n : Int} (h : Sml K rs) : Sml (K + 1) (rs ++ [{ rd0 with ticks := n }]) := by
  refine ⟨by rw [List.length_append]; have := h.1; simp; omega, fun r hr => ?_⟩
  rcases List.mem_append.1 hr with hr | hr
  · exact (sml_more h).2 r hr
  · simp at hr; subst hr; simp [rd0]
theorem sml_last {K : Nat} {a : List Rd} {r r' : Rd} (h : Sml K (a ++ [r])) (h1 : r'.opens.length ≤ r.opens.length + 1) (h2 : r'.offers.length ≤ r.offers.length + 1) (h3 : r'.reports.length ≤ r.reports.length + 1) : Sml (K + 1) (a ++ [r']) := by
  have hl := h.1
  have hr := h.2 r (by simp)
  rw [List.length_append] at hl
  refine ⟨by rw [List.length_append]; simp at hl ⊢; omega, fun x hx => ?_⟩
  rcases List.mem_append.1 hx with hx | hx
  · exact (sml_more h).2 x (by simp [hx])
  · simp at hx; subst hx; omega
end Go.Proofs.YtmnkekepccdlcaaGreatDoor

namespace Go.Proofs.YtmnkekepccdlcaaGreatDoor
set_option linter.unusedVariables false
set_option linter.unusedSimpArgs false

/-- What strconv.Atoi gives beside an error, or without one. -/
def numT (s : List UInt8) : Int := match Lib.atoiAll s with
  | .ok v => v
  | .range => Lib.atoiSat s
  | _ => 0
def atW (w : List (List UInt8)) (i : Nat) : List UInt8 := (w[i]?).getD []
def idxF (x : List UInt8) : List (List UInt8) → Int → Int
  | [], _ => -1
  | y :: r, i => if x = y then i else idxF x r (i + 1)
/-- What a whole text in quotes is; nothing: it is none. -/
def wholeL (l : List UInt8) : List UInt8 := match (readT l).1 with
  | some t => if (readT l).2 < l.length then [] else t
  | none => []
def wRead : List UInt8 := [114, 101, 97, 100]
def wWrite : List UInt8 := [119, 114, 105, 116, 101]
def wRound : List UInt8 := [114, 111, 117, 110, 100]
def wDrain : List UInt8 := [100, 114, 97, 105, 110]
def wOpen : List UInt8 := [111, 112, 101, 110]
def wRefuse : List UInt8 := [114, 101, 102, 117, 115, 101]
def wEof : List UInt8 := [101, 111, 102]
def wStep : List UInt8 := [115, 116, 101, 112]
def wStop : List UInt8 := [115, 116, 111, 112]
/-- The words of a line: what is in quotes is the third one. -/
def splitT (s : List UInt8) : List (List UInt8) :=
  let l := Lib.splitN s [32] 3
  if l.length < 3 ∨ atW l 0 = wRead ∨ atW l 0 = wWrite then l else l.take 2 ++ Lib.split (atW l 2) [32]
/-- The event of some words. -/
def someT (w : List (List UInt8)) : Ev :=
  let x : Ev := { ev0 with id := numT (atW w 1) }
  if atW w 0 = wRound then { ev0 with kind := 1, tick := (parseT (atW w 1)).1 }
  else if atW w 0 = wDrain then { ev0 with kind := 7, tick := (parseT (atW w 1)).1 }
  else if atW w 0 = wOpen then { x with kind := 2, n := numT (atW w 2) }
  else if atW w 0 = wRefuse then { x with kind := 3, n := numT (atW w 2), err := numT (atW w 3) }
  else if atW w 0 = wRead then { x with kind := 4, bytes := ⟨(wholeL (atW w 2)).toArray⟩, n := ((wholeL (atW w 2)).length : Int) }
  else if atW w 0 = wWrite then { x with kind := 6, bytes := ⟨(wholeL (atW w 2)).toArray⟩, n := ((wholeL (atW w 2)).length : Int) }
  else if atW w 0 = wEof then { x with kind := 5 }
  else if atW w 0 = wStep then { x with kind := 8, sT := (parseT (atW w 2)).1, sA := numT (atW w 3), sW := idxF (atW w 4) whatsL 0, sR := numT (atW w 5), sN := numT (atW w 6), sS := idxF (atW w 7) statsL 0 }
  else if atW w 0 = wStop then { x with kind := 9 }
  else x

/-! Numbers come back. -/
theorem uint10_digits : ∀ (l : List UInt8) (a : Nat), numF a l < 18446744073709551616 → l.all digB = true → Lib.parseUint10 a l = .ok (numF a l)
  | [], a, _, _ => rfl
  | c :: l, a, ha, hd => by
    simp only [List.all_cons, Bool.and_eq_true] at hd
    have hc := digB_iff.1 hd.1
    have hg := numF_ge l (a * 10 + (c.toNat - 48))
    rw [numF_cons] at ha ⊢
    unfold Lib.parseUint10
    rw [if_pos hc, if_neg (by omega), if_neg (by omega)]
    exact uint10_digits l _ ha hd.2
theorem mag_digits (u : Nat) (h : u < 18446744073709551616) : Lib.parseMag (Lib.decDigits u) = .ok u := by
  obtain ⟨h1, h2, h3, -⟩ := dec_facts u
  unfold Lib.parseMag
  rw [if_neg h3, uint10_digits _ 0 (by rw [h2]; exact h) h1, h2]
theorem num_itoa (n : Int) (h : i64 n) : numT (Lib.itoa n) = n := by
  unfold i64 at h
  have e : Lib.atoiAll (Lib.itoa n) = .ok n := by
    by_cases hn : n < 0
    · obtain ⟨u, rfl⟩ : ∃ u : Nat, n = -(u : Int) := ⟨n.natAbs, by omega⟩
      rw [Lib.itoa_neg u (by omega), Lib.atoiAll_minus, mag_digits u (by omega)]
      simp only [Lib.signed]
      rw [if_neg (by omega)]
    · obtain ⟨u, rfl⟩ : ∃ u : Nat, n = u := ⟨n.toNat, by omega⟩
      rw [Lib.itoa_nonneg u]
      obtain ⟨h1, h2, h3, -⟩ := dec_facts u
      have hm := mag_digits u (by omega)
      obtain ⟨c, r, hl⟩ := List.exists_cons_of_ne_nil h3
      rw [hl] at h1 hm ⊢
      have hc := digB_iff.1 (by simp only [List.all_cons, Bool.and_eq_true] at h1; exact h1.1 : digB c = true)
      rw [Lib.atoiAll_plain c r (by omega) (by omega), hm]
      simp only [Lib.signless]
      rw [if_neg (by omega)]
  unfold numT
  rw [e]
theorem num_i64 (s : List UInt8) : i64 (numT s) := by
  unfold numT i64
  split
  · rename_i v hv; have := Lib.atoiAll_bounds hv; omega
  · have := Lib.atoiSat_bounds s; omega
  · omega

/-! Words without a space, joined and split. -/
theorem index_sp : ∀ (x r : List UInt8), 32 ∉ x → Lib.index (x ++ 32 :: r) [32] = (x.length : Int)
  | [], r, _ => by rw [List.nil_append, Lib.index]; simp [List.isPrefixOf]
  | b :: x, r, h => by
    have hb : b ≠ 32 := fun e => h (by simp [e])
    have ih := index_sp x r (fun e => h (by simp [e]))
    have hp : ([32] : List UInt8).isPrefixOf (b :: (x ++ 32 :: r)) = false := by simp [List.isPrefixOf, Ne.symm hb]
    have hn : ¬ ((x.length : Int) == -1) = true := fun e => by have := beq_iff_eq.1 e; omega
    rw [List.cons_append, Lib.index, hp, ih, if_neg (by decide), if_neg hn]
    simp
theorem index_no : ∀ (x : List UInt8), 32 ∉ x → Lib.index x [32] = -1
  | [], _ => rfl
  | b :: x, h => by
    have hb : b ≠ 32 := fun e => h (by simp [e])
    have ih := index_no x (fun e => h (by simp [e]))
    have hp : ([32] : List UInt8).isPrefixOf (b :: x) = false := by simp [List.isPrefixOf, Ne.symm hb]
    rw [Lib.index, hp, ih]
    rfl
theorem splitK_one (k : Nat) (x : List UInt8) (h : 32 ∉ x) : Lib.splitK [32] 0 k x = [x] := by
  cases k with
  | zero => rfl
  | succ k => unfold Lib.splitK; rw [index_no x h]; rfl
theorem splitK_more (k : Nat) (x r : List UInt8) (h : 32 ∉ x) : Lib.splitK [32] 0 (k + 1) (x ++ 32 :: r) = x :: Lib.splitK [32] 0 k r := by
  have hn : ¬ ((x.length : Int) == -1) = true := fun e => by have := beq_iff_eq.1 e; omega
  have e1 : (x ++ 32 :: r).drop (x.length + 1) = r := by
    rw [← List.drop_drop, List.drop_left]; rfl
  rw [Lib.splitK, index_sp x r h, if_neg hn]
  simp only [Int.toNat_natCast, Nat.add_zero, List.length_cons, List.length_nil, Nat.zero_add]
  rw [e1, List.take_left]
theorem split_join : ∀ (w : List (List UInt8)), w ≠ [] → (∀ x ∈ w, 32 ∉ x) → Lib.split (joinL w) [32] = w := by
  have key : ∀ (w : List (List UInt8)), w ≠ [] → (∀ x ∈ w, 32 ∉ x) → Lib.splitK [32] 0 (Lib.count (joinL w) [32]) (joinL w) = w := by
    intro w
    induction w with
    | nil => intro h; exact absurd rfl h
    | cons x l ih =>
      intro _ hw
      have hx := hw x (by simp)
      cases l with
      | nil =>
        show Lib.splitK [32] 0 _ x = [x]
        exact splitK_one _ x hx
      | cons y l =>
        show Lib.splitK [32] 0 (Lib.count (x ++ 32 :: joinL (y :: l)) [32]) (x ++ 32 :: joinL (y :: l)) = x :: y :: l
        have e : Lib.count (x ++ 32 :: joinL (y :: l)) [32] = Lib.count (joinL (y :: l)) [32] + 1 := by
          rw [Lib.count_one, Lib.count_one, List.count_append, List.count_cons_self, List.count_eq_zero_of_not_mem hx]
          omega
        rw [e, splitK_more _ x _ hx, ih (by simp) (fun z hz => hw z (by simp [hz]))]
  intro w h1 h2
  exact key w h1 h2
theorem splitN_one (x : List UInt8) (h : 32 ∉ x) : Lib.splitN x [32] 3 = [x] := splitK_one _ x h
theorem splitN_two (x y : List UInt8) (h : 32 ∉ x) (h2 : 32 ∉ y) : Lib.splitN (x ++ 32 :: y) [32] 3 = [x, y] := by
  unfold Lib.splitN
  obtain ⟨k, hk⟩ : ∃ k, min 3 ((x ++ 32 :: y).length + 1) - 1 = k + 1 := ⟨min 3 ((x ++ 32 :: y).length + 1) - 2, by simp; omega⟩
  rw [hk, splitK_more k x y h, splitK_one k y h2]
theorem splitN_three (x y z : List UInt8) (h : 32 ∉ x) (h2 : 32 ∉ y) : Lib.splitN (x ++ 32 :: (y ++ 32 :: z)) [32] 3 = [x, y, z] := by
  unfold Lib.splitN
  have hk : min 3 ((x ++ 32 :: (y ++ 32 :: z)).length + 1) - 1 = 1 + 1 := by simp; omega
  rw [hk, splitK_more 1 x _ h, splitK_more 0 y z h2]
  rfl
theorem splitT_one (x : List UInt8) (h : 32 ∉ x) : splitT x = [x] := by
  unfold splitT
  rw [splitN_one x h]
  rfl
theorem splitT_two (x y : List UInt8) (h : 32 ∉ x) (h2 : 32 ∉ y) : splitT (x ++ 32 :: y) = [x, y] := by
  unfold splitT
  rw [splitN_two x y h h2]
  rfl
theorem splitT_text (x y z : List UInt8) (h : 32 ∉ x) (h2 : 32 ∉ y) (h3 : x = wRead ∨ x = wWrite) : splitT (x ++ 32 :: (y ++ 32 :: z)) = [x, y, z] := by
  unfold splitT
  rw [splitN_three x y z h h2]
  exact if_pos (.inr h3)
theorem splitT_many (x y z : List UInt8) (l : List (List UInt8)) (h : ∀ t ∈ x :: y :: z :: l, 32 ∉ t) (h3 : ¬ (x = wRead ∨ x = wWrite)) : splitT (joinL (x :: y :: z :: l)) = x :: y :: z :: l := by
  show splitT (x ++ 32 :: (y ++ 32 :: joinL (z :: l))) = _
  unfold splitT
  rw [splitN_three x y _ (h x (by simp)) (h y (by simp))]
  have e : ¬ (([x, y, joinL (z :: l)] : List (List UInt8)).length < 3 ∨ atW [x, y, joinL (z :: l)] 0 = wRead ∨ atW [x, y, joinL (z :: l)] 0 = wWrite) := by
    rintro (e | e)
    · simp at e
    · exact h3 e
  show (if _ then _ else _) = _
  rw [if_neg e]
  show [x, y] ++ Lib.split (joinL (z :: l)) [32] = _
  rw [split_join (z :: l) (by simp) (fun t ht => h t (by simp only [List.mem_cons] at ht ⊢; exact .inr (.inr ht)))]
  rfl

/-! The words of a good event have no space. -/
theorem dig_no {l : List UInt8} (h : l.all digB = true) : 32 ∉ l := fun e => by
  have := List.all_eq_true.1 h 32 e
  revert this; decide
theorem itoa_no (n : Int) : 32 ∉ Lib.itoa n := by
  by_cases hn : n < 0
  · obtain ⟨u, rfl⟩ : ∃ u : Nat, n = -(u : Int) := ⟨n.natAbs, by omega⟩
    rw [Lib.itoa_neg u (by omega)]
    simp only [List.mem_cons, not_or]
    exact ⟨by decide, dig_no (dec_facts u).1⟩
  · obtain ⟨u, rfl⟩ : ∃ u : Nat, n = u := ⟨n.toNat, by omega⟩
    rw [Lib.itoa_nonneg u]
    exact dig_no (dec_facts u).1
theorem text_no (t : Int) : 32 ∉ textT t := by
  unfold textT
  split
  · decide
  · exact dig_no (dec_facts _).1
theorem what_no (n : Int) (h : inT n 1 14 = true) : 32 ∉ whatT n ∧ idxF (whatT n) whatsL 0 = n := by
  unfold inT at h; simp at h
  obtain ⟨k, rfl, hk, hk2⟩ : ∃ k : Nat, n = k ∧ 1 ≤ k ∧ k ≤ 14 := ⟨n.toNat, by omega, by omega, by omega⟩
  have key : ∀ k : Fin 15, 1 ≤ k.val → (32 ∉ whatT (k.val : Int) ∧ idxF (whatT (k.val : Int)) whatsL 0 = (k.val : Int)) := by decide
  exact key ⟨k, by omega⟩ hk
theorem stat_no (n : Int) (h : inT n 0 5 = true) : 32 ∉ statT n ∧ idxF (statT n) statsL 0 = n := by
  unfold inT at h; simp at h
  obtain ⟨k, rfl, hk2⟩ : ∃ k : Nat, n = k ∧ k ≤ 5 := ⟨n.toNat, by omega, by omega⟩
  have key : ∀ k : Fin 6, (32 ∉ statT (k.val : Int) ∧ idxF (statT (k.val : Int)) statsL 0 = (k.val : Int)) := by decide
  exact key ⟨k, by omega⟩
theorem whole_quote (l : List UInt8) : wholeL (quoteT l) = l := by
  have h := read_quote l []
  rw [List.append_nil] at h
  unfold wholeL
  rw [h]
  simp

theorem inT_i64 {n a b : Int} (h : inT n a b = true) (ha : -10000 ≤ a) (hb : b ≤ 10000) : i64 n := by
  unfold inT at h; simp at h; unfold i64; omega
theorem own_of {t : Int} (h : 0 ≤ t) : ownT t = t := by unfold ownT; omega
/-- A good event comes back from its line. -/
theorem some_line (x : Ev) (h : goodT x = true) (ht : i64 x.tick) (hs : i64 x.sT) (hn : i64 x.n) : someT (splitT (lineT x)) = x := by
  obtain ⟨k, d, n, t, b, er, s1, s2, s3, s4, s5, s6⟩ := x
  unfold goodT at h
  simp only [Bool.and_eq_true, decide_eq_true_eq] at h
  obtain ⟨⟨hb, hk⟩, hg⟩ := h
  unfold inT at hk; simp at hk
  have hq : ∀ k : Int, 1 ≤ k → k ≤ 9 → k = 1 ∨ k = 2 ∨ k = 3 ∨ k = 4 ∨ k = 5 ∨ k = 6 ∨ k = 7 ∨ k = 8 ∨ k = 9 := by intro k; omega
  unfold bareT ev0 at hb
  simp only at ht hs hn
  rcases hq k hk.1 hk.2 with rfl | rfl | rfl | rfl | rfl | rfl | rfl | rfl | rfl
  · simp at hb hg
    obtain ⟨rfl, rfl, rfl, rfl, rfl, rfl, rfl, rfl, rfl, rfl⟩ := hb
    show someT (splitT (wRound ++ 32 :: textT t)) = _
    rw [splitT_two _ _ (by decide) (text_no t)]
    show ({ ev0 with kind := 1, tick := (parseT (textT t)).1 } : Ev) = _
    rw [parse_text t ht, own_of hg]
    rfl
  · simp at hb hg
    obtain ⟨rfl, rfl, rfl, rfl, rfl, rfl, rfl, rfl, rfl⟩ := hb
    show someT (splitT (joinL [wOpen, Lib.itoa d, Lib.itoa n])) = _
    rw [splitT_many _ _ _ _ (by simp [itoa_no]; decide) (by decide)]
    show ({ ev0 with id := numT (Lib.itoa d), kind := 2, n := numT (Lib.itoa n) } : Ev) = _
    rw [num_itoa d (inT_i64 hg.1 (by decide) (by decide)), num_itoa n (inT_i64 hg.2 (by decide) (by decide))]
    rfl
  · simp at hb hg
    obtain ⟨rfl, rfl, rfl, rfl, rfl, rfl, rfl, rfl⟩ := hb
    show someT (splitT (joinL [wRefuse, Lib.itoa d, Lib.itoa n, Lib.itoa er])) = _
    rw [splitT_many _ _ _ _ (by simp [itoa_no]; decide) (by decide)]
    show ({ ev0 with id := numT (Lib.itoa d), kind := 3, n := numT (Lib.itoa n), err := numT (Lib.itoa er) } : Ev) = _
    rw [num_itoa d (inT_i64 hg.1 (by decide) (by decide)), num_itoa n hn, num_itoa er (inT_i64 hg.2 (by decide) (by decide))]
    rfl
  · simp at hb hg
    obtain ⟨rfl, rfl, rfl, rfl, rfl, rfl, rfl, rfl, rfl⟩ := hb
    show someT (splitT (wRead ++ 32 :: (Lib.itoa d ++ 32 :: quoteT b.data.toList))) = _
    rw [splitT_text _ _ _ (by decide) (itoa_no d) (.inl rfl)]
    show ({ ev0 with id := numT (Lib.itoa d), kind := 4, bytes := ⟨(wholeL (quoteT b.data.toList)).toArray⟩, n := ((wholeL (quoteT b.data.toList)).length : Int) } : Ev) = _
    rw [num_itoa d (inT_i64 hg.1 (by decide) (by decide)), whole_quote]
    rfl
  · simp at hb hg
    obtain ⟨rfl, rfl, rfl, rfl, rfl, rfl, rfl, rfl, rfl, rfl⟩ := hb
    show someT (splitT (wEof ++ 32 :: Lib.itoa d)) = _
    rw [splitT_two _ _ (by decide) (itoa_no d)]
    show ({ ev0 with id := numT (Lib.itoa d), kind := 5 } : Ev) = _
    rw [num_itoa d (inT_i64 hg (by decide) (by decide))]
    rfl
  · simp at hb hg
    obtain ⟨rfl, rfl, rfl, rfl, rfl, rfl, rfl, rfl, rfl⟩ := hb
    show someT (splitT (wWrite ++ 32 :: (Lib.itoa d ++ 32 :: quoteT b.data.toList))) = _
    rw [splitT_text _ _ _ (by decide) (itoa_no d) (.inr rfl)]
    show ({ ev0 with id := numT (Lib.itoa d), kind := 6, bytes := ⟨(wholeL (quoteT b.data.toList)).toArray⟩, n := ((wholeL (quoteT b.data.toList)).length : Int) } : Ev) = _
    rw [num_itoa d (inT_i64 hg.1 (by decide) (by decide)), whole_quote]
    rfl
  · simp at hb hg
    obtain ⟨rfl, rfl, rfl, rfl, rfl, rfl, rfl, rfl, rfl, rfl⟩ := hb
    show someT (splitT (wDrain ++ 32 :: textT t)) = _
    rw [splitT_two _ _ (by decide) (text_no t)]
    show ({ ev0 with kind := 7, tick := (parseT (textT t)).1 } : Ev) = _
    rw [parse_text t ht, own_of hg]
    rfl
  · simp at hb hg
    obtain ⟨rfl, rfl, rfl, rfl⟩ := hb
    obtain ⟨hg1, hg2⟩ := hg
    unfold stepT at hg2
    simp only [Bool.and_eq_true, decide_eq_true_eq] at hg2
    obtain ⟨⟨⟨⟨⟨q1, q2⟩, q3⟩, q4⟩, q5⟩, q6⟩ := hg2
    obtain ⟨u1, u2⟩ := what_no s3 q3
    obtain ⟨v1, v2⟩ := stat_no s6 q6
    show someT (splitT (joinL [wStep, Lib.itoa d, textT s1, Lib.itoa s2, whatT s3, Lib.itoa s4, Lib.itoa s5, statT s6])) = _
    rw [splitT_many _ _ _ _ (by simp [itoa_no, text_no, u1, v1]; decide) (by decide)]
    show ({ ev0 with id := numT (Lib.itoa d), kind := 8, sT := (parseT (textT s1)).1, sA := numT (Lib.itoa s2), sW := idxF (whatT s3) whatsL 0, sR := numT (Lib.itoa s4), sN := numT (Lib.itoa s5), sS := idxF (statT s6) statsL 0 } : Ev) = _
    rw [num_itoa d (inT_i64 hg1 (by decide) (by decide)), parse_text s1 hs, own_of q1, num_itoa s2 (inT_i64 q2 (by decide) (by decide)), u2, num_itoa s4 (inT_i64 q4 (by decide) (by decide)), num_itoa s5 (inT_i64 q5 (by decide) (by decide)), v2]
    rfl
  · simp at hb hg
    obtain ⟨rfl, rfl, rfl, rfl, rfl, rfl, rfl, rfl, rfl, rfl, rfl⟩ := hb
    show someT (splitT wStop) = _
    rw [splitT_one _ (by decide)]
    rfl
/-- What a line is read as: nothing, if it is no good event's line. -/
def parseEv (s : List UInt8) : Option Ev := if goodT (someT (splitT s)) = true ∧ lineT (someT (splitT s)) = s then some (someT (splitT s)) else none
theorem parse_line (x : Ev) (h : goodT x = true) (ht : i64 x.tick) (hs : i64 x.sT) (hn : i64 x.n) : parseEv (lineT x) = some x := by
  have e := some_line x h ht hs hn
  unfold parseEv
  rw [e, if_pos ⟨h, rfl⟩]
theorem parse_good {s : List UInt8} {x : Ev} (h : parseEv s = some x) : goodT x = true ∧ lineT x = s := by
  unfold parseEv at h
  split at h
  · rename_i hc
    injection h with h
    subst h
    exact hc
  · cases h
end Go.Proofs.YtmnkekepccdlcaaGreatDoor

namespace Go.Proofs.YtmnkekepccdlcaaGreatDoor
set_option linter.unusedVariables false
set_option linter.unusedSimpArgs false
open Go.RowKit

theorem dig_10 {l : List UInt8} (h : l.all digB = true) : ∀ b ∈ l, b ≠ 10 := fun b hb e => by
  subst e
  have := List.all_eq_true.1 h 10 hb
  revert this; decide
theorem itoa_10 (n : Int) : ∀ b ∈ Lib.itoa n, b ≠ 10 := by
  by_cases hn : n < 0
  · obtain ⟨u, rfl⟩ : ∃ u : Nat, n = -(u : Int) := ⟨n.natAbs, by omega⟩
    rw [Lib.itoa_neg u (by omega)]
    intro b hb
    rcases List.mem_cons.1 hb with rfl | hb
    · decide
    · exact dig_10 (dec_facts u).1 b hb
  · obtain ⟨u, rfl⟩ : ∃ u : Nat, n = u := ⟨n.toNat, by omega⟩
    rw [Lib.itoa_nonneg u]
    exact dig_10 (dec_facts u).1
theorem text_10 (t : Int) : ∀ b ∈ textT t, b ≠ 10 := by
  unfold textT
  split
  · decide
  · exact dig_10 (dec_facts _).1
theorem word_10 (l : List (List UInt8)) (hl : ∀ x ∈ l, ∀ b ∈ x, b ≠ 10) (n : Int) : ∀ b ∈ wordT l n, b ≠ 10 := by
  unfold wordT
  split
  · simp
  · cases h : l[n.toNat]? with
    | none => simp
    | some x => simpa using hl x (List.mem_of_getElem? h)
theorem hexD_10 : ∀ k : Fin 16, hexD k.val ≠ 10 := by decide
theorem sgn_10 (c : UInt8) : ∀ b ∈ sgn c, b ≠ 10 := by
  have hq : c.toNat / 16 < 16 := by have := c.toNat_lt; omega
  have hr : c.toNat % 16 < 16 := by omega
  have h1 := hexD_10 ⟨c.toNat / 16, hq⟩
  have h2 := hexD_10 ⟨c.toNat % 16, hr⟩
  intro b hb
  unfold sgn at hb
  split at hb
  · rename_i h
    simp only [List.mem_cons, List.not_mem_nil, or_false] at hb
    rcases hb with rfl | rfl
    · decide
    · rcases h with rfl | rfl <;> decide
  · split at hb
    · simp only [List.mem_cons, List.not_mem_nil, or_false] at hb; rcases hb with rfl | rfl <;> decide
    · split at hb
      · simp only [List.mem_cons, List.not_mem_nil, or_false] at hb; rcases hb with rfl | rfl <;> decide
      · split at hb
        · simp only [List.mem_cons, List.not_mem_nil, or_false] at hb; rcases hb with rfl | rfl <;> decide
        · split at hb
          · simp only [List.mem_cons, List.not_mem_nil, or_false] at hb
            rcases hb with rfl | rfl | rfl | rfl
            · decide
            · decide
            · exact h1
            · exact h2
          · rename_i h3 _ _ _
            simp only [List.mem_cons, List.not_mem_nil, or_false] at hb
            subst hb
            assumption
theorem quote_10 (l : List UInt8) : ∀ b ∈ quoteT l, b ≠ 10 := by
  intro b hb
  unfold quoteT at hb
  rcases List.mem_cons.1 hb with rfl | hb
  · decide
  · rcases List.mem_append.1 hb with hb | hb
    · obtain ⟨c, _, hc⟩ := List.mem_flatMap.1 hb
      exact sgn_10 c b hc
    · simp at hb; subst hb; decide
theorem joinL_10 : ∀ (w : List (List UInt8)), (∀ x ∈ w, ∀ b ∈ x, b ≠ 10) → ∀ b ∈ joinL w, b ≠ 10
  | [], _ => by simp [joinL]
  | [x], h => h x (by simp)
  | x :: y :: l, h => by
    intro b hb
    have hb : b ∈ x ++ 32 :: joinL (y :: l) := hb
    rcases List.mem_append.1 hb with hb | hb
    · exact h x (by simp) b hb
    · rcases List.mem_cons.1 hb with rfl | hb
      · decide
      · exact joinL_10 (y :: l) (fun z hz => h z (List.mem_cons_of_mem _ hz)) b hb
end Go.Proofs.YtmnkekepccdlcaaGreatDoor

namespace Go.Proofs.YtmnkekepccdlcaaGreatDoor
set_option linter.unusedVariables false
set_option linter.unusedSimpArgs false

theorem itoa_text {n : Int} (h0 : 0 ≤ n) (h1 : n ≤ 1000000) : Lib.itoa n = textT n := by
  obtain ⟨u, rfl⟩ : ∃ u : Nat, n = u := ⟨n.toNat, by omega⟩
  have hne : ¬ (u : Int) = nev := by unfold nev; omega
  rw [Lib.itoa_nonneg u]
  unfold textT
  rw [if_neg hne, own_of h0]
  rfl
theorem num_text {n most : Int} (h0 : 0 ≤ n) (h1 : n ≤ most) (h2 : most ≤ 1000000000001) : numW most (textT n) = (n, 0) := by
  have h := parse_text n (by unfold i64; omega)
  rw [own_of h0] at h
  unfold numW
  rw [h, if_neg (by simp; omega)]
theorem dig_plain : ∀ c : UInt8, digB c = true → plainB c = true := by
  intro c h
  have := digB_iff.1 h
  have e1 : (32 : UInt8) < c := by rw [UInt8.lt_iff_toNat_lt]; show 32 < c.toNat; omega
  have e2 : c < (127 : UInt8) := by rw [UInt8.lt_iff_toNat_lt]; show c.toNat < 127; omega
  have e3 : (c == 34) = false := beq_eq_false_iff_ne.2 (fun e => by subst e; revert this; decide)
  have e4 : (c == 92) = false := beq_eq_false_iff_ne.2 (fun e => by subst e; revert this; decide)
  unfold plainB
  rw [e3, e4, decide_eq_true e1, decide_eq_true e2]; rfl
theorem text_dig {n : Int} (h0 : 0 ≤ n) (h1 : n ≤ 1000000000001) : textT n ≠ [] ∧ ∀ b ∈ textT n, digB b = true := by
  have hne : ¬ n = nev := by unfold nev; omega
  unfold textT
  rw [if_neg hne]
  have := dec_facts (ownT n).toNat
  exact ⟨this.2.2.1, fun b hb => List.all_eq_true.1 this.1 b hb⟩
theorem dec_len : ∀ (k u : Nat), u < 10 ^ (k + 1) → (Lib.decDigits u).length ≤ k + 1
  | 0, u, h => by rw [dec_small (by simpa using h)]; simp
  | k + 1, u, h => by
    by_cases hu : u < 10
    · rw [dec_small hu]; simp
    · rw [dec_big hu, List.length_append]
      have := dec_len k (u / 10) (by rw [Nat.div_lt_iff_lt_mul (by decide)]; rw [Nat.pow_succ] at h; exact h)
      simp; omega
theorem text_13 {n : Int} (h0 : 0 ≤ n) (h1 : n ≤ 1000000000001) : (textT n).length ≤ 13 := by
  have hne : ¬ n = nev := by unfold nev; omega
  unfold textT
  rw [if_neg hne, own_of h0]
  exact dec_len 12 _ (by omega)
theorem good_num {n : Int} (h0 : 0 ≤ n) (h1 : n ≤ 1000000000001) (p : Nat) : goodW ⟨textT n, false, p⟩ := fun _ =>
  ⟨(text_dig h0 h1).1, fun b hb => dig_plain b ((text_dig h0 h1).2 b hb)⟩

/-- Words of a line, with what stands in quotes. -/
def wd (t : List UInt8) : Wd := ⟨t, false, 0⟩
def wq (t : List UInt8) : Wd := ⟨t, true, 0⟩
theorem joinT_L : ∀ l : List Wd, joinT l = joinL (l.map wordB)
  | [] => rfl
  | [_] => rfl
  | x :: y :: l => by
    show wordB x ++ 32 :: joinT (y :: l) = wordB x ++ 32 :: joinL ((y :: l).map wordB)
    rw [joinT_L (y :: l)]
theorem words_line (l : List Wd) (h0 : l ≠ []) (hg : ∀ x ∈ l, goodW x) (h1 : joinT l ≠ []) (h2 : (joinT l).length ≤ 1200) :
    ∃ m, wordsT (joinT l) = (some m, 0, 0) ∧ m.map (fun x => (x.text, x.quoted)) = l.map (fun x => (x.text, x.quoted)) := by
  obtain ⟨m, hm, hmm⟩ := words_join l 0 h0 hg
  refine ⟨m, ?_, hmm⟩
  unfold wordsT
  rw [if_neg (by omega), if_neg h1, hm]
theorem w1 {m : List Wd} {a : List UInt8} {p : Bool} (h : m.map (fun x => (x.text, x.quoted)) = [(a, p)]) : ∃ i, m = [⟨a, p, i⟩] := by
  match m, h with
  | [⟨x, q, i⟩], h => simp at h; obtain ⟨rfl, rfl⟩ := h; exact ⟨i, rfl⟩
theorem w2 {m : List Wd} {a b : List UInt8} {p q : Bool} (h : m.map (fun x => (x.text, x.quoted)) = [(a, p), (b, q)]) : ∃ i j, m = [⟨a, p, i⟩, ⟨b, q, j⟩] := by
  match m, h with
  | [⟨x, _, i⟩, ⟨y, _, j⟩], h => simp at h; obtain ⟨⟨rfl, rfl⟩, rfl, rfl⟩ := h; exact ⟨i, j, rfl⟩
theorem w3 {m : List Wd} {a b c : List UInt8} {p q r : Bool} (h : m.map (fun x => (x.text, x.quoted)) = [(a, p), (b, q), (c, r)]) : ∃ i j k, m = [⟨a, p, i⟩, ⟨b, q, j⟩, ⟨c, r, k⟩] := by
  match m, h with
  | [⟨x, _, i⟩, ⟨y, _, j⟩, ⟨z, _, k⟩], h => simp at h; obtain ⟨⟨rfl, rfl⟩, ⟨rfl, rfl⟩, rfl, rfl⟩ := h; exact ⟨i, j, k, rfl⟩
theorem upd_snoc (a : List Rd) (r : Rd) (f : Rd → Rd) : upd (a ++ [r]) f = a ++ [f r] := by unfold upd; simp
theorem last_snoc (a : List Rd) (r : Rd) : (a ++ [r]).getLast?.getD rd0 = r := by simp
theorem good_k {t : List UInt8} (h : t ∈ kWords) : goodW (wd t) := fun _ => by
  have key : ∀ t ∈ kWords, t ≠ [] ∧ ∀ b ∈ t, plainB b = true := by decide
  exact key t h
theorem good_q (t : List UInt8) : goodW (wq t) := fun h => by cases h
theorem f_num {W : List Wd} {len i : Nat} {most n : Int} {p : Nat} (hw : W[i]? = some ⟨textT n, false, p⟩) (h0 : 0 ≤ n) (h1 : n ≤ most) (h2 : most ≤ 1000000000001) : fNum W len i most = .ok n := by
  unfold fNum
  rw [hw]
  simp [num_text h0 h1 h2]
theorem f_txt {W : List Wd} {len i : Nat} {t : List UInt8} {p : Nat} (hw : W[i]? = some ⟨t, true, p⟩) (h : t.length ≤ 256) : fTxt W len i = .ok t := by
  unfold fTxt
  rw [hw]
  simp [show ¬ 256 < t.length by omega]
theorem f_end {W : List Wd} {i : Nat} (hw : W[i]? = none) : fEnd W i = .ok () := by unfold fEnd; rw [hw]

/-! Each line of a round. -/
theorem line_tick (rs : List Rd) (n : Int) (h0 : 0 ≤ n) (h1 : n ≤ 1000000000000) (hl : rs.length < 10000) : lineR rs (joinL [kTick, textT n]) = .ok (rs ++ [{ rd0 with ticks := n }]) := by
  obtain ⟨m, hm, hmm⟩ := words_line [wd kTick, wd (textT n)] (by simp) (by
    intro x hx; simp at hx; rcases hx with rfl | rfl
    · exact good_k (by decide)
    · exact good_num h0 (by omega) 0) (by simp [joinT, wordB, wd, kTick]) (by
    have := text_13 h0 (show n ≤ 1000000000001 by omega)
    simp [joinT, wordB, wd, kTick]; omega)
  obtain ⟨i, j, rfl⟩ := w2 hmm
  have hm' : wordsT (joinL [kTick, textT n]) = (some [⟨kTick, false, i⟩, ⟨textT n, false, j⟩], 0, 0) := hm
  have hp : placeT rs ⟨kTick, false, i⟩ = 0 := by
    unfold placeT
    rw [if_neg (by simp; decide), if_neg (by simp; omega), if_neg (by simp), if_neg (by
      rintro (⟨h, _⟩ | ⟨h, _⟩)
      · exact absurd h (show ¬ kTick = kDrain by decide)
      · exact absurd h (show ¬ kTick = kAbort by decide))]
  unfold lineR
  rw [hm']
  simp only [sayT, List.headD_cons, hp]
  rw [f_num (p := j) rfl h0 h1 (by omega), f_end rfl]
  rfl
theorem place_mid {a : List Rd} {r : Rd} {t : List UInt8} {i : Nat} (ht : t ∈ kWords) (h1 : t ≠ kTick) (h2 : t = kDrain → ¬ 0 < r.drain) (h3 : t = kAbort → r.abort = false) : placeT (a ++ [r]) ⟨t, false, i⟩ = 0 := by
  unfold placeT
  rw [if_neg (by simp; exact ht), if_neg (by rintro ⟨h, _⟩; exact h1 h), if_neg (by simp), last_snoc, if_neg (by
    rintro (⟨h, h'⟩ | ⟨h, h'⟩)
    · exact h2 h h'
    · rw [h3 h] at h'; cases h')]
theorem line_open (a : List Rd) (r : Rd) (n : Int) (h : inT n 0 63 = true) : lineR (a ++ [r]) (joinL [kOpen, Lib.itoa n]) = .ok (a ++ [{ r with opens := r.opens ++ [n] }]) := by
  unfold inT at h
  simp only [Bool.and_eq_true, decide_eq_true_eq] at h
  obtain ⟨h0, h1⟩ := h
  rw [itoa_text h0 (by omega)]
  obtain ⟨m, hm, hmm⟩ := words_line [wd kOpen, wd (textT n)] (by simp) (by
    intro x hx; simp at hx; rcases hx with rfl | rfl
    · exact good_k (by decide)
    · exact good_num h0 (by omega) 0) (by simp [joinT, wordB, wd, kOpen]) (by
    have := text_13 h0 (show n ≤ 1000000000001 by omega)
    simp [joinT, wordB, wd, kOpen]; omega)
  obtain ⟨i, j, rfl⟩ := w2 hmm
  have hm' : wordsT (joinL [kOpen, textT n]) = (some [⟨kOpen, false, i⟩, ⟨textT n, false, j⟩], 0, 0) := hm
  have hp := place_mid (a := a) (r := r) (i := i) (t := kOpen) (by decide) (by decide) (fun h => absurd h (by decide)) (fun h => absurd h (by decide))
  unfold lineR
  rw [hm']
  simp only [sayT, List.headD_cons, hp]
  rw [if_neg (by decide), if_neg (by decide), if_pos (by trivial), f_num (p := j) rfl h0 h1 (by omega), f_end rfl]
  simp [Except.bind, upd_snoc]
theorem line_offer (a : List Rd) (r : Rd) (o : Off) (h : goodO o = true) : lineR (a ++ [r]) (joinL (offW o)) = .ok (a ++ [{ r with offers := r.offers ++ [o] }]) := by
  obtain ⟨id, b, eof⟩ := o
  unfold goodO inT at h
  simp only [Bool.and_eq_true, decide_eq_true_eq] at h
  obtain ⟨⟨h0, h1⟩, h2⟩ := h
  have h2' : b.data.toList.length ≤ 256 := h2
  unfold offW
  simp only
  rw [itoa_text h0 (by omega)]
  have hq : (quoteT b.data.toList).length ≤ 1026 := by
    unfold quoteT
    have : ∀ l : List UInt8, (l.flatMap sgn).length ≤ l.length * 4 := by
      intro l
      induction l with
      | nil => simp
      | cons c l ih =>
        rw [List.flatMap_cons, List.length_append, List.length_cons]
        have : (sgn c).length ≤ 4 := by unfold sgn; repeat' split
                                        all_goals simp
        omega
    have := this b.data.toList
    simp only [List.length_cons, List.length_append, List.length_nil]
    omega
  have key : ∀ k, k ∈ kWords → k.length = 5 → (∃ i j l, wordsT (joinL [k, textT id, quoteT b.data.toList]) = (some [⟨k, false, i⟩, ⟨textT id, false, j⟩, ⟨b.data.toList, true, l⟩], 0, 0)) := by
    intro k hk hk5
    obtain ⟨m, hm, hmm⟩ := words_line [wd k, wd (textT id), wq b.data.toList] (by simp) (by
      intro x hx; simp at hx; rcases hx with rfl | rfl | rfl
      · exact good_k hk
      · exact good_num h0 (by omega) 0
      · exact good_q _) (by simp [joinT, wordB, wd, wq]) (by
      have := text_13 h0 (show id ≤ 1000000000001 by omega)
      simp [joinT, wordB, wd, wq]; omega)
    obtain ⟨i, j, l, rfl⟩ := w3 hmm
    exact ⟨i, j, l, hm⟩
  cases eof
  · obtain ⟨i, j, l, hm⟩ := key kOffer (by decide) rfl
    have hp := place_mid (a := a) (r := r) (i := i) (t := kOffer) (by decide) (by decide) (fun h => absurd h (by decide)) (fun h => absurd h (by decide))
    simp only [Bool.false_eq_true, if_false]
    unfold lineR
    rw [hm]
    simp only [sayT, List.headD_cons, hp]
    rw [if_neg (by decide), if_neg (by decide), if_neg (by decide), if_pos (.inl (by trivial)), f_num (p := j) rfl h0 h1 (by omega), f_txt (p := l) rfl h2', f_end rfl]
    simp [Except.bind, upd_snoc]
    exact decide_eq_false (show ¬ kOffer = kClose by decide)
  · obtain ⟨i, j, l, hm⟩ := key kClose (by decide) rfl
    have hp := place_mid (a := a) (r := r) (i := i) (t := kClose) (by decide) (by decide) (fun h => absurd h (by decide)) (fun h => absurd h (by decide))
    simp only [if_true]
    unfold lineR
    rw [hm]
    simp only [sayT, List.headD_cons, hp]
    rw [if_neg (by decide), if_neg (by decide), if_neg (by decide), if_pos (.inr (by trivial)), f_num (p := j) rfl h0 h1 (by omega), f_txt (p := l) rfl h2', f_end rfl]
    simp [Except.bind, upd_snoc]
theorem line_report (a : List Rd) (r : Rd) (o : Rep) (h : goodP o = true) : lineR (a ++ [r]) (joinL (repW o)) = .ok (a ++ [{ r with reports := r.reports ++ [o] }]) := by
  obtain ⟨id, rd, wr, ac⟩ := o
  unfold goodP inT at h
  simp only [Bool.and_eq_true, decide_eq_true_eq, Bool.or_eq_true] at h
  obtain ⟨⟨⟨⟨h0, h1⟩, h2⟩, h3, h4⟩, h5⟩ := h
  unfold repW
  simp only
  rw [itoa_text h0 (by omega), itoa_text h3 (by omega)]
  cases wr
  · have e1 : rd = true := by simpa using h2
    have e2 : ac = 0 := by simpa using h5
    subst e1 e2
    obtain ⟨m, hm, hmm⟩ := words_line [wd kRead, wd (textT id)] (by simp) (by
      intro x hx; simp at hx; rcases hx with rfl | rfl
      · exact good_k (by decide)
      · exact good_num h0 (by omega) 0) (by simp [joinT, wordB, wd, kRead]) (by
      have := text_13 h0 (show id ≤ 1000000000001 by omega)
      simp [joinT, wordB, wd, kRead]; omega)
    obtain ⟨i, j, rfl⟩ := w2 hmm
    have hm' : wordsT (joinL [kRead, textT id]) = (some [⟨kRead, false, i⟩, ⟨textT id, false, j⟩], 0, 0) := hm
    have hp := place_mid (a := a) (r := r) (i := i) (t := kRead) (by decide) (by decide) (fun h => absurd h (by decide)) (fun h => absurd h (by decide))
    simp only [Bool.not_false, if_true]
    unfold lineR
    rw [hm']
    simp only [sayT, List.headD_cons, hp]
    rw [if_neg (by decide), if_neg (by decide), if_neg (by decide), if_neg (by decide), if_pos (by trivial), f_num (p := j) rfl h0 h1 (by omega), f_end rfl]
    simp [Except.bind, upd_snoc]
  · have key : ∀ k, k ∈ kWords → k.length ≤ 5 → k ≠ [] → (∃ i j l, wordsT (joinL [k, textT id, textT ac]) = (some [⟨k, false, i⟩, ⟨textT id, false, j⟩, ⟨textT ac, false, l⟩], 0, 0)) := by
      intro k hk hk5 hk0
      obtain ⟨m, hm, hmm⟩ := words_line [wd k, wd (textT id), wd (textT ac)] (by simp) (by
        intro x hx; simp at hx; rcases hx with rfl | rfl | rfl
        · exact good_k hk
        · exact good_num h0 (by omega) 0
        · exact good_num h3 (by omega) 0) (by simp [joinT, wordB, wd, hk0]) (by
        have := text_13 h0 (show id ≤ 1000000000001 by omega)
        have := text_13 h3 (show ac ≤ 1000000000001 by omega)
        simp [joinT, wordB, wd]; omega)
      obtain ⟨i, j, l, rfl⟩ := w3 hmm
      exact ⟨i, j, l, hm⟩
    cases rd
    · obtain ⟨i, j, l, hm⟩ := key kWrite (by decide) (by decide) (by decide)
      have hp := place_mid (a := a) (r := r) (i := i) (t := kWrite) (by decide) (by decide) (fun h => absurd h (by decide)) (fun h => absurd h (by decide))
      simp only [Bool.not_true, Bool.false_eq_true, if_false]
      unfold lineR
      rw [hm]
      simp only [sayT, List.headD_cons, hp]
      rw [if_neg (by decide), if_neg (by decide), if_neg (by decide), if_neg (by decide), if_neg (by decide), if_pos (.inl (by trivial)), f_num (p := j) rfl h0 h1 (by omega), f_num (p := l) (i := 2) rfl h3 h4 (by omega), f_end rfl]
      simp [Except.bind, upd_snoc]
      exact decide_eq_false (show ¬ kWrite = kBoth by decide)
    · obtain ⟨i, j, l, hm⟩ := key kBoth (by decide) (by decide) (by decide)
      have hp := place_mid (a := a) (r := r) (i := i) (t := kBoth) (by decide) (by decide) (fun h => absurd h (by decide)) (fun h => absurd h (by decide))
      simp only [Bool.not_true, Bool.false_eq_true, if_false, if_true]
      unfold lineR
      rw [hm]
      simp only [sayT, List.headD_cons, hp]
      rw [if_neg (by decide), if_neg (by decide), if_neg (by decide), if_neg (by decide), if_neg (by decide), if_pos (.inr (by trivial)), f_num (p := j) rfl h0 h1 (by omega), f_num (p := l) (i := 2) rfl h3 h4 (by omega), f_end rfl]
      simp [Except.bind, upd_snoc]
theorem line_drain (a : List Rd) (r : Rd) (n : Int) (h0 : 0 ≤ n) (h1 : n ≤ 1000000000000) (hr : r.drain = 0) : lineR (a ++ [r]) (joinL [kDrain, textT n]) = .ok (a ++ [{ r with drain := n + 1 }]) := by
  obtain ⟨m, hm, hmm⟩ := words_line [wd kDrain, wd (textT n)] (by simp) (by
    intro x hx; simp at hx; rcases hx with rfl | rfl
    · exact good_k (by decide)
    · exact good_num h0 (by omega) 0) (by simp [joinT, wordB, wd, kDrain]) (by
    have := text_13 h0 (show n ≤ 1000000000001 by omega)
    simp [joinT, wordB, wd, kDrain]; omega)
  obtain ⟨i, j, rfl⟩ := w2 hmm
  have hm' : wordsT (joinL [kDrain, textT n]) = (some [⟨kDrain, false, i⟩, ⟨textT n, false, j⟩], 0, 0) := hm
  have hp := place_mid (a := a) (r := r) (i := i) (t := kDrain) (by decide) (by decide) (fun _ => by omega) (fun h => absurd h (by decide))
  unfold lineR
  rw [hm']
  simp only [sayT, List.headD_cons, hp]
  rw [if_neg (by decide), if_neg (by decide), if_neg (by decide), if_neg (by decide), if_neg (by decide), if_neg (by decide), if_pos (by trivial), f_num (p := j) rfl h0 h1 (by omega), f_end rfl]
  simp [Except.bind, upd_snoc]
theorem line_abort (a : List Rd) (r : Rd) (hr : r.abort = false) : lineR (a ++ [r]) (joinL [kAbort]) = .ok (a ++ [{ r with abort := true }]) := by
  obtain ⟨m, hm, hmm⟩ := words_line [wd kAbort] (by simp) (by
    intro x hx; simp at hx; subst hx; exact good_k (by decide)) (by simp [joinT, wordB, wd, kAbort]) (by simp [joinT, wordB, wd, kAbort])
  obtain ⟨i, rfl⟩ := w1 hmm
  have hm' : wordsT (joinL [kAbort]) = (some [⟨kAbort, false, i⟩], 0, 0) := hm
  have hp := place_mid (a := a) (r := r) (i := i) (t := kAbort) (by decide) (by decide) (fun h => absurd h (by decide)) (fun _ => hr)
  unfold lineR
  rw [hm']
  simp only [sayT, List.headD_cons, hp]
  have n1 : ¬ kAbort = kTick := by decide
  have n2 : ¬ kAbort = kOpen := by decide
  have n3 : ¬ kAbort = kOffer := by decide
  have n4 : ¬ kAbort = kClose := by decide
  have n5 : ¬ kAbort = kRead := by decide
  have n6 : ¬ kAbort = kWrite := by decide
  have n7 : ¬ kAbort = kBoth := by decide
  have n8 : ¬ kAbort = kDrain := by decide
  simp [n1, n2, n3, n4, n5, n6, n7, n8, f_end (W := [⟨kAbort, false, i⟩]) (i := 1) rfl, Except.bind, upd_snoc]

/-! All lines of a round, and of rounds. -/
theorem idle_k {t : List UInt8} (h : t ∈ kWords) (l : List (List UInt8)) : idleL (joinL (t :: l)) = false := by
  have key : ∀ t ∈ kWords, t.head?.map (· == 35) = some false := by decide
  have := key t h
  cases t with
  | nil => cases this
  | cons c r =>
    simp only [List.head?_cons, Option.map_some, Option.some.injEq] at this
    cases l with
    | nil => exact this
    | cons y l => exact this
theorem readF_line {k : Nat} {rs rs' : List Rd} {s : List UInt8} {L : List (List UInt8)} (h1 : idleL s = false) (h2 : lineR rs s = .ok rs') : readF k rs (s :: L) = readF (k + 1) rs' L := by
  show (if idleL s = true then readF (k + 1) rs L else match lineR rs s with | .ok rs' => readF (k + 1) rs' L | .error (c, e) => .error (k + 1, c + 1, e)) = _
  rw [h1, if_neg (by simp), h2]
def openL (n : Int) : List UInt8 := joinL [kOpen, Lib.itoa n]
def offerL (o : Off) : List UInt8 := joinL (offW o)
def reportL (o : Rep) : List UInt8 := joinL (repW o)
def drainL (n : Int) : List (List UInt8) := if 0 < n then [joinL [kDrain, textT (n - 1)]] else []
def abortL (b : Bool) : List (List UInt8) := if b then [joinL [kAbort]] else []
def roundL (r : Rd) : List (List UInt8) := joinL [kTick, textT r.ticks] :: (r.opens.map openL ++ (r.offers.map offerL ++ (r.reports.map reportL ++ (drainL r.drain ++ abortL r.abort))))
theorem read_opens : ∀ (l : List Int) (k : Nat) (a : List Rd) (r : Rd) (L : List (List UInt8)), (∀ n ∈ l, inT n 0 63 = true) → readF k (a ++ [r]) (l.map openL ++ L) = readF (k + l.length) (a ++ [{ r with opens := r.opens ++ l }]) L
  | [], k, a, r, L, _ => by simp
  | n :: l, k, a, r, L, h => by
    rw [List.map_cons, List.cons_append, show openL n = joinL [kOpen, Lib.itoa n] from rfl, readF_line (idle_k (by decide) _) (line_open a r n (h n (by simp))), read_opens l (k + 1) a _ L (fun x hx => h x (by simp [hx]))]
    simp [Nat.add_assoc, Nat.add_comm 1]
theorem read_offers : ∀ (l : List Off) (k : Nat) (a : List Rd) (r : Rd) (L : List (List UInt8)), (∀ n ∈ l, goodO n = true) → readF k (a ++ [r]) (l.map offerL ++ L) = readF (k + l.length) (a ++ [{ r with offers := r.offers ++ l }]) L
  | [], k, a, r, L, _ => by simp
  | n :: l, k, a, r, L, h => by
    have hi : idleL (offerL n) = false := by
      unfold offerL offW
      cases n.eof
      · exact idle_k (by decide) _
      · exact idle_k (by decide) _
    rw [List.map_cons, List.cons_append, readF_line hi (line_offer a r n (h n (by simp))), read_offers l (k + 1) a _ L (fun x hx => h x (by simp [hx]))]
    simp [Nat.add_assoc, Nat.add_comm 1]
theorem read_reports : ∀ (l : List Rep) (k : Nat) (a : List Rd) (r : Rd) (L : List (List UInt8)), (∀ n ∈ l, goodP n = true) → readF k (a ++ [r]) (l.map reportL ++ L) = readF (k + l.length) (a ++ [{ r with reports := r.reports ++ l }]) L
  | [], k, a, r, L, _ => by simp
  | n :: l, k, a, r, L, h => by
    have hi : idleL (reportL n) = false := by
      unfold reportL repW
      repeat' split
      all_goals exact idle_k (by decide) _
    rw [List.map_cons, List.cons_append, readF_line hi (line_report a r n (h n (by simp))), read_reports l (k + 1) a _ L (fun x hx => h x (by simp [hx]))]
    simp [Nat.add_assoc, Nat.add_comm 1]
theorem read_round (k : Nat) (a : List Rd) (r : Rd) (L : List (List UInt8)) (hg : goodR r = true) (ha : a.length < 10000) : readF k a (roundL r ++ L) = readF (k + (roundL r).length) (a ++ [r]) L := by
  obtain ⟨t, os, fs, ps, d, ab⟩ := r
  unfold goodR at hg
  simp only [Bool.and_eq_true, List.all_eq_true] at hg
  obtain ⟨⟨⟨⟨g1, g2⟩, g3⟩, g4⟩, g5⟩ := hg
  unfold inT at g1 g2
  simp only [Bool.and_eq_true, decide_eq_true_eq] at g1 g2
  unfold roundL
  rw [List.cons_append, readF_line (idle_k (by decide) _) (line_tick a t g1.1 g1.2 ha), List.append_assoc, read_opens os _ a _ _ g3, List.append_assoc, read_offers fs _ a _ _ g4, List.append_assoc, read_reports ps _ a _ _ g5, List.append_assoc]
  simp only [rd0, List.nil_append]
  have e1 : ∀ k L, readF k (a ++ [⟨t, os, fs, ps, 0, false⟩]) (drainL d ++ L) = readF (k + (drainL d).length) (a ++ [⟨t, os, fs, ps, d, false⟩]) L := by
    intro k L
    unfold drainL
    split
    · rename_i h
      rw [List.cons_append, readF_line (idle_k (by decide) _) (line_drain a _ (d - 1) (by omega) (by omega) rfl), List.nil_append, show d - 1 + 1 = d by omega]
      rfl
    · rename_i h
      obtain rfl : d = 0 := by omega
      simp
  have e2 : ∀ k L, readF k (a ++ [⟨t, os, fs, ps, d, false⟩]) (abortL ab ++ L) = readF (k + (abortL ab).length) (a ++ [⟨t, os, fs, ps, d, ab⟩]) L := by
    intro k L
    unfold abortL
    cases ab
    · simp
    · rw [if_pos rfl, List.cons_append, readF_line (idle_k (by decide) _) (line_abort a _ rfl), List.nil_append]
      rfl
  rw [e1, e2]
  congr 1
  simp only [List.length_cons, List.length_append, List.length_map]
  omega
theorem read_rounds : ∀ (l : List Rd) (k : Nat) (a : List Rd) (L : List (List UInt8)), (∀ r ∈ l, goodR r = true) → a.length + l.length ≤ 10000 → readF k a (l.flatMap roundL ++ L) = readF (k + (l.flatMap roundL).length) (a ++ l) L
  | [], k, a, L, _, _ => by simp
  | r :: l, k, a, L, h, hl => by
    rw [List.length_cons] at hl
    rw [List.flatMap_cons, List.append_assoc, read_round k a r _ (h r (by simp)) (by omega), read_rounds l _ _ L (fun x hx => h x (by simp [hx])) (by simp; omega)]
    simp [Nat.add_assoc]
theorem print_lines (r : Rd) : printR r = (roundL r).flatMap (· ++ [10]) := by
  obtain ⟨t, os, fs, ps, d, ab⟩ := r
  unfold printR roundL
  simp only [List.flatMap_cons, List.flatMap_append]
  have e1 : opensB os = (os.map openL).flatMap (· ++ [10]) := by unfold opensB; rw [List.flatMap_map]; rfl
  have e2 : offersB fs = (fs.map offerL).flatMap (· ++ [10]) := by unfold offersB; rw [List.flatMap_map]; rfl
  have e3 : reportsB ps = (ps.map reportL).flatMap (· ++ [10]) := by unfold reportsB; rw [List.flatMap_map]; rfl
  have e4 : drainB d = (drainL d).flatMap (· ++ [10]) := by unfold drainB drainL; split <;> simp [lineB]
  have e5 : abortB ab = (abortL ab).flatMap (· ++ [10]) := by unfold abortB abortL; split <;> simp [lineB]
  rw [e1, e2, e3, e4, e5]
  simp [lineB]
theorem k_10 {t : List UInt8} (h : t ∈ kWords) : ∀ b ∈ t, b ≠ 10 := by
  have key : ∀ t ∈ kWords, ∀ b ∈ t, b ≠ 10 := by decide
  exact key t h
theorem round_10 (r : Rd) : ∀ s ∈ roundL r, ∀ b ∈ s, b ≠ 10 := by
  intro s hs
  unfold roundL at hs
  rcases List.mem_cons.1 hs with rfl | hs
  · exact joinL_10 _ (by
      intro x hx; simp at hx; rcases hx with rfl | rfl
      · exact k_10 (by decide)
      · exact text_10 _)
  rcases List.mem_append.1 hs with hs | hs
  · obtain ⟨n, _, rfl⟩ := List.mem_map.1 hs
    exact joinL_10 _ (by
      intro x hx; simp at hx; rcases hx with rfl | rfl
      · exact k_10 (by decide)
      · exact itoa_10 _)
  rcases List.mem_append.1 hs with hs | hs
  · obtain ⟨n, _, rfl⟩ := List.mem_map.1 hs
    refine joinL_10 _ ?_
    intro x hx
    unfold offW at hx
    simp only [List.mem_cons, List.not_mem_nil, or_false] at hx
    rcases hx with rfl | rfl | rfl
    · split
      · exact k_10 (by decide)
      · exact k_10 (by decide)
    · exact itoa_10 _
    · exact quote_10 _
  rcases List.mem_append.1 hs with hs | hs
  · obtain ⟨n, _, rfl⟩ := List.mem_map.1 hs
    refine joinL_10 _ ?_
    intro x hx
    unfold repW at hx
    split at hx
    · simp only [List.mem_cons, List.not_mem_nil, or_false] at hx
      rcases hx with rfl | rfl
      · exact k_10 (by decide)
      · exact itoa_10 _
    · split at hx
      · simp only [List.mem_cons, List.not_mem_nil, or_false] at hx
        rcases hx with rfl | rfl | rfl
        · exact k_10 (by decide)
        · exact itoa_10 _
        · exact itoa_10 _
      · simp only [List.mem_cons, List.not_mem_nil, or_false] at hx
        rcases hx with rfl | rfl | rfl
        · exact k_10 (by decide)
        · exact itoa_10 _
        · exact itoa_10 _
  rcases List.mem_append.1 hs with hs | hs
  · unfold drainL at hs
    split at hs
    · simp only [List.mem_cons, List.not_mem_nil, or_false] at hs
      subst hs
      exact joinL_10 _ (by
        intro x hx; simp at hx; rcases hx with rfl | rfl
        · exact k_10 (by decide)
        · exact text_10 _)
    · cases hs
  · unfold abortL at hs
    split at hs
    · simp only [List.mem_cons, List.not_mem_nil, or_false] at hs
      subst hs
      exact k_10 (t := kAbort) (by decide)
    · cases hs
theorem lines_all : ∀ (ls : List (List UInt8)), (∀ s ∈ ls, ∀ b ∈ s, b ≠ 10) → linesL (ls.flatMap (· ++ [10])) = ls ++ [[]]
  | [], _ => rfl
  | s :: ls, h => by
    rw [List.flatMap_cons, List.append_assoc]
    show linesL (s ++ 10 :: ls.flatMap (· ++ [10])) = _
    rw [linesL_hit (h s (by simp)), lines_all ls (fun x hx => h x (by simp [hx]))]
    rfl
/-- Rounds as a text. -/
def writeR (l : List Rd) : List UInt8 := l.flatMap printR
/-- Rounds as a text come back from it. -/
theorem read_back (l : List Rd) (h : ∀ r ∈ l, goodR r = true) (hl : l.length ≤ 10000) (ht : (writeR l).length ≤ 40000) : readW (writeR l) = .ok l := by
  have e : writeR l = (l.flatMap roundL).flatMap (· ++ [10]) := by
    unfold writeR
    rw [List.flatMap_assoc]
    congr 1
    funext r
    exact print_lines r
  unfold readW
  rw [if_neg (by omega), e, lines_all _ (fun s hs => by
    obtain ⟨r, _, hr⟩ := List.mem_flatMap.1 hs
    exact round_10 r s hr)]
  rw [read_rounds l 0 [] [[]] h (by simpa using hl), List.nil_append]
  rfl
end Go.Proofs.YtmnkekepccdlcaaGreatDoor

namespace Go.Proofs.YtmnkekepccdlcaaGreatDoor
set_option linter.unusedVariables false
set_option linter.unusedSimpArgs false

theorem text_small (u : Nat) (h : u < 10) : textT (u : Int) = [UInt8.ofNat (48 + u)] := by
  have hne : ¬ (u : Int) = nev := by unfold nev; omega
  unfold textT
  rw [if_neg hne, own_of (by omega)]
  exact dec_small h
theorem itoa_small (u : Nat) (h : u < 10) : Lib.itoa (u : Int) = [UInt8.ofNat (48 + u)] := by
  rw [itoa_text (by omega) (by omega)]
  exact text_small u h
/-- The round of lives. -/
def rdL1 : Rd := ⟨2, [0], [⟨0, ⟨#[111, 107]⟩, false⟩], [⟨0, true, true, 9⟩], 0, false⟩
def rdL2 : Rd := ⟨2, [], [], [], 4, false⟩
def livesT : List UInt8 := [116, 105, 99, 107, 32, 50, 10, 111, 112, 101, 110, 32, 48, 10, 111, 102, 102, 101, 114, 32, 48, 32, 34, 111, 107, 34, 10, 98, 111, 116, 104, 32, 48, 32, 57, 10]
def livesP : List UInt8 := [116, 105, 99, 107, 32, 50, 10, 100, 114, 97, 105, 110, 32, 51, 10]
theorem print_l1 : printR rdL1 = livesT := by
  have h2 := text_small 2 (by omega)
  have i0 := itoa_small 0 (by omega)
  have i9 := itoa_small 9 (by omega)
  show lineB [kTick, textT ((2 : Nat) : Int)] ++ (lineB [kOpen, Lib.itoa ((0 : Nat) : Int)] ++ []) ++ (lineB [kOffer, Lib.itoa ((0 : Nat) : Int), quoteT [111, 107]] ++ []) ++ (lineB [kBoth, Lib.itoa ((0 : Nat) : Int), Lib.itoa ((9 : Nat) : Int)] ++ []) ++ [] ++ [] = livesT
  rw [h2, i0, i9]
  rfl
theorem print_l2 : printR rdL2 = livesP := by
  have h2 := text_small 2 (by omega)
  have h3 := text_small 3 (by omega)
  show lineB [kTick, textT ((2 : Nat) : Int)] ++ [] ++ [] ++ [] ++ lineB [kDrain, textT ((3 : Nat) : Int)] ++ [] = livesP
  rw [h2, h3]
  rfl
theorem print_0 : printR rd0 = [116, 105, 99, 107, 32, 48, 10] := by
  have h2 := text_small 0 (by omega)
  show lineB [kTick, textT ((0 : Nat) : Int)] ++ [] ++ [] ++ [] ++ [] ++ [] = _
  rw [h2]
  rfl
theorem read_lives : readW livesT = .ok [rdL1] := by
  have h := read_back [rdL1] (by intro r hr; simp at hr; subst hr; decide) (by decide) (by show (printR rdL1 ++ []).length ≤ _; rw [print_l1]; decide)
  have e : writeR [rdL1] = livesT := by
    show printR rdL1 ++ [] = _
    rw [print_l1, List.append_nil]
  rw [e] at h
  exact h
theorem read_hash (n : Nat) : readW (35 :: List.replicate n 120) = if 40000 < n + 1 then .error (0, 0, 4) else .ok [] := by
  unfold readW
  rw [linesL_none (by
    intro b hb
    rcases List.mem_cons.1 hb with rfl | hb
    · decide
    · rw [List.eq_of_mem_replicate hb]; decide), List.length_cons, List.length_replicate]
  rfl
theorem good_0 : goodR rd0 = true := by decide
theorem write_0 : ∀ n : Nat, (writeR (List.replicate n rd0)).length = 7 * n
  | 0 => rfl
  | n + 1 => by
    have ih := write_0 n
    unfold writeR at ih ⊢
    rw [List.replicate_succ, List.flatMap_cons, List.length_append, ih, print_0]
    show 7 + 7 * n = _
    omega
theorem sgn_4 (b : UInt8) : (sgn b).length ≤ 4 := by
  unfold sgn
  repeat' split
  all_goals simp
theorem quoteT_len : ∀ l : List UInt8, (quoteT l).length ≤ 4 * l.length + 2 := by
  have key : ∀ l : List UInt8, (l.flatMap sgn).length ≤ 4 * l.length := by
    intro l
    induction l with
    | nil => simp
    | cons b l ih =>
      rw [List.flatMap_cons, List.length_append, List.length_cons]
      have := sgn_4 b
      omega
  intro l
  unfold quoteT
  have := key l
  simp only [List.length_append, List.length_cons, List.length_nil]
  omega
theorem flat_le {α : Type} (f : α → List UInt8) (m : Nat) : ∀ (l : List α), (∀ x ∈ l, (f x).length ≤ m) → (l.flatMap f).length ≤ m * l.length
  | [], _ => by simp
  | x :: l, h => by
    rw [List.flatMap_cons, List.length_append, List.length_cons, Nat.mul_add_one]
    have h1 := h x (by simp)
    have h2 := flat_le f m l (fun y hy => h y (by simp [hy]))
    omega
theorem k_5 {t : List UInt8} (h : t ∈ kWords) : t.length ≤ 5 := by
  revert h
  unfold kWords
  simp only [List.mem_cons, List.not_mem_nil, or_false]
  rintro (rfl | rfl | rfl | rfl | rfl | rfl | rfl | rfl | rfl) <;> decide
/-- A good round's lines are few and short. -/
theorem print_len {r : Rd} (hg : goodR r = true) (m : Nat) (hm : ∀ o ∈ r.offers, o.bytes.size ≤ m) : (printR r).length ≤ 45 + 19 * r.opens.length + (23 + 4 * m) * r.offers.length + 34 * r.reports.length := by
  unfold goodR at hg
  simp only [Bool.and_eq_true, List.all_eq_true] at hg
  obtain ⟨⟨⟨⟨g1, g2⟩, g3⟩, g4⟩, g5⟩ := hg
  have hT : ∀ {n a b : Int}, inT n a b = true → a ≤ n ∧ n ≤ b := by
    intro n a b h
    unfold inT at h
    simpa using h
  have h1 : (lineB [kTick, textT r.ticks]).length ≤ 19 := by
    have := text_13 (hT g1).1 (by have := (hT g1).2; omega)
    unfold lineB
    show (kTick ++ 32 :: textT r.ticks ++ [10]).length ≤ 19
    simp only [List.length_append, List.length_cons, List.length_nil]
    show 4 + ((textT r.ticks).length + 1) + (0 + 1) ≤ 19
    omega
  have h2 : (opensB r.opens).length ≤ 19 * r.opens.length := flat_le _ _ _ fun n hn => by
    have hx := hT (g3 n hn)
    rw [itoa_text hx.1 (by omega)]
    have := text_13 hx.1 (by omega)
    unfold lineB
    show (kOpen ++ 32 :: textT n ++ [10]).length ≤ 19
    simp only [List.length_append, List.length_cons, List.length_nil]
    show 4 + ((textT n).length + 1) + (0 + 1) ≤ 19
    omega
  have h3 : (offersB r.offers).length ≤ (23 + 4 * m) * r.offers.length := flat_le _ _ _ fun o ho => by
    have := g4 o ho
    unfold goodO at this
    simp only [Bool.and_eq_true, decide_eq_true_eq] at this
    have hx := hT this.1
    have hb := hm o ho
    have e : o.bytes.data.toList.length = o.bytes.size := rfl
    have hq := quoteT_len o.bytes.data.toList
    rw [e] at hq
    have h13 := text_13 hx.1 (by omega)
    have hk : (if o.eof = true then kClose else kOffer).length ≤ 5 := by split <;> decide
    unfold offW lineB
    rw [itoa_text hx.1 (by omega)]
    show ((if o.eof = true then kClose else kOffer) ++ 32 :: (textT o.id ++ 32 :: quoteT o.bytes.data.toList) ++ [10]).length ≤ _
    simp only [List.length_append, List.length_cons, List.length_nil]
    omega
  have h4 : (reportsB r.reports).length ≤ 34 * r.reports.length := flat_le _ _ _ fun p hp => by
    have := g5 p hp
    unfold goodP at this
    simp only [Bool.and_eq_true] at this
    have hx := hT this.1.1.1
    have hy := hT this.1.2
    have h13 := text_13 hx.1 (by omega)
    have h14 := text_13 hy.1 (by omega)
    unfold repW lineB
    rw [itoa_text hx.1 (by omega), itoa_text hy.1 (by omega)]
    split
    · show (kRead ++ 32 :: textT p.id ++ [10]).length ≤ _
      simp only [List.length_append, List.length_cons, List.length_nil]
      show 4 + ((textT p.id).length + 1) + (0 + 1) ≤ 34
      omega
    · split
      · show (kBoth ++ 32 :: (textT p.id ++ 32 :: textT p.accept) ++ [10]).length ≤ _
        simp only [List.length_append, List.length_cons, List.length_nil]
        show 4 + ((textT p.id).length + ((textT p.accept).length + 1) + 1) + (0 + 1) ≤ 34
        omega
      · show (kWrite ++ 32 :: (textT p.id ++ 32 :: textT p.accept) ++ [10]).length ≤ _
        simp only [List.length_append, List.length_cons, List.length_nil]
        show 5 + ((textT p.id).length + ((textT p.accept).length + 1) + 1) + (0 + 1) ≤ 34
        omega
  have h5 : (drainB r.drain).length ≤ 20 := by
    unfold drainB
    split
    · have hx := hT g2
      have := text_13 (n := r.drain - 1) (by omega) (by omega)
      unfold lineB
      show (kDrain ++ 32 :: textT (r.drain - 1) ++ [10]).length ≤ 20
      simp only [List.length_append, List.length_cons, List.length_nil]
      show 5 + ((textT (r.drain - 1)).length + 1) + (0 + 1) ≤ 20
      omega
    · decide
  have h6 : (abortB r.abort).length ≤ 6 := by unfold abortB; split <;> decide
  unfold printR
  simp only [List.length_append]
  omega
end Go.Proofs.YtmnkekepccdlcaaGreatDoor
