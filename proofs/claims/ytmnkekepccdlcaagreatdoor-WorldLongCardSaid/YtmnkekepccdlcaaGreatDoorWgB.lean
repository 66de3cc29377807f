/-
  Words of a line, as plain lists of bytes: how a line is read, and that words that are joined are read as the same.
  Conditions: none; no program is named.
-/
import Derived.Test.YtmnkekepccdlcaaGreatDoorQuoteT
import Derived.Test.YtmnkekepccdlcaaGreatDoorWgA
import Derived.Test.YtmnkekepccdlcaaGreatDoorLines
namespace Go.Proofs.YtmnkekepccdlcaaGreatDoor
set_option linter.unusedVariables false
set_option linter.unusedSimpArgs false

/-- A word: its text, whether it stood in quotes, and where it begins. -/
structure Wd where
  text : List UInt8
  quoted : Bool
  place : Nat

/-- May a byte stand in a word that is not in quotes? -/
def plainB (b : UInt8) : Bool := decide (32 < b) && decide (b < 127) && !(b == 34) && !(b == 92)
def bareN (t : List UInt8) : Nat := (t.takeWhile plainB).length
/-- The first word, how many bytes it takes; of none, how far it goes on right, and what is wrong. -/
def oneW (t : List UInt8) : Option (List UInt8 × Bool) × Nat × Int :=
  if t.head? = some 34 then ((readT t).1.map (fun l => (l, true)), (readT t).2, if (readT t).1.isSome then 0 else if (readT t).2 = t.length then 3 else 2)
  else if bareN t = 0 then (none, 0, if t = [] then 3 else 2) else (some (t.take (bareN t), false), bareN t, 0)
/-- The words from a place on. -/
def wordsF : Nat → List UInt8 → Nat → Option (List Wd) × Nat × Int
  | 0, _, _ => (none, 0, 0)
  | f + 1, t, p =>
    match (oneW t).1 with
    | none => (none, p + (oneW t).2.1, (oneW t).2.2)
    | some (x, q) =>
      if t.drop (oneW t).2.1 = [] then (some [⟨x, q, p⟩], 0, 0)
      else if (t.drop (oneW t).2.1).head? = some 32 then
        ((wordsF f (t.drop ((oneW t).2.1 + 1)) (p + (oneW t).2.1 + 1)).1.map (⟨x, q, p⟩ :: ·), (wordsF f (t.drop ((oneW t).2.1 + 1)) (p + (oneW t).2.1 + 1)).2)
      else (none, p + (oneW t).2.1, 2)
def wordsL (t : List UInt8) (p : Nat) : Option (List Wd) × Nat × Int := wordsF (t.length + 1) t p
/-- A line's words. -/
def wordsT (t : List UInt8) : Option (List Wd) × Nat × Int := if 1200 < t.length then (none, 1200, 4) else if t = [] then (some [], 0, 0) else wordsL t 0

theorem bareN_le (t : List UInt8) : bareN t ≤ t.length := (List.takeWhile_sublist _).length_le
theorem oneW_le (t : List UInt8) : (oneW t).2.1 ≤ t.length := by
  unfold oneW
  split
  · exact readT_le t
  · split
    · exact Nat.zero_le _
    · exact bareN_le t

theorem wordsF_more : ∀ (f g : Nat) (t : List UInt8) (p : Nat), t.length < f → f ≤ g → wordsF g t p = wordsF f t p
  | 0, _, _, _, h, _ => by omega
  | f + 1, g, t, p, h, hg => by
    obtain ⟨g, rfl⟩ : ∃ g', g = g' + 1 := ⟨g - 1, by omega⟩
    unfold wordsF
    cases hb : (oneW t).1 with
    | none => rfl
    | some x =>
      obtain ⟨x, q⟩ := x
      simp only
      split
      · rfl
      · rename_i hne
        split
        · have h1 : t.length ≠ 0 := by
            intro e
            exact hne (by rw [List.eq_nil_of_length_eq_zero e]; simp)
          have := wordsF_more f g (t.drop ((oneW t).2.1 + 1)) (p + (oneW t).2.1 + 1) (by rw [List.length_drop]; omega) (by omega)
          rw [this]
        · rfl
theorem wordsL_none {t : List UInt8} (p : Nat) (h : (oneW t).1 = none) : wordsL t p = (none, p + (oneW t).2.1, (oneW t).2.2) := by
  unfold wordsL wordsF
  rw [h]
theorem wordsL_end {t x : List UInt8} {q : Bool} (p : Nat) (h : (oneW t).1 = some (x, q)) (h1 : t.drop (oneW t).2.1 = []) : wordsL t p = (some [⟨x, q, p⟩], 0, 0) := by
  unfold wordsL wordsF
  rw [h]
  simp only [if_pos h1]
theorem wordsL_bad {t x : List UInt8} {q : Bool} (p : Nat) (h : (oneW t).1 = some (x, q)) (h1 : t.drop (oneW t).2.1 ≠ []) (h2 : (t.drop (oneW t).2.1).head? ≠ some 32) : wordsL t p = (none, p + (oneW t).2.1, 2) := by
  unfold wordsL wordsF
  rw [h]
  simp only [if_neg h1, if_neg h2]
theorem wordsL_go {t x : List UInt8} {q : Bool} (p : Nat) (h : (oneW t).1 = some (x, q)) (h1 : t.drop (oneW t).2.1 ≠ []) (h2 : (t.drop (oneW t).2.1).head? = some 32) :
    wordsL t p = ((wordsL (t.drop ((oneW t).2.1 + 1)) (p + (oneW t).2.1 + 1)).1.map (⟨x, q, p⟩ :: ·), (wordsL (t.drop ((oneW t).2.1 + 1)) (p + (oneW t).2.1 + 1)).2) := by
  have h3 : t.length ≠ 0 := by
    intro e
    exact h1 (by rw [List.eq_nil_of_length_eq_zero e]; simp)
  have := wordsF_more ((t.drop ((oneW t).2.1 + 1)).length + 1) t.length (t.drop ((oneW t).2.1 + 1)) (p + (oneW t).2.1 + 1) (by omega) (by rw [List.length_drop]; omega)
  conv => lhs; unfold wordsL wordsF
  rw [h]
  simp only [if_neg h1, if_pos h2, this]
  rfl

/-! Words that are joined. -/
def wordB (x : Wd) : List UInt8 := if x.quoted then quoteT x.text else x.text
def joinT : List Wd → List UInt8
  | [] => []
  | [x] => wordB x
  | x :: y :: l => wordB x ++ 32 :: joinT (y :: l)
/-- A word as one is read: if it is not in quotes it is of plain bytes, and of one at least. -/
def goodW (x : Wd) : Prop := x.quoted = false → x.text ≠ [] ∧ ∀ b ∈ x.text, plainB b = true

theorem oneW_good {t x : List UInt8} {q : Bool} (p : Nat) (h : (oneW t).1 = some (x, q)) : goodW ⟨x, q, p⟩ := by
  unfold oneW at h
  intro hq
  simp only at hq
  subst hq
  split at h
  · cases hr : (readT t).1 with
    | none => simp [hr] at h
    | some l => simp [hr] at h
  · split at h
    · cases h
    · rename_i h1 h2
      simp only [Option.some.injEq, Prod.mk.injEq, and_true] at h
      subst h
      have e : t.take (bareN t) = t.takeWhile plainB := by
        unfold bareN
        conv => lhs; rw [← List.takeWhile_append_dropWhile (p := plainB) (l := t)]
        rw [List.takeWhile_append_dropWhile]
        exact (List.prefix_iff_eq_take.1 (List.takeWhile_prefix (p := plainB) (l := t))).symm
      rw [e]
      refine ⟨?_, fun b hb => ?_⟩
      · intro e2
        exact h2 (by unfold bareN; rw [show t.takeWhile plainB = [] from e2]; rfl)
      · exact List.all_eq_true.1 (List.all_takeWhile (p := plainB) (l := t)) b hb
theorem wordsF_good : ∀ (f : Nat) (t : List UInt8) (p : Nat) (l : List Wd), (wordsF f t p).1 = some l → l ≠ [] ∧ ∀ x ∈ l, goodW x
  | 0, _, _, _, h => by cases h
  | f + 1, t, p, l, h => by
    unfold wordsF at h
    cases hb : (oneW t).1 with
    | none => rw [hb] at h; cases h
    | some x =>
      obtain ⟨x, q⟩ := x
      rw [hb] at h
      have hg := oneW_good p hb
      simp only at h
      split at h
      · simp only [Option.some.injEq] at h
        subst h
        exact ⟨by simp, fun y hy => by simp at hy; subst hy; exact hg⟩
      · split at h
        · obtain ⟨l', hl', rfl⟩ := Option.map_eq_some_iff.1 h
          have := wordsF_good f _ _ l' hl'
          refine ⟨by simp, fun y hy => ?_⟩
          rcases List.mem_cons.1 hy with rfl | hy
          · exact hg
          · exact this.2 y hy
        · cases h

theorem takeWhile_plain {x r : List UInt8} (hx : ∀ b ∈ x, plainB b = true) (hr : r = [] ∨ r.head? = some 32) : (x ++ r).takeWhile plainB = x := by
  rw [List.takeWhile_append_of_pos hx]
  have : r.takeWhile plainB = [] := by
    rcases hr with rfl | hr
    · rfl
    · cases r with
      | nil => rfl
      | cons a r =>
        simp at hr
        subst hr
        rfl
  rw [this, List.append_nil]
/-- The first word of words that are joined. -/
theorem oneW_join {x : Wd} (hg : goodW x) {r : List UInt8} (hr : r = [] ∨ r.head? = some 32) : oneW (wordB x ++ r) = (some (x.text, x.quoted), (wordB x).length, 0) := by
  obtain ⟨tx, q, p⟩ := x
  cases q with
  | true =>
    have h1 := read_quote tx r
    have h2 : (quoteT tx ++ r).head? = some 34 := by simp [quoteT]
    simp only [oneW, wordB, if_true, if_pos h2, h1]
    simp
  | false =>
    obtain ⟨h1, h2⟩ := hg rfl
    simp only at h1 h2
    have h3 : (tx ++ r).head? ≠ some 34 := by
      cases tx with
      | nil => exact absurd rfl h1
      | cons a tx =>
        have := h2 a (by simp)
        intro e
        simp at e
        subst e
        exact absurd this (by decide)
    have h4 : bareN (tx ++ r) = tx.length := by unfold bareN; rw [takeWhile_plain h2 hr]
    have h5 : tx.length ≠ 0 := fun e => h1 (List.eq_nil_of_length_eq_zero e)
    simp only [oneW, wordB, Bool.false_eq_true, if_false, if_neg h3, h4, if_neg h5, List.take_left']
/-- Words that are joined are read as the same. -/
theorem words_join : ∀ (l : List Wd) (p : Nat), l ≠ [] → (∀ x ∈ l, goodW x) → ∃ m, wordsL (joinT l) p = (some m, 0, 0) ∧ m.map (fun x => (x.text, x.quoted)) = l.map (fun x => (x.text, x.quoted))
  | [], _, h, _ => absurd rfl h
  | [x], p, _, hg => by
    have h1 := oneW_join (hg x (by simp)) (r := []) (.inl rfl)
    rw [List.append_nil] at h1
    refine ⟨[⟨x.text, x.quoted, p⟩], ?_, rfl⟩
    show wordsL (wordB x) p = _
    exact wordsL_end p (by rw [h1]) (by rw [h1]; simp)
  | x :: y :: l, p, _, hg => by
    have h1 := oneW_join (hg x (by simp)) (r := 32 :: joinT (y :: l)) (.inr rfl)
    obtain ⟨m, hm, hmm⟩ := words_join (y :: l) (p + (wordB x).length + 1) (by simp) (fun z hz => hg z (by simp at hz ⊢; exact .inr hz))
    refine ⟨⟨x.text, x.quoted, p⟩ :: m, ?_, by rw [List.map_cons, hmm]; rfl⟩
    show wordsL (wordB x ++ 32 :: joinT (y :: l)) p = _
    have e1 : (wordB x ++ 32 :: joinT (y :: l)).drop (wordB x).length = 32 :: joinT (y :: l) := List.drop_left' rfl
    have e2 : (wordB x ++ 32 :: joinT (y :: l)).drop ((wordB x).length + 1) = joinT (y :: l) := by
      rw [← List.drop_drop, e1]; rfl
    rw [wordsL_go p (by rw [h1]) (by rw [h1, e1]; simp) (by rw [h1, e1]; rfl), h1, e2, hm]
    rfl
end Go.Proofs.YtmnkekepccdlcaaGreatDoor

namespace Go.Proofs.YtmnkekepccdlcaaGreatDoor
set_option linter.unusedVariables false
set_option linter.unusedSimpArgs false

/-- What a peer sends. -/
structure Off where
  id : Int
  bytes : ByteArray
  eof : Bool
deriving DecidableEq
/-- What the poller tells of one. -/
structure Rep where
  id : Int
  read : Bool
  write : Bool
  accept : Int
deriving DecidableEq
/-- A round. -/
structure Rd where
  ticks : Int
  opens : List Int
  offers : List Off
  reports : List Rep
  drain : Int
  abort : Bool
deriving DecidableEq
def rd0 : Rd := ⟨0, [], [], [], 0, false⟩
def goodO (o : Off) : Bool := inT o.id 0 4095 && decide (o.bytes.size ≤ 256)
def goodP (p : Rep) : Bool := inT p.id 0 4095 && (p.read || p.write) && inT p.accept 0 4096 && (p.write || decide (p.accept = 0))
/-- Whether a round may be. -/
def goodR (r : Rd) : Bool := inT r.ticks 0 1000000000000 && inT r.drain 0 1000000000001 && r.opens.all (fun n => inT n 0 63) && r.offers.all goodO && r.reports.all goodP

def kTick : List UInt8 := [116, 105, 99, 107]
def kOpen : List UInt8 := [111, 112, 101, 110]
def kOffer : List UInt8 := [111, 102, 102, 101, 114]
def kClose : List UInt8 := [99, 108, 111, 115, 101]
def kRead : List UInt8 := [114, 101, 97, 100]
def kWrite : List UInt8 := [119, 114, 105, 116, 101]
def kBoth : List UInt8 := [98, 111, 116, 104]
def kDrain : List UInt8 := [100, 114, 97, 105, 110]
def kAbort : List UInt8 := [97, 98, 111, 114, 116]
def kWords : List (List UInt8) := [kTick, kOpen, kOffer, kClose, kRead, kWrite, kBoth, kDrain, kAbort]

/-! How a round is printed. -/
def offW (o : Off) : List (List UInt8) := [if o.eof then kClose else kOffer, Lib.itoa o.id, quoteT o.bytes.data.toList]
def repW (p : Rep) : List (List UInt8) := if !p.write then [kRead, Lib.itoa p.id] else if p.read then [kBoth, Lib.itoa p.id, Lib.itoa p.accept] else [kWrite, Lib.itoa p.id, Lib.itoa p.accept]
/-- A line of words. -/
def lineB (w : List (List UInt8)) : List UInt8 := joinL w ++ [10]
def opensB (l : List Int) : List UInt8 := l.flatMap fun n => lineB [kOpen, Lib.itoa n]
def offersB (l : List Off) : List UInt8 := l.flatMap fun o => lineB (offW o)
def reportsB (l : List Rep) : List UInt8 := l.flatMap fun p => lineB (repW p)
def drainB (n : Int) : List UInt8 := if 0 < n then lineB [kDrain, textT (n - 1)] else []
def abortB (b : Bool) : List UInt8 := if b then lineB [kAbort] else []
/-- A round's lines. -/
def printR (r : Rd) : List UInt8 := lineB [kTick, textT r.ticks] ++ opensB r.opens ++ offersB r.offers ++ reportsB r.reports ++ drainB r.drain ++ abortB r.abort

/-! How a text is read. -/
/-- A column (from 0 on) and what is wrong; or what is read. -/
abbrev Res (α : Type) := Except (Nat × Int) α
def numW (most : Int) (x : List UInt8) : Int × Int := if (parseT x).2 = 0 ∧ most < (parseT x).1 then (0, 12) else parseT x
def fNum (W : List Wd) (len i : Nat) (most : Int) : Res Int := match W[i]? with
  | none => .error (len, 3)
  | some x => if x.quoted then .error (x.place, 2) else if (numW most x.text).2 = 0 then .ok (numW most x.text).1 else .error (x.place, (numW most x.text).2)
def fTxt (W : List Wd) (len i : Nat) : Res (List UInt8) := match W[i]? with
  | none => .error (len, 3)
  | some x => if x.quoted then (if 256 < x.text.length then .error (x.place, 4) else .ok x.text) else .error (x.place, 2)
def fEnd (W : List Wd) (i : Nat) : Res Unit := match W[i]? with
  | none => .ok ()
  | some x => .error (x.place, 2)
def upd (rs : List Rd) (f : Rd → Rd) : List Rd := rs.dropLast ++ (rs.getLast?.map f).toList
/-- What is wrong of a line by its first word. -/
def placeT (rs : List Rd) (x : Wd) : Int :=
  if x.quoted = true ∨ ¬ x.text ∈ kWords then 11
  else if x.text = kTick ∧ rs.length = 10000 then 4
  else if x.text ≠ kTick ∧ rs.length = 0 then 8
  else if (x.text = kDrain ∧ 0 < (rs.getLast?.getD rd0).drain) ∨ (x.text = kAbort ∧ (rs.getLast?.getD rd0).abort = true) then 6
  else 0
/-- Rounds with a line's words more. -/
def sayT (rs : List Rd) (W : List Wd) (len : Nat) : Res (List Rd) :=
  let x := W.headD ⟨[], false, 0⟩
  if placeT rs x ≠ 0 then .error (0, placeT rs x)
  else if x.text = kTick then (fNum W len 1 1000000000000).bind fun n => (fEnd W 2).bind fun _ => .ok (rs ++ [{ rd0 with ticks := n }])
  else if x.text = kOpen then (fNum W len 1 63).bind fun n => (fEnd W 2).bind fun _ => .ok (upd rs fun r => { r with opens := r.opens ++ [n] })
  else if x.text = kOffer ∨ x.text = kClose then (fNum W len 1 4095).bind fun n => (fTxt W len 2).bind fun t => (fEnd W 3).bind fun _ => .ok (upd rs fun r => { r with offers := r.offers ++ [⟨n, ⟨t.toArray⟩, decide (x.text = kClose)⟩] })
  else if x.text = kRead then (fNum W len 1 4095).bind fun n => (fEnd W 2).bind fun _ => .ok (upd rs fun r => { r with reports := r.reports ++ [⟨n, true, false, 0⟩] })
  else if x.text = kWrite ∨ x.text = kBoth then (fNum W len 1 4095).bind fun n => (fNum W len 2 4096).bind fun k => (fEnd W 3).bind fun _ => .ok (upd rs fun r => { r with reports := r.reports ++ [⟨n, decide (x.text = kBoth), true, k⟩] })
  else if x.text = kDrain then (fNum W len 1 1000000000000).bind fun n => (fEnd W 2).bind fun _ => .ok (upd rs fun r => { r with drain := n + 1 })
  else (fEnd W 1).bind fun _ => .ok (upd rs fun r => { r with abort := true })
/-- Rounds with a line more. -/
def lineR (rs : List Rd) (s : List UInt8) : Res (List Rd) := match wordsT s with
  | (some W, _, _) => sayT rs W s.length
  | (none, at0, e) => .error (at0, e)
/-- Is there nothing in a line? -/
def idleL (l : List UInt8) : Bool := match l with | [] => true | c :: _ => c == 35
/-- What is wrong: the line and the column, both from 1 on, and the error; or the rounds. -/
def readF : Nat → List Rd → List (List UInt8) → Except (Nat × Nat × Int) (List Rd)
  | _, rs, [] => .ok rs
  | k, rs, s :: L => if idleL s = true then readF (k + 1) rs L else match lineR rs s with
    | .ok rs' => readF (k + 1) rs' L
    | .error (c, e) => .error (k + 1, c + 1, e)
/-- The rounds of a text. -/
def readW (t : List UInt8) : Except (Nat × Nat × Int) (List Rd) := if 40000 < t.length then .error (0, 0, 4) else readF 0 [] (linesL t)
end Go.Proofs.YtmnkekepccdlcaaGreatDoor

namespace Go.Proofs.YtmnkekepccdlcaaGreatDoor
set_option linter.unusedVariables false
set_option linter.unusedSimpArgs false
open Go.RowKit

theorem only_setCell {a w : World} {g : Nat} (h : a.grownBy w (some g)) {p : Addr} (hp : p.block = g ∨ a.heap.size ≤ p.block) (u : Value) : a.grownBy (w.setCell p u) (some g) :=
  ⟨h.os, h.tape, h.output, by simpa [World.setCell] using h.size, fun i hi hne => (Below.heap_setCell w p u i (by
    rintro rfl
    rcases hp with hp | hp
    · exact hne (by rw [hp])
    · omega)).trans (h.block i hi hne)⟩
theorem only_below {a w : World} (h : Below a.heap.size a w) (row : Option Nat) : a.grownBy w row := ⟨h.os, h.tape, h.output, h.size, fun i hi _ => h.block i hi⟩
theorem only_trans {a b c : World} {row : Option Nat} (h : a.grownBy b row) (k : b.grownBy c row) : a.grownBy c row :=
  ⟨k.os.trans h.os, k.tape.trans h.tape, k.output.trans h.output, Nat.le_trans h.size k.size, fun i hi hne => (k.block i (Nat.lt_of_lt_of_le hi h.size) hne).trans (h.block i hi hne)⟩
theorem only_to {a w : World} {g B : Nat} (h : a.grownBy w (some g)) (hB : B ≤ a.heap.size) (hg : B ≤ g) : Below B a w :=
  (Below.refl B a).grown h hB (fun k hk => by cases hk; exact hg)
/-- Where a round's rows lie. -/
structure Hd where
  oa : Option Addr
  oc : Nat
  fa : Option Addr
  fc : Nat
  pa : Option Addr
  pc : Nat
def hd0 : Hd := ⟨none, 0, none, 0, none, 0⟩
def icells (l : List Int) : List Value := l.map fun n => .int .i64 n
def ocells (o : Off) : List Value := [.int .i64 o.id, .string o.bytes, .bool o.eof]
def pcells (p : Rep) : List Value := [.int .i64 p.id, .bool p.read, .bool p.write, .int .i64 p.accept]
def rC (h : Hd) (r : Rd) : List Value := [.int .i64 r.ticks, .slice h.oa r.opens.length h.oc, .slice h.fa r.offers.length h.fc, .slice h.pa r.reports.length h.pc, .int .i64 r.drain, .bool r.abort]
def rsC (l : List (Hd × Rd)) : List Value := l.flatMap fun q => rC q.1 q.2
theorem rows_len {α : Type} (k : Nat) (f : α → List Value) (hf : ∀ x, (f x).length = k) : ∀ l : List α, (l.flatMap f).length = l.length * k
  | [] => by simp
  | x :: l => by
    rw [List.flatMap_cons, List.length_append, hf, rows_len k f hf l, List.length_cons, Nat.add_one_mul]
    omega
theorem rows_at {α : Type} (k : Nat) (f : α → List Value) (hf : ∀ x, (f x).length = k) : ∀ (l : List α) (i : Nat) (h : i < l.length) (j : Nat), j < k → (l.flatMap f)[i * k + j]? = (f l[i])[j]?
  | [], i, h, _, _ => absurd h (by simp)
  | x :: l, 0, h, j, hj => by
    rw [List.flatMap_cons, Nat.zero_mul, Nat.zero_add, List.getElem?_append_left (by rw [hf]; exact hj)]
    rfl
  | x :: l, i + 1, h, j, hj => by
    rw [List.flatMap_cons, List.getElem?_append_right (by rw [hf, Nat.add_one_mul]; omega), hf, show (i + 1) * k + j - k = i * k + j by rw [Nat.add_one_mul]; omega]
    exact rows_at k f hf l i (by simpa using h) j hj
theorem rsC_len (l : List (Hd × Rd)) : (rsC l).length = l.length * 6 := rows_len 6 _ (fun _ => rfl) l
theorem rsC_snoc (l : List (Hd × Rd)) (h : Hd) (r : Rd) : rsC (l ++ [(h, r)]) = rsC l ++ rC h r := by simp [rsC]

def blkO : Option Addr → Option Nat
  | some a => some a.block
  | none => none
theorem ownBlock_slice (o : Option Addr) (n c : Nat) : (Value.slice o n c).ownBlock = blkO o := by cases o <;> rfl
/-- Does a block hold rows of a round? -/
def Has (h : Hd) (g : Nat) : Prop := blkO h.oa = some g ∨ blkO h.fa = some g ∨ blkO h.pa = some g

section
variable {e : TypeId} {k B : Nat} {w w' : World} {v : Value} {n : Nat} {xs : List Value}
theorem orow_same (h : ORow e k B w v n xs) (hk : ∀ g, v.ownBlock = some g → w'.heap[g]? = w.heap[g]?) : ORow e k B w' v n xs := by
  refine ⟨h.1, ?_⟩
  rcases h.2 with hn | ⟨g, cap, cur, rfl, h1, hg, rest⟩
  · exact .inl hn
  · exact .inr ⟨g, cap, cur, rfl, h1, (hk g rfl).trans hg, rest⟩
theorem orow_type (h : ORow e k B w v n xs) {g : Nat} (hg : v.ownBlock = some g) : ∃ cur, w.heap[g]? = some (.cells cur e (0, 0)) := by
  rcases h.2 with ⟨rfl, _⟩ | ⟨g', cap, cur, rfl, _, hgg, _⟩
  · cases hg
  · cases hg; exact ⟨cur, hgg⟩
theorem orow_ne {e2 : TypeId} {k2 B2 : Nat} {v2 : Value} {n2 : Nat} {xs2 : List Value} (h : ORow e k B w v n xs) (h2 : ORow e2 k2 B2 w v2 n2 xs2) (hne : e ≠ e2) {g : Nat} (hg : v.ownBlock = some g) : v2.ownBlock ≠ some g := by
  intro h3
  obtain ⟨c1, e1⟩ := orow_type h hg
  obtain ⟨c2, e2⟩ := orow_type h2 h3
  rw [e1] at e2
  cases e2
  exact hne rfl
theorem orow_off {t : TypeId} {cs : Array Value} {b : Nat} (h : ORow e k B w v n xs) (hb : Blk w b t cs) (hne : e ≠ t) : v.ownBlock ≠ some b := by
  intro h3
  obtain ⟨c1, e1⟩ := orow_type h h3
  unfold Blk at hb
  rw [e1] at hb
  cases hb
  exact hne rfl
end

/-- A round's rows, all from block B on. -/
structure RIn (B : Nat) (w : World) (h : Hd) (r : Rd) : Prop where
  os : ORow 3 1 B w (.slice h.oa r.opens.length h.oc) r.opens.length (icells r.opens)
  fs : ORow 93 3 B w (.slice h.fa r.offers.length h.fc) r.offers.length (r.offers.flatMap ocells)
  ps : ORow 95 4 B w (.slice h.pa r.reports.length h.pc) r.reports.length (r.reports.flatMap pcells)
theorem rin0 (B : Nat) (w : World) : RIn B w hd0 rd0 := ⟨World.ownsRow_nil _ _ _ _, World.ownsRow_nil _ _ _ _, World.ownsRow_nil _ _ _ _⟩
theorem RIn.same {B : Nat} {w w' : World} {h : Hd} {r : Rd} (i : RIn B w h r) (hk : ∀ g, Has h g → w'.heap[g]? = w.heap[g]?) : RIn B w' h r :=
  ⟨orow_same i.os fun g hg => hk g (.inl (by rw [ownBlock_slice] at hg; exact hg)), orow_same i.fs fun g hg => hk g (.inr (.inl (by rw [ownBlock_slice] at hg; exact hg))), orow_same i.ps fun g hg => hk g (.inr (.inr (by rw [ownBlock_slice] at hg; exact hg)))⟩
theorem RIn.lower {B B' : Nat} {w : World} {h : Hd} {r : Rd} (i : RIn B w h r) (hB : B' ≤ B) : RIn B' w h r := ⟨orow_lower i.os hB, orow_lower i.fs hB, orow_lower i.ps hB⟩
theorem RIn.lt {B : Nat} {w : World} {h : Hd} {r : Rd} (i : RIn B w h r) {g : Nat} (hg : Has h g) : B ≤ g ∧ g < w.heap.size := by
  rcases hg with hg | hg | hg
  · exact World.ownsRow.lt i.os g (by rw [ownBlock_slice]; exact hg)
  · exact World.ownsRow.lt i.fs g (by rw [ownBlock_slice]; exact hg)
  · exact World.ownsRow.lt i.ps g (by rw [ownBlock_slice]; exact hg)
theorem RIn.later {B : Nat} {w w' : World} {h : Hd} {r : Rd} (i : RIn B w h r) (hb : Below w.heap.size w w') : RIn B w' h r := i.same fun g hg => hb.block g (i.lt hg).2
/-- A block of another type is none of a round's. -/
theorem RIn.off {B : Nat} {w : World} {h : Hd} {r : Rd} (i : RIn B w h r) {g : Nat} {t : TypeId} {cs : Array Value} (hb : Blk w g t cs) (h1 : 3 ≠ t) (h2 : 93 ≠ t) (h3 : 95 ≠ t) : ¬ Has h g := by
  rintro (hg | hg | hg)
  · exact orow_off i.os hb h1 (by rw [ownBlock_slice]; exact hg)
  · exact orow_off i.fs hb h2 (by rw [ownBlock_slice]; exact hg)
  · exact orow_off i.ps hb h3 (by rw [ownBlock_slice]; exact hg)

/-- A row of rounds. -/
structure Rnds (B : Nat) (w : World) (ao : Option Addr) (cap : Nat) (l : List (Hd × Rd)) : Prop where
  row : ORow 59 6 B w (.slice ao l.length cap) l.length (rsC l)
  all : ∀ q ∈ l, RIn B w q.1 q.2
theorem Rnds.nil (B : Nat) (w : World) : Rnds B w none 0 [] := ⟨World.ownsRow_nil _ _ _ _, fun _ h => by cases h⟩
theorem Rnds.later {B cap : Nat} {w w' : World} {ao : Option Addr} {l : List (Hd × Rd)} (h : Rnds B w ao cap l) (hb : Below w.heap.size w w') : Rnds B w' ao cap l := ⟨orow_later h.row hb, fun q hq => (h.all q hq).later hb⟩
theorem Rnds.lower {B B' cap : Nat} {w : World} {ao : Option Addr} {l : List (Hd × Rd)} (h : Rnds B w ao cap l) (hB : B' ≤ B) : Rnds B' w ao cap l := ⟨orow_lower h.row hB, fun q hq => (h.all q hq).lower hB⟩
theorem Rnds.at_ {B cap : Nat} {w : World} {ao : Option Addr} {l : List (Hd × Rd)} (h : Rnds B w ao cap l) (i : Nat) (hi : i < l.length) :
    ∃ g, ao = some ⟨g, 0, none⟩ ∧ g < w.heap.size ∧ ∀ w', Below w.heap.size w w' → w'.cell? ⟨g, i * 6, none⟩ = some (.int .i64 l[i].2.ticks) ∧ w'.cell? ⟨g, i * 6 + 1, none⟩ = some (.slice l[i].1.oa l[i].2.opens.length l[i].1.oc) ∧ w'.cell? ⟨g, i * 6 + 2, none⟩ = some (.slice l[i].1.fa l[i].2.offers.length l[i].1.fc) ∧ w'.cell? ⟨g, i * 6 + 3, none⟩ = some (.slice l[i].1.pa l[i].2.reports.length l[i].1.pc) ∧ w'.cell? ⟨g, i * 6 + 4, none⟩ = some (.int .i64 l[i].2.drain) ∧ w'.cell? ⟨g, i * 6 + 5, none⟩ = some (.bool l[i].2.abort) ∧ ∀ j, w'.frozen? ⟨g, j, none⟩ = false := by
  have hn := rsC_len l
  obtain ⟨g, rfl, hg, -⟩ := orow_cell h.row (i * 6) (by omega)
  refine ⟨g, rfl, hg, fun w' hb => ?_⟩
  have h' := h.later hb
  have key : ∀ j, j < 6 → w'.cell? ⟨g, i * 6 + j, none⟩ = (rC l[i].1 l[i].2)[j]? := fun j hj =>
    (World.ownsRow.cellAt h'.row (i * 6 + j) (by omega)).trans (rows_at 6 _ (fun _ => rfl) l i hi j hj)
  exact ⟨key 0 (by decide), key 1 (by decide), key 2 (by decide), key 3 (by decide), key 4 (by decide), key 5 (by decide), fun j => World.ownsRow.frozenAt h'.row j⟩

/-- Rounds whose last one is being written: its cells as they stand, and its rows (from block B1 on; those of the rounds ahead lie below). -/
structure Live (B B1 : Nat) (w : World) (ao : Option Addr) (cap : Nat) (l : List (Hd × Rd)) (c : List Value) (h : Hd) (r : Rd) : Prop where
  row : ORow 59 6 B w (.slice ao (l.length + 1) cap) (l.length + 1) (rsC l ++ c)
  lo : B ≤ B1
  hi : B1 ≤ w.heap.size
  old : ∀ q ∈ l, RIn B w q.1 q.2 ∧ ∀ g, Has q.1 g → g < B1
  cur : RIn B1 w h r
section
variable {B B1 cap : Nat} {w w' : World} {ao : Option Addr} {l : List (Hd × Rd)} {c : List Value} {h : Hd} {r : Rd}
theorem Live.len (i : Live B B1 w ao cap l c h r) : c.length = 6 := by
  have := i.row.1
  rw [List.length_append, rsC_len] at this
  omega
theorem Live.rnds (i : Live B B1 w ao cap l c h r) (hc : c = rC h r) : Rnds B w ao cap (l ++ [(h, r)]) := by
  subst hc
  refine ⟨?_, fun q hq => ?_⟩
  · rw [rsC_snoc, List.length_append]
    exact i.row
  · rcases List.mem_append.1 hq with hq | hq
    · exact (i.old q hq).1
    · simp at hq; subst hq; exact i.cur.lower i.lo
/-- What leaves the blocks of all these rows alone. -/
theorem Live.same (i : Live B B1 w ao cap l c h r) (hs : w.heap.size ≤ w'.heap.size) (h0 : ∀ g, blkO ao = some g → w'.heap[g]? = w.heap[g]?) (h1 : ∀ q ∈ l, ∀ g, Has q.1 g → w'.heap[g]? = w.heap[g]?) (h2 : ∀ g, Has h g → w'.heap[g]? = w.heap[g]?) : Live B B1 w' ao cap l c h r :=
  ⟨orow_same i.row fun g hg => h0 g (by rw [ownBlock_slice] at hg; exact hg), i.lo, Nat.le_trans i.hi hs, fun q hq => ⟨(i.old q hq).1.same (h1 q hq), (i.old q hq).2⟩, i.cur.same h2⟩
theorem Live.later (i : Live B B1 w ao cap l c h r) (hb : Below w.heap.size w w') : Live B B1 w' ao cap l c h r :=
  i.same hb.size (fun g hg => hb.block g (World.ownsRow.lt i.row g (by rw [ownBlock_slice]; exact hg)).2) (fun q hq g hg => hb.block g ((i.old q hq).1.lt hg).2) (fun g hg => hb.block g (i.cur.lt hg).2)
/-- A block of another type, written. -/
theorem Live.off (i : Live B B1 w ao cap l c h r) {b : Nat} {t : TypeId} {cs : Array Value} (hb : Blk w b t cs) (hg : w.grownBy w' (some b)) (h1 : 3 ≠ t) (h2 : 93 ≠ t) (h3 : 95 ≠ t) (h4 : 59 ≠ t) : Live B B1 w' ao cap l c h r := by
  refine i.same hg.size (fun g hgg => hg.block g (World.ownsRow.lt i.row g (by rw [ownBlock_slice]; exact hgg)).2 ?_) (fun q hq g hgg => hg.block g ((i.old q hq).1.lt hgg).2 ?_) (fun g hgg => hg.block g (i.cur.lt hgg).2 ?_)
  · rintro ⟨⟩
    exact orow_off i.row hb h4 (by rw [ownBlock_slice]; exact hgg)
  · rintro ⟨⟩
    exact (i.old q hq).1.off hb h1 h2 h3 hgg
  · rintro ⟨⟩
    exact i.cur.off hb h1 h2 h3 hgg
theorem Rnds.off {l : List (Hd × Rd)} (i : Rnds B w ao cap l) {b : Nat} {t : TypeId} {cs : Array Value} (hb : Blk w b t cs) (hg : w.grownBy w' (some b)) (h1 : 3 ≠ t) (h2 : 93 ≠ t) (h3 : 95 ≠ t) (h4 : 59 ≠ t) : Rnds B w' ao cap l := by
  refine ⟨orow_same i.row fun g hgg => hg.block g (World.ownsRow.lt i.row g hgg).2 ?_, fun q hq => (i.all q hq).same fun g hgg => hg.block g ((i.all q hq).lt hgg).2 ?_⟩
  · rintro ⟨⟩
    exact orow_off i.row hb h4 hgg
  · rintro ⟨⟩
    exact (i.all q hq).off hb h1 h2 h3 hgg
/-- The block of the rounds is no block of their rows. -/
theorem RIn.apart {B' : Nat} {e : TypeId} {k n : Nat} {v : Value} {xs : List Value} (i : RIn B w h r) (ho : ORow e k B' w v n xs) (h1 : 3 ≠ e) (h2 : 93 ≠ e) (h3 : 95 ≠ e) {g : Nat} (hg : Has h g) : v.ownBlock ≠ some g := by
  rcases hg with hg | hg | hg
  · exact orow_ne i.os ho h1 (by rw [ownBlock_slice]; exact hg)
  · exact orow_ne i.fs ho h2 (by rw [ownBlock_slice]; exact hg)
  · exact orow_ne i.ps ho h3 (by rw [ownBlock_slice]; exact hg)
/-- A cell of the last round, stored. -/
theorem Live.set_ {g : Nat} (i : Live B B1 w (some ⟨g, 0, none⟩) cap l c h r) (j : Nat) (u : Value) : Live B B1 (w.setCell ⟨g, l.length * 6 + j, none⟩ u) (some ⟨g, 0, none⟩) cap l (c.set j u) h r := by
  obtain ⟨h1, h2⟩ := World.ownsRow.stored i.row (l.length * 6 + j) u
  have hs : (rsC l ++ c).set (l.length * 6 + j) u = rsC l ++ c.set j u := by
    rw [List.set_append, rsC_len, if_neg (by omega), show l.length * 6 + j - l.length * 6 = j by omega]
  rw [hs] at h1
  refine ⟨h1, i.lo, Nat.le_trans i.hi h2.size, fun q hq => ⟨(i.old q hq).1.same fun g' hg' => h2.block g' ((i.old q hq).1.lt hg').2 ?_, (i.old q hq).2⟩, i.cur.same fun g' hg' => h2.block g' (i.cur.lt hg').2 ?_⟩
  · rintro ⟨⟩
    exact (i.old q hq).1.apart i.row (by decide) (by decide) (by decide) hg' rfl
  · rintro ⟨⟩
    exact i.cur.apart i.row (by decide) (by decide) (by decide) hg' rfl
/-- Where the last round's cells lie. -/
theorem Live.at_ (i : Live B B1 w ao cap l c h r) : ∃ g, ao = some ⟨g, 0, none⟩ ∧ B ≤ g ∧ g < w.heap.size ∧ (∀ w', Below w.heap.size w w' → ∀ j, j < 6 → w'.cell? ⟨g, l.length * 6 + j, none⟩ = c[j]?) ∧ ∀ w', Below w.heap.size w w' → ∀ j, w'.frozen? ⟨g, j, none⟩ = false := by
  have hn := rsC_len l
  have hc := i.len
  obtain ⟨g, rfl, hg, -⟩ := orow_cell i.row (l.length * 6) (by rw [List.length_append]; omega)
  refine ⟨g, rfl, (World.ownsRow.lt i.row g rfl).1, hg, fun w' hb j hj => ?_, fun w' hb j => World.ownsRow.frozenAt (i.later hb).row j⟩
  refine (World.ownsRow.cellAt (i.later hb).row (l.length * 6 + j) (by omega)).trans ?_
  rw [List.getElem?_append_right (by omega), hn, show l.length * 6 + j - l.length * 6 = j by omega]
/-- An empty round more. -/
theorem Rnds.tick {l : List (Hd × Rd)} {ao' : Option Addr} {cap' : Nat} {c : List Value} (i : Rnds B w ao cap l) (hg : w.grownBy w' (Value.slice ao l.length cap).ownBlock) (hr : ORow 59 6 B w' (.slice ao' (l.length + 1) cap') (l.length + 1) (rsC l ++ c)) (hB : B ≤ w.heap.size) : Live B w'.heap.size w' ao' cap' l c hd0 rd0 := by
  have hk : ∀ q ∈ l, RIn B w' q.1 q.2 := fun q hq => (i.all q hq).same fun g hgg => hg.block g ((i.all q hq).lt hgg).2 (fun e => (i.all q hq).apart i.row (by decide) (by decide) (by decide) hgg e.symm)
  exact ⟨hr, Nat.le_trans hB hg.size, Nat.le_refl _, fun q hq => ⟨hk q hq, fun g hgg => ((hk q hq).lt hgg).2⟩, rin0 _ _⟩
/-- What holds of the rounds ahead when a row of the last one has grown. -/
theorem Live.grow (i : Live B B1 w ao cap l c h r) {row : Option Nat} (hg : w.grownBy w' row) {h' : Hd} {r' : Rd} (hrow : ∀ g, row = some g → Has h g) (hn : RIn B1 w' h' r') : Live B B1 w' ao cap l c h' r' := by
  refine ⟨orow_same i.row fun g hgg => hg.block g (World.ownsRow.lt i.row g hgg).2 fun e => ?_, i.lo, Nat.le_trans i.hi hg.size, fun q hq => ⟨(i.old q hq).1.same fun g hgg => hg.block g ((i.old q hq).1.lt hgg).2 fun e => ?_, (i.old q hq).2⟩, hn⟩
  · exact i.cur.apart i.row (by decide) (by decide) (by decide) (hrow g e.symm) hgg
  · have := (i.old q hq).2 g hgg
    have := (i.cur.lt (hrow g e.symm)).1
    omega
theorem Live.openG (i : Live B B1 w ao cap l c h r) {n : Int} {ao' : Option Addr} {cap' : Nat} (hg : w.grownBy w' (Value.slice h.oa r.opens.length h.oc).ownBlock) (hr : ORow 3 1 B1 w' (.slice ao' (r.opens.length + 1) cap') (r.opens.length + 1) (icells r.opens ++ [.int .i64 n])) :
    Live B B1 w' ao cap l c { h with oa := ao', oc := cap' } { r with opens := r.opens ++ [n] } := by
  refine i.grow hg (fun g e => .inl (by rw [ownBlock_slice] at e; exact e)) ⟨?_, ?_, ?_⟩
  · have e1 : (r.opens ++ [n]).length = r.opens.length + 1 := by simp
    have e2 : icells (r.opens ++ [n]) = icells r.opens ++ [.int .i64 n] := by simp [icells]
    simp only [e1, e2]
    exact hr
  · exact orow_same i.cur.fs fun g hgg => hg.block g (World.ownsRow.lt i.cur.fs g hgg).2 fun e => orow_ne i.cur.fs i.cur.os (by decide) hgg e.symm
  · exact orow_same i.cur.ps fun g hgg => hg.block g (World.ownsRow.lt i.cur.ps g hgg).2 fun e => orow_ne i.cur.ps i.cur.os (by decide) hgg e.symm
theorem Live.offerG (i : Live B B1 w ao cap l c h r) {o : Off} {ao' : Option Addr} {cap' : Nat} (hg : w.grownBy w' (Value.slice h.fa r.offers.length h.fc).ownBlock) (hr : ORow 93 3 B1 w' (.slice ao' (r.offers.length + 1) cap') (r.offers.length + 1) (r.offers.flatMap ocells ++ ocells o)) :
    Live B B1 w' ao cap l c { h with fa := ao', fc := cap' } { r with offers := r.offers ++ [o] } := by
  refine i.grow hg (fun g e => .inr (.inl (by rw [ownBlock_slice] at e; exact e))) ⟨?_, ?_, ?_⟩
  · exact orow_same i.cur.os fun g hgg => hg.block g (World.ownsRow.lt i.cur.os g hgg).2 fun e => orow_ne i.cur.os i.cur.fs (by decide) hgg e.symm
  · have e1 : (r.offers ++ [o]).length = r.offers.length + 1 := by simp
    have e2 : (r.offers ++ [o]).flatMap ocells = r.offers.flatMap ocells ++ ocells o := by simp
    simp only [e1, e2]
    exact hr
  · exact orow_same i.cur.ps fun g hgg => hg.block g (World.ownsRow.lt i.cur.ps g hgg).2 fun e => orow_ne i.cur.ps i.cur.fs (by decide) hgg e.symm
theorem Live.reportG (i : Live B B1 w ao cap l c h r) {o : Rep} {ao' : Option Addr} {cap' : Nat} (hg : w.grownBy w' (Value.slice h.pa r.reports.length h.pc).ownBlock) (hr : ORow 95 4 B1 w' (.slice ao' (r.reports.length + 1) cap') (r.reports.length + 1) (r.reports.flatMap pcells ++ pcells o)) :
    Live B B1 w' ao cap l c { h with pa := ao', pc := cap' } { r with reports := r.reports ++ [o] } := by
  refine i.grow hg (fun g e => .inr (.inr (by rw [ownBlock_slice] at e; exact e))) ⟨?_, ?_, ?_⟩
  · exact orow_same i.cur.os fun g hgg => hg.block g (World.ownsRow.lt i.cur.os g hgg).2 fun e => orow_ne i.cur.os i.cur.ps (by decide) hgg e.symm
  · exact orow_same i.cur.fs fun g hgg => hg.block g (World.ownsRow.lt i.cur.fs g hgg).2 fun e => orow_ne i.cur.fs i.cur.ps (by decide) hgg e.symm
  · have e1 : (r.reports ++ [o]).length = r.reports.length + 1 := by simp
    have e2 : (r.reports ++ [o]).flatMap pcells = r.reports.flatMap pcells ++ pcells o := by simp
    simp only [e1, e2]
    exact hr
/-- The last round's other parts. -/
theorem Live.ticks (i : Live B B1 w ao cap l c h r) (n : Int) : Live B B1 w ao cap l c h { r with ticks := n } := ⟨i.row, i.lo, i.hi, i.old, i.cur.os, i.cur.fs, i.cur.ps⟩
theorem Live.drain (i : Live B B1 w ao cap l c h r) (n : Int) : Live B B1 w ao cap l c h { r with drain := n } := ⟨i.row, i.lo, i.hi, i.old, i.cur.os, i.cur.fs, i.cur.ps⟩
theorem Live.abort (i : Live B B1 w ao cap l c h r) (b : Bool) : Live B B1 w ao cap l c h { r with abort := b } := ⟨i.row, i.lo, i.hi, i.old, i.cur.os, i.cur.fs, i.cur.ps⟩
/-- Rounds that are not empty, with the last one apart. -/
theorem Rnds.last {l : List (Hd × Rd)} (i : Rnds B w ao cap (l ++ [(h, r)])) : ORow 59 6 B w (.slice ao (l.length + 1) cap) (l.length + 1) (rsC l ++ rC h r) := by
  have := i.row
  rw [rsC_snoc, List.length_append] at this
  exact this
end
end Go.Proofs.YtmnkekepccdlcaaGreatDoor

namespace Go.Proofs.YtmnkekepccdlcaaGreatDoor
set_option linter.unusedVariables false
set_option linter.unusedSimpArgs false
open Go.RowKit

/-- A text, cut. -/
def cutT (s : ByteArray) (m : Nat) : ByteArray := if m < s.size then s.extract 0 m else s
theorem cutT_size (s : ByteArray) (m : Nat) : (cutT s m).size ≤ m := by
  unfold cutT; split
  · simp; omega
  · omega
theorem xCut (s : ByteArray) (m : Nat) (w : World) : Calls Tryz.prog 11 #[.string s, .int .i64 m] w fun e w' => e = .returned (.string (cutT s m)) ∧ w = w' := by
  by_cases h : m < s.size
  · have h1 : (m : Int) < (s.size : Int) := by omega
    have h2 : (m : Int) ≤ (s.size : Int) := by omega
    have e : cutT s m = s.extract 0 m := by unfold cutT; rw [if_pos h]
    rw [e]
    go_enter Tryz.func11, Tryz.ntmps11
    go_wp2
    go_ret
    exact ⟨rfl, rfl⟩
  · have h1 : ¬ (m : Int) < (s.size : Int) := by omega
    have e : cutT s m = s := by unfold cutT; rw [if_neg h]
    rw [e]
    go_enter Tryz.func11, Tryz.ntmps11
    go_wp2
    go_ret
    exact ⟨rfl, rfl⟩

theorem ext_add (t : ByteArray) (s k : Nat) : t.extract 0 s ++ t.extract s (s + k) = t.extract 0 (s + k) := by
  rw [ByteArray.extract_append_extract]; congr 1 <;> omega
theorem ext_zero (t : ByteArray) : t.extract 0 0 = ⟨#[]⟩ := by
  apply ByteArray.ext
  simp
theorem ext_size (t : ByteArray) {s : Nat} (h : s ≤ t.size) : (t.extract 0 s).size = s := by simp; omega
theorem ext_all (t : ByteArray) {s : Nat} (h : t.size ≤ s) : t.extract 0 s = t := by
  apply ByteArray.ext
  rw [ByteArray.data_extract, Array.extract_eq_self_of_le h]
end Go.Proofs.YtmnkekepccdlcaaGreatDoor
