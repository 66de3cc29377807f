/-
  Contracts of the ticks' functions (package tick and its reference) that this seat's program reaches: what each call computes, in plain integers.
  Conditions: the arguments are numbers of their Go kinds.
-/
import Derived.Test.YtmnkekepccdlcaaGreatDoorRows
import Derived.WalkKit
import Derived.WalkSpells
import Derived.WalkLawsBesides
import Derived.Lib.Hide
import Derived.IntWalk
import Derived.Lib.ItoaMem
import Derived.Lib.ParseIntBCases
import Derived.Test.YtmnkekepccdlcaaGreatDoorQuoteT
import Derived.Deep.QuietTactic
import Derived.BigQuiet
import Derived.StillTail
import Derived.Laws.Rows
import Derived.Deep.DeepCutAuto
import Derived.Deep.DeepMust
import Derived.Deep.LoopGhost
import Derived.RegionTactic
import Derived.BigRegion
import Derived.OwnWalk
import Derived.Laws.IdiomStrings
import Derived.Laws.BytesArg
namespace Go.Proofs.YtmnkekepccdlcaaGreatDoor
set_option linter.unusedVariables false
set_option linter.unusedSimpArgs false
open Go.RowKit

theorem ret_int {k : IntKind} {a b : Int} (h : a = b) : Ending.returned (.int k a) = .returned (.int k b) := by rw [h]
theorem ret_bool {a b : Bool} (h : a = b) : Ending.returned (.bool a) = .returned (.bool b) := by rw [h]
def nev : Int := 9223372036854775807
def ownT (t : Int) : Int := if t < 0 then 0 else t
def addT (a b : Int) : Int := if ownT a + ownT b ≥ nev then nev else ownT a + ownT b
def dueB (a n : Int) : Bool := decide (a ≠ nev ∧ ownT a ≤ ownT n)
/-- A number of Go's int64 or int. -/
def i64 (t : Int) : Prop := -9223372036854775808 ≤ t ∧ t ≤ 9223372036854775807

theorem ownT_le {t : Int} (h : i64 t) : 0 ≤ ownT t ∧ ownT t ≤ 9223372036854775807 := by
  unfold ownT; unfold i64 at h; omega

theorem town (t : Int) (w : World) : Calls Tryz.prog 108 #[.int .i64 t] w fun e w' => e = .returned (.int .i64 (ownT t)) ∧ w = w' := by
  by_cases h : t < 0
  · have e : ownT t = 0 := by unfold ownT; omega
    rw [e]
    go_enter Tryz.func108, Tryz.ntmps108
    go_wp2
    go_ret
    exact ⟨rfl, rfl⟩
  · have e : ownT t = t := by unfold ownT; omega
    rw [e]
    go_enter Tryz.func108, Tryz.ntmps108
    go_wp2
    go_ret
    exact ⟨rfl, rfl⟩
theorem rOwn (t : Int) (w : World) : Calls Tryz.prog 70 #[.int .i64 t] w fun e w' => e = .returned (.int .i64 (ownT t)) ∧ w = w' := by
  by_cases h : t < 0
  · have e : ownT t = 0 := by unfold ownT; omega
    rw [e]
    go_enter Tryz.func70, Tryz.ntmps70
    go_wp2
    go_ret
    exact ⟨rfl, rfl⟩
  · have e : ownT t = t := by unfold ownT; omega
    rw [e]
    go_enter Tryz.func70, Tryz.ntmps70
    go_wp2
    go_ret
    exact ⟨rfl, rfl⟩
theorem dueB_never (n : Int) : dueB 9223372036854775807 n = false := by
  unfold dueB nev; simp
theorem dueB_else {a n : Int} (h : a ≠ 9223372036854775807) : dueB a n = decide (ownT a ≤ ownT n) := by
  unfold dueB nev; simp [h]

/-- The least of some ticks, one after the other. -/
def leastT (l : List Int) : Int := l.foldl (fun acc t => if ownT t < acc then ownT t else acc) nev
theorem leastT_nil : leastT [] = 9223372036854775807 := rfl
theorem leastT_snoc (l : List Int) (t : Int) : leastT (l ++ [t]) = if ownT t < leastT l then ownT t else leastT l := by
  unfold leastT; rw [List.foldl_append]; rfl
theorem leastT_take {l : List Int} {k : Nat} (h : k < l.length) : leastT (l.take (k + 1)) = if ownT l[k] < leastT (l.take k) then ownT l[k] else leastT (l.take k) := by
  rw [List.take_succ_eq_append_getElem h, leastT_snoc]
/-- A slice of int64 that holds a list. -/
def I64s (w : World) (b off : Nat) (l : List Int) : Prop := ∀ k (h : k < l.length), w.cell? ⟨b, off + k, none⟩ = some (.int .i64 l[k])

end Go.Proofs.YtmnkekepccdlcaaGreatDoor

namespace Go.Proofs.YtmnkekepccdlcaaGreatDoor
set_option linter.unusedVariables false
set_option linter.unusedSimpArgs false

def digB (c : UInt8) : Bool := decide (48 ≤ c.toNat) && decide (c.toNat ≤ 57)
theorem digB_iff {c : UInt8} : digB c = true ↔ 48 ≤ c.toNat ∧ c.toNat ≤ 57 := by unfold digB; simp
def numF (a : Nat) (l : List UInt8) : Nat := l.foldl (fun a c => a * 10 + (c.toNat - 48)) a
theorem numF_nil (a : Nat) : numF a [] = a := rfl
theorem numF_cons (a : Nat) (c : UInt8) (l : List UInt8) : numF a (c :: l) = numF (a * 10 + (c.toNat - 48)) l := by unfold numF; rw [List.foldl_cons]
theorem numF_snoc (a : Nat) (l : List UInt8) (c : UInt8) : numF a (l ++ [c]) = numF a l * 10 + (c.toNat - 48) := by unfold numF; rw [List.foldl_append, List.foldl_cons, List.foldl_nil]
theorem numF_ge : ∀ (l : List UInt8) (a : Nat), a ≤ numF a l
  | [], a => Nat.le_refl _
  | c :: l, a => by rw [numF_cons]; have := numF_ge l (a * 10 + (c.toNat - 48)); omega
def plainD (l : List UInt8) : Bool := l.all digB && (l == [48] || (!l.isEmpty && !(l.head? == some 48)))
def neverL : List UInt8 := [110, 101, 118, 101, 114]
/-- The tick of a text, and the error. -/
def parseT (l : List UInt8) : Int × Int := if l = neverL then (nev, 0) else if plainD l = true then (if (numF 0 l : Int) ≥ nev then (0, 12) else (numF 0 l, 0)) else (0, 2)
def textT (t : Int) : List UInt8 := if t = nev then neverL else Lib.decDigits (ownT t).toNat

theorem head_app {l : List UInt8} (h : l ≠ []) (r : List UInt8) : (l ++ r).head? = l.head? := by
  cases l with
  | nil => exact absurd rfl h
  | cons c l => rfl
theorem dig_of {n : Nat} (h : n < 10) : (UInt8.ofNat (48 + n)).toNat = 48 + n := by rw [UInt8.toNat_ofNat_of_lt']; show 48 + n < 256; omega
theorem dec_small {u : Nat} (h : u < 10) : Lib.decDigits u = [UInt8.ofNat (48 + u)] := by rw [Lib.decDigits, dif_pos h]
theorem dec_big {u : Nat} (h : ¬ u < 10) : Lib.decDigits u = Lib.decDigits (u / 10) ++ [UInt8.ofNat (48 + u % 10)] := by rw [Lib.decDigits, dif_neg h]
theorem dec_facts (u : Nat) : (Lib.decDigits u).all digB = true ∧ numF 0 (Lib.decDigits u) = u ∧ Lib.decDigits u ≠ [] ∧ (u ≠ 0 → (Lib.decDigits u).head? ≠ some 48) := by
  induction u using Nat.strongRecOn with
  | _ u ih =>
    by_cases h : u < 10
    · rw [dec_small h]
      have e := dig_of h
      refine ⟨?_, ?_, by simp, ?_⟩
      · simp only [List.all_cons, List.all_nil, Bool.and_true]
        exact digB_iff.2 ⟨by omega, by omega⟩
      · rw [numF_cons, numF_nil, e]; omega
      · intro h0 hh
        simp only [List.head?_cons, Option.some.injEq] at hh
        rw [hh] at e
        have : (48 : UInt8).toNat = 48 := rfl
        omega
    · obtain ⟨i1, i2, i3, i4⟩ := ih (u / 10) (by omega)
      rw [dec_big h]
      have e := dig_of (n := u % 10) (by omega)
      refine ⟨?_, ?_, by simp, ?_⟩
      · rw [List.all_append, i1]
        simp only [List.all_cons, List.all_nil, Bool.and_true, Bool.true_and]
        exact digB_iff.2 ⟨by omega, by omega⟩
      · rw [numF_snoc, i2, e]; omega
      · intro _
        rw [head_app i3]
        exact i4 (by omega)
theorem dec_plain (u : Nat) : plainD (Lib.decDigits u) = true := by
  obtain ⟨h1, h2, h3, h4⟩ := dec_facts u
  unfold plainD
  rw [h1]
  by_cases h : u = 0
  · subst h
    rw [dec_small (by decide)]; rfl
  · have h4 := h4 h
    cases hd : Lib.decDigits u with
    | nil => exact absurd hd h3
    | cons c l => rw [hd] at h4; simp at h4 ⊢; exact .inr h4
theorem dec_back : ∀ (n : Nat) (l : List UInt8), l.length = n → l ≠ [] → l.all digB = true → l.head? ≠ some 48 → 0 < numF 0 l ∧ Lib.decDigits (numF 0 l) = l
  | 0, l, hl, h0, _, _ => absurd (List.length_eq_zero_iff.1 hl) h0
  | n + 1, l, hl, _, ha, hh => by
    rcases List.eq_nil_or_concat l with rfl | ⟨r, c, rfl⟩
    · cases hl
    · simp only [List.concat_eq_append] at *
      rw [List.all_append] at ha
      simp only [Bool.and_eq_true, List.all_cons, List.all_nil, Bool.and_true] at ha
      obtain ⟨ha, hc⟩ := ha
      have hc := digB_iff.1 hc
      have e : UInt8.ofNat (48 + (c.toNat - 48)) = c := by
        rw [show 48 + (c.toNat - 48) = c.toNat by omega]; exact UInt8.ofNat_toNat
      by_cases hr : r = []
      · subst hr
        rw [List.nil_append] at hh ⊢
        rw [numF_cons, numF_nil]
        have hne : c.toNat ≠ 48 := fun e => hh (by rw [List.head?_cons]; exact congrArg some (UInt8.toNat_inj.1 e))
        refine ⟨by omega, ?_⟩
        rw [dec_small (by omega), Nat.zero_mul, Nat.zero_add, e]
      · rw [head_app hr] at hh
        obtain ⟨i1, i2⟩ := dec_back n r (by simpa using hl) hr ha hh
        rw [numF_snoc]
        refine ⟨by omega, ?_⟩
        rw [dec_big (by omega), show (numF 0 r * 10 + (c.toNat - 48)) / 10 = numF 0 r by omega, show (numF 0 r * 10 + (c.toNat - 48)) % 10 = c.toNat - 48 by omega, i2, e]
theorem plain_back {l : List UInt8} (h : plainD l = true) : Lib.decDigits (numF 0 l) = l := by
  unfold plainD at h
  simp only [Bool.and_eq_true, Bool.or_eq_true, beq_iff_eq] at h
  obtain ⟨ha, rfl | ⟨h1, h2⟩⟩ := h
  · rw [show numF 0 [48] = 0 from rfl, dec_small (by decide)]; rfl
  · refine (dec_back _ l rfl ?_ ha ?_).2
    · rintro rfl; simp at h1
    · intro e; rw [e] at h2; simp at h2
theorem never_not : plainD neverL = false := by decide
/-- A tick's text comes back as the tick. -/
theorem parse_text (t : Int) (h : i64 t) : parseT (textT t) = (ownT t, 0) := by
  unfold textT
  by_cases h1 : t = nev
  · subst h1; rfl
  · rw [if_neg h1]
    have h2 := dec_plain (ownT t).toNat
    have h3 := (dec_facts (ownT t).toNat).2.1
    have h4 := ownT_le h
    have h5 : ownT t < nev := by unfold ownT nev at *; unfold i64 at h; omega
    unfold parseT
    rw [if_neg (by intro e; rw [e, never_not] at h2; cases h2), if_pos h2, h3, if_neg (by omega), Int.toNat_of_nonneg h4.1]
/-- A text that is a tick is that tick's text. -/
theorem text_parse {l : List UInt8} (h : (parseT l).2 = 0) : textT (parseT l).1 = l := by
  unfold parseT at *
  by_cases h1 : l = neverL
  · rw [if_pos h1, h1]; rfl
  · rw [if_neg h1] at h ⊢
    by_cases h2 : plainD l = true
    · rw [if_pos h2] at h ⊢
      by_cases h3 : (numF 0 l : Int) ≥ nev
      · rw [if_pos h3] at h; cases h
      · rw [if_neg h3]
        unfold textT
        rw [if_neg (by simp only; omega), show (ownT (numF 0 l)).toNat = numF 0 l by unfold ownT; omega]
        exact plain_back h2
    · rw [if_neg h2] at h; cases h
theorem parse_i64 (l : List UInt8) : i64 (parseT l).1 := by
  unfold parseT i64
  split
  · unfold nev; simp
  · split
    · split
      · simp
      · rename_i h; unfold nev at h; simp only; omega
    · simp

/-! What strconv.ParseInt makes of digits. -/
theorem uint_digits : ∀ (l : List UInt8) (a : Nat), a ≤ 18446744073709551615 → l.all digB = true → Lib.parseUintM 18446744073709551615 a l = if numF a l ≤ 18446744073709551615 then .ok (numF a l) else .range
  | [], a, ha, _ => by rw [numF_nil, if_pos ha]; rfl
  | c :: l, a, ha, hd => by
    simp only [List.all_cons, Bool.and_eq_true] at hd
    have hc := digB_iff.1 hd.1
    have hg := numF_ge l (a * 10 + (c.toNat - 48))
    unfold Lib.parseUintM
    rw [if_pos hc, numF_cons]
    by_cases h1 : 1844674407370955162 ≤ a
    · rw [if_pos h1, if_neg (by omega)]
    · rw [if_neg h1]
      by_cases h2 : 18446744073709551615 < a * 10 + (c.toNat - 48)
      · rw [if_pos h2, if_neg (by omega)]
      · rw [if_neg h2]
        exact uint_digits l _ (by omega) hd.2
theorem int_digits {l : List UInt8} (h : plainD l = true) : Lib.parseIntB 64 l = if numF 0 l < 9223372036854775808 then .ok (numF 0 l : Int) else .range := by
  have ha : l.all digB = true := by unfold plainD at h; simp only [Bool.and_eq_true] at h; exact h.1
  have hne : l ≠ [] := by rintro rfl; simp [plainD] at h
  obtain ⟨c, r, rfl⟩ := List.exists_cons_of_ne_nil hne
  have hc := digB_iff.1 (by simp only [List.all_cons, Bool.and_eq_true] at ha; exact ha.1 : digB c = true)
  rw [Lib.parseIntB_plain 64 c r (by omega) (by omega)]
  have e : (2 : Nat) ^ 64 - 1 = 18446744073709551615 := by decide
  have e2 : (2 : Nat) ^ (64 - 1) = 9223372036854775808 := by decide
  unfold Lib.parseUintB
  rw [if_neg hne, e, e2, uint_digits _ 0 (by omega) ha]
  by_cases h1 : numF 0 (c :: r) < 9223372036854775808
  · rw [if_pos h1, if_pos (by omega)]
    simp only [Lib.signlessC]
    rw [if_neg (by omega)]
  · rw [if_neg h1]
    by_cases h2 : numF 0 (c :: r) ≤ 18446744073709551615
    · rw [if_pos h2]
      simp only [Lib.signlessC]
      rw [if_pos (by omega)]
    · rw [if_neg h2]; rfl
end Go.Proofs.YtmnkekepccdlcaaGreatDoor

namespace Go.Proofs.YtmnkekepccdlcaaGreatDoor
set_option linter.unusedVariables false
set_option linter.unusedSimpArgs false

/-- An event: its kind, who, a number, a tick, bytes, an error, and a step's six numbers. -/
structure Ev where
  kind : Int
  id : Int
  n : Int
  tick : Int
  bytes : ByteArray
  err : Int
  sT : Int
  sA : Int
  sW : Int
  sR : Int
  sN : Int
  sS : Int
deriving DecidableEq
def ev0 : Ev := ⟨0, 0, 0, 0, ⟨#[]⟩, 0, 0, 0, 0, 0, 0, 0⟩
/-- An event of a kind, with the parts alone that the kind has. -/
def bareT (x : Ev) : Ev :=
  let o : Ev := { ev0 with kind := x.kind, id := x.id }
  if x.kind = 1 ∨ x.kind = 7 then { o with id := 0, tick := x.tick }
  else if x.kind = 2 then { o with n := x.n }
  else if x.kind = 3 then { o with n := x.n, err := x.err }
  else if x.kind = 4 ∨ x.kind = 6 then { o with n := (x.bytes.size : Int), bytes := x.bytes }
  else if x.kind = 8 then { o with sT := x.sT, sA := x.sA, sW := x.sW, sR := x.sR, sN := x.sN, sS := x.sS }
  else if x.kind = 9 then { o with id := 0 }
  else o
/-- Whether a number is from one to another. -/
def inT (n a b : Int) : Bool := decide (a ≤ n) && decide (n ≤ b)
def stepT (x : Ev) : Bool := decide (0 ≤ x.sT) && inT x.sA 0 200 && inT x.sW 1 14 && inT x.sR 0 7 && inT x.sN 0 4096 && inT x.sS 0 5
/-- Whether an event may be. -/
def goodT (x : Ev) : Bool :=
  decide (x = bareT x) && inT x.kind 1 9 &&
  (if x.kind = 1 ∨ x.kind = 7 then decide (0 ≤ x.tick)
   else if x.kind = 2 then inT x.id 0 4095 && inT x.n 0 63
   else if x.kind = 3 then inT x.id (-1) 4095 && inT x.err 1 13
   else if x.kind = 4 ∨ x.kind = 6 then inT x.id 0 4095 && inT x.n 1 4096
   else if x.kind = 8 then inT x.id 0 4095 && stepT x
   else inT x.id 0 4095)

def whatsL : List (List UInt8) := [[], [108, 111, 111, 107], [109, 97, 116, 99, 104], [116, 105, 109, 101, 111, 117, 116], [101, 111, 102], [108, 111, 97, 100], [115, 101, 110, 116], [106, 117, 109, 112], [119, 111, 107, 101], [100, 111, 110, 101], [102, 97, 105, 108], [108, 111, 111, 112, 101, 100], [100, 101, 97, 100, 108, 105, 110, 101], [111, 118, 101, 114, 102, 108, 111, 119], [100, 114, 97, 105, 110, 101, 100]]
def statsL : List (List UInt8) := [[114, 117, 110], [100, 111, 110, 101], [102, 97, 105, 108, 101, 100], [100, 101, 97, 100, 108, 105, 110, 101], [111, 118, 101, 114, 102, 108, 111, 119], [100, 114, 97, 105, 110, 101, 100]]
def wordT (l : List (List UInt8)) (n : Int) : List UInt8 := if n < 0 then [] else (l[n.toNat]?).getD []
def whatT (n : Int) : List UInt8 := wordT whatsL n
def statT (n : Int) : List UInt8 := wordT statsL n
def joinL : List (List UInt8) → List UInt8
  | [] => []
  | [x] => x
  | x :: y :: l => x ++ 32 :: joinL (y :: l)
/-- The words of a good event's line. -/
def evWords (x : Ev) : List (List UInt8) :=
  if x.kind = 1 then [[114, 111, 117, 110, 100], textT x.tick]
  else if x.kind = 7 then [[100, 114, 97, 105, 110], textT x.tick]
  else if x.kind = 2 then [[111, 112, 101, 110], Lib.itoa x.id, Lib.itoa x.n]
  else if x.kind = 3 then [[114, 101, 102, 117, 115, 101], Lib.itoa x.id, Lib.itoa x.n, Lib.itoa x.err]
  else if x.kind = 4 then [[114, 101, 97, 100], Lib.itoa x.id, quoteT x.bytes.data.toList]
  else if x.kind = 6 then [[119, 114, 105, 116, 101], Lib.itoa x.id, quoteT x.bytes.data.toList]
  else if x.kind = 5 then [[101, 111, 102], Lib.itoa x.id]
  else if x.kind = 8 then [[115, 116, 101, 112], Lib.itoa x.id, textT x.sT, Lib.itoa x.sA, whatT x.sW, Lib.itoa x.sR, Lib.itoa x.sN, statT x.sS]
  else [[115, 116, 111, 112]]
/-- An event's line. -/
def lineT (x : Ev) : List UInt8 := joinL (evWords x)
end Go.Proofs.YtmnkekepccdlcaaGreatDoor

namespace Go.Proofs.YtmnkekepccdlcaaGreatDoor
set_option linter.unusedVariables false
set_option linter.unusedSimpArgs false
open Go.RowKit

/-- Two steps, each of which leaves alone what it found. -/
theorem _root_.Go.RowKit.Below.up {B : Nat} {W w1 w2 : World} (h : Below B W w1) (k : Below w1.heap.size w1 w2) (hB : B ≤ W.heap.size := by first | exact Nat.le_refl _ | (simp; done) | (simp <;> omega)) : Below B W w2 :=
  h.trans (k.mono (Nat.le_trans hB h.size))

section
variable {P : Program}

/-- A world that lies behind w: below block B all is as it was. -/
structure Later (B : Nat) (w : World) where
  world : World
  below : Below B w world

instance laterNonempty {B : Nat} {w : World} : Nonempty (Later B w) := ⟨⟨w, Below.refl B w⟩⟩

theorem later_cell {w : World} {B : Nat} {a : Addr} {v : Value} (h : w.cell? a = some v) (hB : a.block < B) (u : Later B w) : u.world.cell? a = some v :=
  (u.below.cell hB).trans h
theorem block_lt {w : World} {a : Addr} {v : Value} (h : w.cell? a = some v) : a.block < w.heap.size := by
  rcases Nat.lt_or_ge a.block w.heap.size with hlt | hge
  · exact hlt
  · unfold World.cell? at h; rw [Array.getElem?_eq_none hge] at h; simp at h
theorem later_cell' {w : World} {a : Addr} {v : Value} (h : w.cell? a = some v) (u : Later w.heap.size w) : u.world.cell? a = some v :=
  later_cell h (block_lt h) u

theorem wp_region_later {id : Nat} {Q : Exit → Act → World → Prop} {a : Act} {w : World} {l : List Oper} (B : Nat) (hm : P.follows .mixedOrders = true) (hB : Region.lexB .any l.toArray = true)
    (h : wpQuiet P l.toArray (fun w' => ∃ u : Later B w, w' = u.world) (fun a' => ∀ w', Below B w w' → Q .normal a' w') l a) : (Code.region id l.toArray true).wp P Q a w := by
  refine wp_region_quiet (C := fun w' => ∃ u : Later B w, w' = u.world) hm hB ⟨⟨w.drew, (Below.refl B w).drew⟩, rfl⟩ ?_
  have e : (fun a' => ∀ w', (∃ u : Later B w, w' = u.world) → Q .normal a' w') = (fun a' => ∀ w', Below B w w' → Q .normal a' w') := by
    funext a'
    exact propext ⟨fun H w' hb => H w' ⟨⟨w', hb⟩, rfl⟩, fun H w' ⟨u, hu⟩ => by subst hu; exact H _ u.below⟩
  rw [e]
  simpa using h

theorem later_same {B : Nat} {w : World} {u : Later B w} {f : FuncId} {args : Array Value} {v : Value}
    (h : Calls P f args u.world fun e w' => e = .returned v ∧ u.world = w') : Calls P f args u.world fun e w'' => e = .returned v ∧ ∃ u' : Later B w, w'' = u'.world :=
  h.mono fun _ _ ⟨he, hw⟩ => ⟨he, u, hw.symm⟩
theorem later_below {B : Nat} {w : World} {u : Later B w} {f : FuncId} {args : Array Value} {v : Value} (hB : B ≤ w.heap.size)
    (h : Calls P f args u.world fun e w' => e = .returned v ∧ Below u.world.heap.size u.world w') : Calls P f args u.world fun e w'' => e = .returned v ∧ ∃ u' : Later B w, w'' = u'.world :=
  h.mono fun _ w' ⟨he, hb⟩ => ⟨he, ⟨w', u.below.trans (hb.mono (Nat.le_trans hB u.below.size))⟩, rfl⟩

theorem quiet_left {f : FuncId} {args : Array Value} {w : World} {n : Nat} {v : Value}
    (h : Calls P f args (w.drewN n) fun e w' => e = .returned v ∧ w.drewN n = w') : Calls P f args (w.drewN n) fun e w'' => e = .returned v ∧ ∃ m, w'' = w.drewN m :=
  h.mono fun _ _ ⟨he, hm⟩ => ⟨he, n, hm.symm⟩
theorem quiet_add_left {f : FuncId} {args : Array Value} {w : World} {a n : Nat} {v : Value}
    (h : Calls P f args (w.drewN (a + n)) fun e w' => e = .returned v ∧ w.drewN (a + n) = w') : Calls P f args (w.drewN (a + n)) fun e w'' => e = .returned v ∧ ∃ m, w'' = w.drewN (a + m) :=
  h.mono fun _ _ ⟨he, hm⟩ => ⟨he, n, hm.symm⟩

theorem below_drewN {B : Nat} {a w : World} (h : Below B a w) (n : Nat) : Below B a (w.drewN n) := ⟨h.os, h.tape, h.output, h.size, h.block⟩
/-- All old cells and marks read as before. -/
theorem bcell {W w1 : World} (hb : Below W.heap.size W w1) : (∀ b o, b < W.heap.size → w1.cell? ⟨b, o, none⟩ = W.cell? ⟨b, o, none⟩) ∧ (∀ b o, b < W.heap.size → w1.frozen? ⟨b, o, none⟩ = W.frozen? ⟨b, o, none⟩) :=
  ⟨fun b o h => hb.cell (p := ⟨b, o, none⟩) h, fun b o h => hb.frozen (p := ⟨b, o, none⟩) h⟩
end

/-! A region whose first n operations are quiet in a class of worlds, in whatever order, and whose last ones come one behind the other. -/
section
variable {P : Program} {ops : Array Oper} {md : Region.Mode} {C : World → Prop}

def headQ (P : Program) (md : Region.Mode) (ops : Array Oper) (C : World → Prop) (n : Nat) (L : Array Bool → Act → Prop) : Nat → Array Bool → Act → Prop
  | 0, listed, a => L listed a
  | f + 1, listed, a =>
    Region.ready md ops listed ≠ [] ∧ ∀ i ∈ Region.ready md ops listed, i < n ∧ qOp P ops C i (headQ P md ops C n L f (listed.setIfInBounds i true)) a

theorem wpAny_of_headQ {n g : Nat} {L : Array Bool → Act → Prop} {Q' : Exit → Act → World → Prop} (hL : ∀ listed a w, C w → L listed a → wpAny P md ops Q' g listed a w) :
    ∀ (f : Nat) (listed : Array Bool) (a : Act) (w : World), C w → headQ P md ops C n L f listed a → wpAny P md ops Q' (f + g) listed a w
  | 0, listed, a, w, hw, h => by rw [Nat.zero_add]; exact hL _ _ _ hw h
  | f + 1, listed, a, w, hw, h => by
    rw [show f + 1 + g = (f + g) + 1 by omega]
    exact ⟨fun h0 => absurd h0 h.1, fun i hi => wpOp_of_qOp hw (fun a' w' hw' h' => wpAny_of_headQ hL f _ a' w' hw' h') (h.2 i hi).2⟩

theorem headQ_first {n i : Nat} {oi : Oper} {v : Value} {L : Array Bool → Act → Prop} (hi : ops[i]? = some oi) (hsel : ∀ (j : Nat) (o : Oper) cs b, ops[j]? = some o → o.op ≠ .select cs b)
    (hs : Region.sinkB md ops n = true) (hc : Region.chainB md ops n = true) (hn : n < ops.size) (hin : i < n)
    (hdone : ∀ listed a, L listed a → ∀ j ∈ Region.ready md ops listed, n ≤ j) (f : Nat) :
    ∀ (listed : Array Bool) (a : Act), HeadInv md ops n listed →
      (∀ j oj, ops[j]? = some oj → j ≠ i → listed.getD j true = false → (∀ e ∈ oj.after, Region.binds md e = true → e.on ≠ i) → oi.apart ops oj = true) →
      i ∈ Region.ready md ops listed → YieldsIn P ops C oi v a →
      headQ P md ops C n L f (listed.setIfInBounds i true) (a.put oi.dst v) → headQ P md ops C n L (f + 1) listed a := by
  induction f with
  | zero =>
    intro listed a inv _ hr hy H
    refine ⟨fun h => (by rw [h] at hr; cases hr), fun j hj => ?_⟩
    have hjn : j < n := (Nat.lt_or_ge j n).elim id fun h => absurd hj (tail_waits hs hc hn inv _ i rfl hin (mem_ready.1 hr).1 j h)
    refine ⟨hjn, ?_⟩
    by_cases hji : j = i
    · subst hji; exact hy.qOp hi H
    · have := hdone _ _ H j (ready_mono hj hji)
      omega
  | succ f ih =>
    intro listed a inv hfree hr hy H
    have hun := (mem_ready.1 hr).1
    refine ⟨fun h => (by rw [h] at hr; cases hr), fun j hj => ?_⟩
    have hjn : j < n := (Nat.lt_or_ge j n).elim id fun h => absurd hj (tail_waits hs hc hn inv _ i rfl hin hun j h)
    refine ⟨hjn, ?_⟩
    by_cases hji : j = i
    · subst hji; exact hy.qOp hi H
    · obtain ⟨hjun, oj, hoj, hall⟩ := mem_ready.1 hj
      have hnot : ∀ e ∈ oj.after, Region.binds md e = true → e.on ≠ i := fun e he hb heq => by
        have h1 := hall e he hb
        rw [heq, getD_both hun] at h1
        cases h1
      have h2 := qOp_put hoj (hfree j oj hoj hji hjun hnot) (fun cs b => hsel i oi cs b hi) (fun cs b => hsel j oj cs b hoj) hy (H.2 j (ready_mono hj hji)).2
      refine qOp_mono (fun a' h3 => ih (listed.setIfInBounds j true) a' (inv.set hj hjn) (fun k ok hk hki hun' hno => hfree k ok hk hki ?_ hno) (ready_mono hr (Ne.symm hji)) h3.1 ?_) h2
      · by_cases hjk : j = k
        · subst hjk; exact hjun
        · rw [getD_set_ne true hjk] at hun'; exact hun'
      · rw [Array.setIfInBounds_comm _ _ hji]
        exact h3.2

theorem headQ_lex {n g : Nat} {Lq : Act → Prop} (hsel : Region.noSelect ops = true) (hs : Region.sinkB md ops n = true) (hc : Region.chainB md ops n = true) (hn : n < ops.size) :
    ∀ (l : List Oper) (k : Nat) (listed : Array Bool) (a : Act), (∀ j, j < l.length → l[j]? = ops[k + j]?) → k + l.length = n → HeadInv md ops n listed →
    Region.lexHead md ops g l.length k listed = true → wpQuiet P ops C Lq l a →
    headQ P md ops C n (fun listed' a' => Region.seqB md ops g n listed' = true ∧ Lq a') l.length listed a
  | [], k, listed, a, _, hk, _, hB, h => by
    obtain rfl : k = n := by simpa using hk
    exact ⟨by simpa [Region.lexHead] using hB, h⟩
  | o :: l, k, listed, a, hl, hk, inv, hB, h => by
    have h0 : ops[k]? = some o := by simpa using (hl 0 (by simp)).symm
    simp only [List.length_cons, Region.lexHead, Bool.and_eq_true] at hB
    have hkn : k < n := by simp only [List.length_cons] at hk; omega
    have hr' : k ∈ Region.ready md ops listed := by simpa using hB.1.1
    have hst : qOp P ops C k (wpQuiet P ops C Lq l) a := by unfold qOp; simp only [h0]; exact h
    obtain ⟨v, hy, hK⟩ := yieldsIn_of_qOp h0 hst
    exact headQ_first h0 (Region.noSelect_spec hsel) hs hc hn hkn (fun listed' a' hL => seqB_ready hL.1) l.length listed a inv (Region.free_spec h0 hB.1.2) hr' hy
      (headQ_lex hsel hs hc hn l (k + 1) _ _ (fun j hj => by have := hl (j + 1) (by simp; omega); simpa [Nat.add_assoc, Nat.add_comm 1 j] using this) (by simp only [List.length_cons] at hk; omega) (inv.set hr' hkn) hB.2 hK)

theorem wp_region_quiet_tail {id : Nat} {Q : Exit → Act → World → Prop} {a : Act} {w : World} {l : List Oper} (n : Nat) (hm : P.follows .mixedOrders = true) (hB : Region.lexTailB .any l.toArray n = true) (hC : C { w with drawn := w.drawn + 1 })
    (h : wpQuiet P l.toArray C (fun a' => ∀ w', C w' → wpList P l.toArray Q (l.drop n) a' w') (l.take n) a) : (Code.region id l.toArray true).wp P Q a w := by
  simp only [Region.lexTailB, Bool.and_eq_true, decide_eq_true_eq] at hB
  obtain ⟨⟨⟨⟨hsel, hn⟩, hs⟩, hc⟩, hlex⟩ := hB
  have hn' : n < l.length := by simpa using hn
  have htl : (l.take n).length = n := by simp; omega
  have hdl : (l.drop n).length = l.toArray.size - n := by simp
  have inv0 : HeadInv .any l.toArray n (Array.replicate l.toArray.size false) :=
    ⟨by simp, fun j oj _ hl => (by rw [getD_replicate_false] at hl; cases hl), fun t _ ht => getD_in (by simpa using ht) (getD_replicate_false _ _)⟩
  have H := headQ_lex (md := .any) (g := l.toArray.size - n) hsel hs hc hn (l.take n) 0 _ a (fun j hj => by
    have hj' : j < n := by rw [htl] at hj; exact hj
    simp [hj']) (by simpa using htl) inv0 (by rw [htl]; exact hlex) h
  refine wp_region_any hm ?_
  have := wpAny_of_headQ (Q' := Q) (g := l.toArray.size - n) (fun listed a' w' hw' hL => by
    have := wpAny_of_seq (md := .any) (Q' := Q) (l.drop n) n listed a' w' (fun j => by simp [List.getElem?_drop]) (by rw [hdl]; exact hL.1) (hL.2 w' hw')
    rwa [hdl] at this) _ _ _ _ hC H
  rw [htl, show n + (l.toArray.size - n) = l.toArray.size by omega] at this
  exact this

theorem wp_region_later_tail {id : Nat} {Q : Exit → Act → World → Prop} {a : Act} {w : World} {l : List Oper} (B n : Nat) (hm : P.follows .mixedOrders = true) (hB : Region.lexTailB .any l.toArray n = true)
    (h : wpQuiet P l.toArray (fun w' => ∃ u : Later B w, w' = u.world) (fun a' => ∀ w', Below B w w' → wpList P l.toArray Q (l.drop n) a' w') (l.take n) a) : (Code.region id l.toArray true).wp P Q a w := by
  refine wp_region_quiet_tail (C := fun w' => ∃ u : Later B w, w' = u.world) n hm hB ⟨⟨w.drew, (Below.refl B w).drew⟩, rfl⟩ ?_
  have e : (fun a' => ∀ w', (∃ u : Later B w, w' = u.world) → wpList P l.toArray Q (l.drop n) a' w') = (fun a' => ∀ w', Below B w w' → wpList P l.toArray Q (l.drop n) a' w') := by
    funext a'
    exact propext ⟨fun H w' hb => H w' ⟨⟨w', hb⟩, rfl⟩, fun H w' ⟨u, hu⟩ => by subst hu; exact H _ u.below⟩
  rw [e]
  exact h
end
end Go.Proofs.YtmnkekepccdlcaaGreatDoor

namespace Go.Proofs.YtmnkekepccdlcaaGreatDoor
set_option linter.unusedVariables false
set_option linter.unusedSimpArgs false
open Go.RowKit

def Blk (w : World) (g : Nat) (t : TypeId) (cs : Array Value) : Prop := w.heap[g]? = some (.cells cs t (0, 0))

section
variable {w w' : World} {g : Nat} {t : TypeId} {cs : Array Value}
theorem Blk.lt (h : Blk w g t cs) : g < w.heap.size := by
  rcases Nat.lt_or_ge g w.heap.size with hlt | hge
  · exact hlt
  · unfold Blk at h; rw [Array.getElem?_eq_none hge] at h; cases h
theorem Blk.cell (h : Blk w g t cs) (i : Nat) : w.cell? ⟨g, i, none⟩ = cs[i]? := cell_of_row w g i cs t (0, 0) h
theorem Blk.frozen (h : Blk w g t cs) (i : Nat) : w.frozen? ⟨g, i, none⟩ = false := by
  unfold Blk at h
  simp [World.frozen?, h]
theorem Blk.new (w : World) (t : TypeId) (cs : Array Value) : Blk (w.alloc (.cells cs t)) w.heap.size t cs := heap_alloc_new w _
theorem Blk.drew (h : Blk w g t cs) : Blk w.drew g t cs := h
theorem Blk.drewN (h : Blk w g t cs) (n : Nat) : Blk (w.drewN n) g t cs := h
theorem Blk.alloc (h : Blk w g t cs) (o : Obj) : Blk (w.alloc o) g t cs := (Below.heap_alloc w o g h.lt).trans h
theorem Blk.set_ (h : Blk w g t cs) (i : Nat) (u : Value) : Blk (w.setCell ⟨g, i, none⟩ u) g t (cs.setIfInBounds i u) := by
  unfold Blk at h ⊢
  simp [World.setCell, Array.getElem?_modify, h]
theorem Blk.far (h : Blk w g t cs) {p : Addr} (hp : g ≠ p.block) (u : Value) : Blk (w.setCell p u) g t cs := (Below.heap_setCell w p u g hp).trans h
theorem Blk.below {B : Nat} (h : Blk w g t cs) (hb : Below B w w') (hg : g < B) : Blk w' g t cs := (hb.block g hg).trans h
theorem Blk.later (h : Blk w g t cs) (hb : Below w.heap.size w w') : Blk w' g t cs := h.below hb h.lt
theorem Blk.grown {row : Option Nat} (h : Blk w g t cs) (hb : w.grownBy w' row) (hg : some g ≠ row) : Blk w' g t cs := (hb.block g h.lt hg).trans h
/-- What the walk asks of a cell, in every later world. -/
theorem Blk.at_ (h : Blk w g t cs) (i : Nat) {v : Value} (hv : cs[i]? = some v) : ∀ w', Below w.heap.size w w' → w'.cell? ⟨g, i, none⟩ = some v := fun _ hb => ((h.later hb).cell i).trans hv
theorem Blk.free (h : Blk w g t cs) : ∀ i w', Below w.heap.size w w' → w'.frozen? ⟨g, i, none⟩ = false := fun i _ hb => (h.later hb).frozen i
/-- The same of all its cells at once: simp takes each limb for a rule. -/
theorem Blk.at1 {x0 : Value} (h : Blk w g t #[x0]) : ∀ w', Below w.heap.size w w' → w'.cell? ⟨g, 0, none⟩ = some x0 ∧ ∀ i, w'.frozen? ⟨g, i, none⟩ = false := fun w' hb => ⟨h.at_ 0 rfl w' hb, fun i => h.free i w' hb⟩
theorem Blk.at2 {x0 x1 : Value} (h : Blk w g t #[x0, x1]) : ∀ w', Below w.heap.size w w' → w'.cell? ⟨g, 0, none⟩ = some x0 ∧ w'.cell? ⟨g, 1, none⟩ = some x1 ∧ ∀ i, w'.frozen? ⟨g, i, none⟩ = false := fun w' hb => ⟨h.at_ 0 rfl w' hb, h.at_ 1 rfl w' hb, fun i => h.free i w' hb⟩
theorem Blk.at3 {x0 x1 x2 : Value} (h : Blk w g t #[x0, x1, x2]) : ∀ w', Below w.heap.size w w' → w'.cell? ⟨g, 0, none⟩ = some x0 ∧ w'.cell? ⟨g, 1, none⟩ = some x1 ∧ w'.cell? ⟨g, 2, none⟩ = some x2 ∧ ∀ i, w'.frozen? ⟨g, i, none⟩ = false := fun w' hb => ⟨h.at_ 0 rfl w' hb, h.at_ 1 rfl w' hb, h.at_ 2 rfl w' hb, fun i => h.free i w' hb⟩
theorem Blk.at4 {x0 x1 x2 x3 : Value} (h : Blk w g t #[x0, x1, x2, x3]) : ∀ w', Below w.heap.size w w' → w'.cell? ⟨g, 0, none⟩ = some x0 ∧ w'.cell? ⟨g, 1, none⟩ = some x1 ∧ w'.cell? ⟨g, 2, none⟩ = some x2 ∧ w'.cell? ⟨g, 3, none⟩ = some x3 ∧ ∀ i, w'.frozen? ⟨g, i, none⟩ = false := fun w' hb => ⟨h.at_ 0 rfl w' hb, h.at_ 1 rfl w' hb, h.at_ 2 rfl w' hb, h.at_ 3 rfl w' hb, fun i => h.free i w' hb⟩
theorem Blk.at5 {x0 x1 x2 x3 x4 : Value} (h : Blk w g t #[x0, x1, x2, x3, x4]) : ∀ w', Below w.heap.size w w' → w'.cell? ⟨g, 0, none⟩ = some x0 ∧ w'.cell? ⟨g, 1, none⟩ = some x1 ∧ w'.cell? ⟨g, 2, none⟩ = some x2 ∧ w'.cell? ⟨g, 3, none⟩ = some x3 ∧ w'.cell? ⟨g, 4, none⟩ = some x4 ∧ ∀ i, w'.frozen? ⟨g, i, none⟩ = false := fun w' hb => ⟨h.at_ 0 rfl w' hb, h.at_ 1 rfl w' hb, h.at_ 2 rfl w' hb, h.at_ 3 rfl w' hb, h.at_ 4 rfl w' hb, fun i => h.free i w' hb⟩
theorem Blk.at6 {x0 x1 x2 x3 x4 x5 : Value} (h : Blk w g t #[x0, x1, x2, x3, x4, x5]) : ∀ w', Below w.heap.size w w' → w'.cell? ⟨g, 0, none⟩ = some x0 ∧ w'.cell? ⟨g, 1, none⟩ = some x1 ∧ w'.cell? ⟨g, 2, none⟩ = some x2 ∧ w'.cell? ⟨g, 3, none⟩ = some x3 ∧ w'.cell? ⟨g, 4, none⟩ = some x4 ∧ w'.cell? ⟨g, 5, none⟩ = some x5 ∧ ∀ i, w'.frozen? ⟨g, i, none⟩ = false := fun w' hb => ⟨h.at_ 0 rfl w' hb, h.at_ 1 rfl w' hb, h.at_ 2 rfl w' hb, h.at_ 3 rfl w' hb, h.at_ 4 rfl w' hb, h.at_ 5 rfl w' hb, fun i => h.free i w' hb⟩
theorem Blk.at7 {x0 x1 x2 x3 x4 x5 x6 : Value} (h : Blk w g t #[x0, x1, x2, x3, x4, x5, x6]) : ∀ w', Below w.heap.size w w' → w'.cell? ⟨g, 0, none⟩ = some x0 ∧ w'.cell? ⟨g, 1, none⟩ = some x1 ∧ w'.cell? ⟨g, 2, none⟩ = some x2 ∧ w'.cell? ⟨g, 3, none⟩ = some x3 ∧ w'.cell? ⟨g, 4, none⟩ = some x4 ∧ w'.cell? ⟨g, 5, none⟩ = some x5 ∧ w'.cell? ⟨g, 6, none⟩ = some x6 ∧ ∀ i, w'.frozen? ⟨g, i, none⟩ = false := fun w' hb => ⟨h.at_ 0 rfl w' hb, h.at_ 1 rfl w' hb, h.at_ 2 rfl w' hb, h.at_ 3 rfl w' hb, h.at_ 4 rfl w' hb, h.at_ 5 rfl w' hb, h.at_ 6 rfl w' hb, fun i => h.free i w' hb⟩
theorem Blk.at8 {x0 x1 x2 x3 x4 x5 x6 x7 : Value} (h : Blk w g t #[x0, x1, x2, x3, x4, x5, x6, x7]) : ∀ w', Below w.heap.size w w' → w'.cell? ⟨g, 0, none⟩ = some x0 ∧ w'.cell? ⟨g, 1, none⟩ = some x1 ∧ w'.cell? ⟨g, 2, none⟩ = some x2 ∧ w'.cell? ⟨g, 3, none⟩ = some x3 ∧ w'.cell? ⟨g, 4, none⟩ = some x4 ∧ w'.cell? ⟨g, 5, none⟩ = some x5 ∧ w'.cell? ⟨g, 6, none⟩ = some x6 ∧ w'.cell? ⟨g, 7, none⟩ = some x7 ∧ ∀ i, w'.frozen? ⟨g, i, none⟩ = false := fun w' hb => ⟨h.at_ 0 rfl w' hb, h.at_ 1 rfl w' hb, h.at_ 2 rfl w' hb, h.at_ 3 rfl w' hb, h.at_ 4 rfl w' hb, h.at_ 5 rfl w' hb, h.at_ 6 rfl w' hb, h.at_ 7 rfl w' hb, fun i => h.free i w' hb⟩

/-- A block of three cells, stored whole. -/
theorem Blk.set3 {p q r : Value} (h : Blk w g t #[p, q, r]) (x y z : Value) : Blk (((w.setCell ⟨g, 0, none⟩ x).setCell ⟨g, 1, none⟩ y).setCell ⟨g, 2, none⟩ z) g t #[x, y, z] := by
  have := ((h.set_ 0 x).set_ 1 y).set_ 2 z
  simpa using this
theorem Blk.far3 (h : Blk w g t cs) {b : Nat} (hb : g ≠ b) (x y z : Value) : Blk (((w.setCell ⟨b, 0, none⟩ x).setCell ⟨b, 1, none⟩ y).setCell ⟨b, 2, none⟩ z) g t cs :=
  ((h.far (p := ⟨b, 0, none⟩) hb x).far (p := ⟨b, 1, none⟩) hb y).far (p := ⟨b, 2, none⟩) hb z
theorem below_set3 {B : Nat} {a : World} (h : Below B a w) {b : Nat} (hb : B ≤ b) (x y z : Value) : Below B a (((w.setCell ⟨b, 0, none⟩ x).setCell ⟨b, 1, none⟩ y).setCell ⟨b, 2, none⟩ z) :=
  ((h.setCell (p := ⟨b, 0, none⟩) hb x).setCell (p := ⟨b, 1, none⟩) hb y).setCell (p := ⟨b, 2, none⟩) hb z
end
end Go.Proofs.YtmnkekepccdlcaaGreatDoor

namespace Go.Proofs.YtmnkekepccdlcaaGreatDoor
set_option linter.unusedVariables false
set_option linter.unusedSimpArgs false
open Go.RowKit

/-- A byte's cell. -/
abbrev bval (c : UInt8) : Value := .int .u8 (c.toNat : Int)
/-- Some bytes, owned by the call: a row from block B on. -/
def OB (e : TypeId) (B : Nat) (w : World) (v : Value) (l : List UInt8) : Prop := w.ownsRow B e 1 v l.length (l.map bval)

theorem cell_new1 (w : World) (t : TypeId) (v : Value) : (w.alloc (.cells #[v] t)).cell? ⟨w.heap.size, 0, none⟩ = some v := (Blk.new w t #[v]).cell 0

section
variable {P : Program} {e : TypeId} {B : Nat} {w w' : World} {v : Value} {l : List UInt8}
theorem OB.form (h : OB e B w v l) : ∃ ao cap, v = .slice ao l.length cap ∧ l.length ≤ maxLen := by
  rcases h.2 with ⟨rfl, h0⟩ | ⟨g, cap, cur, rfl, _, _, h1, h2, _⟩
  · exact ⟨none, 0, by rw [h0], by rw [h0]; exact Nat.zero_le _⟩
  · exact ⟨_, _, rfl, Nat.le_trans h1 h2⟩
theorem OB.nil (e : TypeId) (B : Nat) (w : World) : OB e B w (.slice none 0 0) [] := World.ownsRow_nil _ _ _ _
theorem OB.empty (hB : B ≤ w.heap.size) : OB e B (w.alloc (.cells #[] e)) (.slice (some ⟨w.heap.size, 0, none⟩) 0 0) [] :=
  World.ownsRow_made (size := 1) w #[] 0 hB (Nat.zero_le _) rfl
theorem OB.kept {row : Option Nat} (h : OB e B w v l) (hg : w.grownBy w' row) (hne : v.ownBlock = none ∨ v.ownBlock ≠ row) : OB e B w' v l := World.ownsRow.kept h hg hne
theorem OB.alloc (h : OB e B w v l) (o : Obj) : OB e B (w.alloc o) v l := World.ownsRow.alloc h o
theorem OB.drew (h : OB e B w v l) : OB e B w.drew v l := h
theorem OB.later (h : OB e B w v l) (hb : Below w.heap.size w w') : OB e B w' v l := by
  refine ⟨h.1, ?_⟩
  rcases h.2 with hn | ⟨g, cap, cur, rfl, h1, hg, rest⟩
  · exact .inl hn
  · exact .inr ⟨g, cap, cur, rfl, h1, (hb.block g (Array.getElem?_eq_some_iff.1 hg).1).trans hg, rest⟩
theorem OB.lt (h : OB e B w v l) : ∀ k, v.ownBlock = some k → B ≤ k ∧ k < w.heap.size := World.ownsRow.lt h
theorem OB.cast {l' : List UInt8} (h : OB e B w v l) (hl : l = l') : OB e B w v l' := hl ▸ h
theorem OB.below {w0 : World} (h : OB e B w v l) (hb : Below B w0 w) (hg : w.grownBy w' v.ownBlock) (hB : B ≤ w0.heap.size) : Below B w0 w' :=
  hb.grown hg (Nat.le_trans hB hb.size) (fun k hk => (h.lt k hk).1)

/-- Where the bytes lie. -/
theorem OB.cell {ao : Option Addr} {n cap : Nat} (h : OB e B w (.slice ao n cap) l) (i : Nat) (hi : i < l.length) : ∃ g, ao = some ⟨g, 0, none⟩ ∧ w.cell? ⟨g, i, none⟩ = some (bval l[i]) := by
  rcases h.2 with ⟨_, h0⟩ | ⟨g, cap', cur, hv, _, hg, _, _, _, ht⟩
  · omega
  · cases hv
    refine ⟨g, rfl, ?_⟩
    rw [cell_of_row w g i cur _ _ hg]
    have h5 : (cur.toList.take (l.length * 1))[i]? = some (bval l[i]) := by
      rw [ht, List.getElem?_map, List.getElem?_eq_getElem hi]; rfl
    rw [List.getElem?_take_of_lt (by omega)] at h5
    simpa using h5

/-- The bytes as a text, in every later world. -/
theorem OB.text {t dst : TypeId} {ao : Option Addr} {n cap : Nat} (h : OB e B w (.slice ao n cap) l) (hs : P.underlying t = some (.slice e)) (he : P.underlying e = some (.int .u8)) (hd : P.underlying dst = some .string) :
    ∀ w', Below w.heap.size w w' → (convert t dst (.slice ao n cap)).run P w' = .ok (.string ⟨l.toArray⟩) w' := by
  intro w' hb
  have h' := h.later hb
  rcases h'.2 with ⟨hv, h0⟩ | ⟨g, cap', cur, hv, _, hg, _, _, _, _⟩
  · cases hv
    obtain rfl := List.eq_nil_of_length_eq_zero h0
    rw [run_convert_bytes_string w' t dst e none 0 0 hs he hd]
    rfl
  · cases hv
    refine run_convert_bytes_back w' t dst e _ _ l hs he hd (fun j hj => ?_)
    obtain ⟨g', hg', hc⟩ := h'.cell j hj
    cases hg'
    rw [Addr.add_lit, Nat.zero_add]
    exact hc

theorem wpList_append_byte {te : TypeId} (infoB : (P.info? e).map (fun i => (i.zero, i.size, i.bytes)) = some (some (.int .u8 0), 1, 1)) (hte : P.underlying te = some (.slice e)) (w : World) {ops : Array Oper} {rest : List Oper} {o : Oper} {a : Act} {Q : Exit → Act → World → Prop}
    (hg : o.guard = none) (s x : Operand) (hop : o.op = Op.call { callee := Callee.builtin Builtin.append, args := #[s, x], argTypes := #[te, te] }) (B : Nat) (v : Value) (l : List UInt8) (hs : a.eval s = v) (h : OB e B w v l)
    (q : Nat) (hx : a.eval x = .slice (some ⟨q, 0, none⟩) 1 1) (c : UInt8) (hq : w.cell? ⟨q, 0, none⟩ = some (bval c)) (hm : l.length ≤ 1000000) (hB : B ≤ w.heap.size)
    (hK : ∀ ao cap w', OB e B w' (.slice ao (l.length + 1) cap) (l ++ [c]) → w.grownBy w' v.ownBlock → wpList P ops Q rest (a.put o.dst (.slice ao (l.length + 1) cap)) w') : wpList P ops Q (o :: rest) a w := by
  obtain ⟨i0, hi, hz0, hz1, hz2⟩ := info_parts infoB
  refine wpList_append_own w hg s x te hop B e i0 (.int .u8 0) 1 1 hte hi hz0 hz1 hz2 rfl (by decide) v l.length (l.map bval) hs h ⟨q, 0, none⟩ 1 1 [bval c] hx rfl ?_ ?_ (by unfold maxLen; omega) (by omega) hB ?_
  · intro j u hj
    match j, hj with
    | 0, hj => simp at hj; subst hj; simpa [Addr.add] using hq
  · intro u hu; simp at hu; subst hu; rfl
  · intro v' w' h1 h2 _
    have h3 : OB e B w' v' (l ++ [c]) := by
      unfold OB
      rw [List.map_append, List.length_append]
      exact h1
    obtain ⟨ao, cap, rfl, _⟩ := h3.form
    rw [List.length_append] at h3 ⊢
    exact hK ao cap w' h3 h2
end
abbrev bt (l : List UInt8) : ByteArray := ⟨l.toArray⟩
theorem u8_eq {c d : UInt8} (h : (c.toNat : Int) = (d.toNat : Int)) : c = d := by
  apply UInt8.toNat_inj.1; omega
theorem ne_b {n m : Int} (h : ¬ n = m) : (n == m) = false := beq_eq_false_iff_ne.2 h
theorem drop_at (s : ByteArray) (k : Nat) (h : k < s.size) : s.data.toList.drop k = s[k] :: s.data.toList.drop (k + 1) := List.drop_eq_getElem_cons (by simpa using h)
theorem drop_end (s : ByteArray) (k : Nat) (h : s.size ≤ k) : s.data.toList.drop k = [] := List.drop_of_length_le (by simpa using h)
end Go.Proofs.YtmnkekepccdlcaaGreatDoor

namespace Go.Proofs.YtmnkekepccdlcaaGreatDoor
set_option linter.unusedVariables false
set_option linter.unusedSimpArgs false
open Go.RowKit

/-- n elements of k cells each, owned by the call: a row from block B on. -/
abbrev ORow (e : TypeId) (k B : Nat) (w : World) (v : Value) (n : Nat) (xs : List Value) : Prop := w.ownsRow B e k v n xs

section
variable {P : Program} {e : TypeId} {k B : Nat} {w w' : World} {v : Value} {n : Nat} {xs : List Value}
theorem orow_form (h : ORow e k B w v n xs) : ∃ ao cap, v = .slice ao n cap ∧ n ≤ maxLen := by
  rcases h.2 with ⟨rfl, h0⟩ | ⟨g, cap, cur, rfl, _, _, h1, h2, _⟩
  · exact ⟨none, 0, by rw [h0], by rw [h0]; exact Nat.zero_le _⟩
  · exact ⟨_, _, rfl, Nat.le_trans h1 h2⟩
theorem orow_later (h : ORow e k B w v n xs) (hb : Below w.heap.size w w') : ORow e k B w' v n xs := by
  refine ⟨h.1, ?_⟩
  rcases h.2 with hn | ⟨g, cap, cur, rfl, h1, hg, rest⟩
  · exact .inl hn
  · exact .inr ⟨g, cap, cur, rfl, h1, (hb.block g (Array.getElem?_eq_some_iff.1 hg).1).trans hg, rest⟩
theorem orow_lower {B' : Nat} (h : ORow e k B w v n xs) (hB : B' ≤ B) : ORow e k B' w v n xs := by
  refine ⟨h.1, ?_⟩
  rcases h.2 with hn | ⟨g, cap, cur, rfl, h1, rest⟩
  · exact .inl hn
  · exact .inr ⟨g, cap, cur, rfl, Nat.le_trans hB h1, rest⟩
theorem orow_below {w0 : World} (h : ORow e k B w v n xs) (hb : Below B w0 w) (hg : w.grownBy w' v.ownBlock) (hB : B ≤ w0.heap.size) : Below B w0 w' :=
  hb.grown hg (Nat.le_trans hB hb.size) (fun j hj => (World.ownsRow.lt h j hj).1)
theorem orow_empty (e : TypeId) (k B : Nat) (w : World) (hB : B ≤ w.heap.size) : ORow e k B (w.alloc (.cells #[] e)) (.slice (some ⟨w.heap.size, 0, none⟩) 0 0) 0 [] :=
  World.ownsRow_made w #[] 0 hB (Nat.zero_le _) (by simp)

/-- Where a cell lies. -/
theorem orow_cell {ao : Option Addr} {m cap : Nat} (h : ORow e k B w (.slice ao m cap) n xs) (i : Nat) (hi : i < xs.length) :
    ∃ g, ao = some ⟨g, 0, none⟩ ∧ g < w.heap.size ∧ ∀ w', Below w.heap.size w w' → w'.cell? ⟨g, i, none⟩ = xs[i]? := by
  have hx := h.1
  rcases h.2 with ⟨_, h0⟩ | ⟨g, cap', cur, hv, _, hg, _, _, _, ht⟩
  · rw [h0, Nat.zero_mul] at hx
    omega
  · cases hv
    refine ⟨g, rfl, (Array.getElem?_eq_some_iff.1 hg).1, fun w' hb => ?_⟩
    have hg' := (hb.block g (Array.getElem?_eq_some_iff.1 hg).1).trans hg
    rw [cell_of_row w' g i cur _ _ hg', ← ht, List.getElem?_take_of_lt (by omega)]
    simp

theorem wpList_append_elem {te : TypeId} {z : Value} {bytes : Nat} (infoE : (P.info? e).map (fun i => (i.zero, i.size, i.bytes)) = some (some z, k, bytes)) (hz : z.cells.size = k) (hk : 0 < k) (hby : bytes ≤ 1000) (hte : P.underlying te = some (.slice e)) (w : World) {ops : Array Oper} {rest : List Oper} {o : Oper} {a : Act} {Q : Exit → Act → World → Prop}
    (hg : o.guard = none) (s x : Operand) (hop : o.op = Op.call { callee := Callee.builtin Builtin.append, args := #[s, x], argTypes := #[te, te] }) (B : Nat) (v : Value) (n : Nat) (xs : List Value) (hs : a.eval s = v) (h : ORow e k B w v n xs)
    (q : Nat) (hx : a.eval x = .slice (some ⟨q, 0, none⟩) 1 1) (news : List Value) (hl : news.length = k) (hq : ∀ j u, news[j]? = some u → w.cell? ⟨q, j, none⟩ = some u) (h1 : ∀ u ∈ news, u.oneCell' = true) (hm : n ≤ 1000000) (hB : B ≤ w.heap.size)
    (hK : ∀ ao cap w', ORow e k B w' (.slice ao (n + 1) cap) (n + 1) (xs ++ news) → w.grownBy w' v.ownBlock → wpList P ops Q rest (a.put o.dst (.slice ao (n + 1) cap)) w') : wpList P ops Q (o :: rest) a w := by
  obtain ⟨i0, hi, hz0, hz1, hz2⟩ := info_parts infoE
  have hbb : (n + 1) * bytes ≤ 1000001 * 1000 := Nat.mul_le_mul (by omega) hby
  refine wpList_append_own w hg s x te hop B e i0 z k bytes hte hi hz0 hz1 hz2 hz hk v n xs hs h ⟨q, 0, none⟩ 1 1 news hx (by omega) ?_ h1 (by unfold maxLen; omega) (by omega) hB ?_
  · intro j u hj
    rw [Addr.add_lit, Nat.zero_add]
    exact hq j u hj
  · intro v' w' h1 h2 _
    obtain ⟨ao, cap, rfl, _⟩ := orow_form h1
    exact hK ao cap w' h1 h2
end
end Go.Proofs.YtmnkekepccdlcaaGreatDoor
