/-
  The events of a text, as log reads them.
  Conditions: the text is short; the errors of strconv and the tables stand in their variables.
-/
import Derived.Test.YtmnkekepccdlcaaDoorLogO
import Derived.Test.YtmnkekepccdlcaaDoorLines
namespace Go.Proofs.YtmnkekepccdlcaaDoor
set_option linter.unusedVariables false
set_option linter.unusedSimpArgs false
open Go.RowKit

/-- What is read of lines: the events, or which line is none. -/
def rdE : Nat → List (List UInt8) → Except Nat (List Ev)
  | _, [] => .ok []
  | k, x :: r => match parseEv x with
    | none => .error (k + 1)
    | some e => match rdE (k + 1) r with
      | .ok l => .ok (e :: l)
      | .error j => .error j
def preE (acc : List Ev) : Except Nat (List Ev) → Except Nat (List Ev)
  | .ok l => .ok (acc ++ l)
  | .error j => .error j
theorem preE_nil (r : Except Nat (List Ev)) : preE [] r = r := by cases r <;> rfl
theorem rdE_some {k : Nat} {x : List UInt8} {r : List (List UInt8)} {e : Ev} (acc : List Ev) (h : parseEv x = some e) : preE acc (rdE k (x :: r)) = preE (acc ++ [e]) (rdE (k + 1) r) := by
  show preE acc (match parseEv x with | none => .error (k + 1) | some e => match rdE (k + 1) r with | .ok l => .ok (e :: l) | .error j => .error j) = _
  rw [h]
  cases hr : rdE (k + 1) r with
  | ok l => simp [preE]
  | error j => rfl
theorem rdE_none {k : Nat} {x : List UInt8} {r : List (List UInt8)} (acc : List Ev) (h : parseEv x = none) : preE acc (rdE k (x :: r)) = .error (k + 1) := by
  show preE acc (match parseEv x with | none => .error (k + 1) | some e => match rdE (k + 1) r with | .ok l => .ok (e :: l) | .error j => .error j) = _
  rw [h]
  rfl
/-- Lines, but for an empty last one. -/
def cutL (L : List (List UInt8)) : List (List UInt8) := if L.getLast? = some [] then L.dropLast else L

theorem infoEv : (Tryd.prog.info? 32).map (fun i => (i.zero, i.size, i.bytes)) = some (some (.agg #[.int .i64 0, .int .i64 0, .int .i64 0, .int .i64 0, .string ⟨#[]⟩, .int .i64 0, .int .i64 0, .int .i64 0, .int .i64 0, .int .i64 0, .int .i64 0, .int .i64 0]), 12, 104) := by kernel_rfl
def evsCells (l : List Ev) : List Value := l.flatMap fun x => (evC x).toList
theorem evsCells_len : ∀ l : List Ev, (evsCells l).length = l.length * 12
  | [] => rfl
  | x :: l => by
    have := evsCells_len l
    unfold evsCells at this ⊢
    rw [List.flatMap_cons, List.length_append, this]
    simp only [List.length_cons, List.length_nil, List.size_toArray, Array.length_toList]
    omega
theorem evsCells_snoc (l : List Ev) (x : Ev) : evsCells (l ++ [x]) = evsCells l ++ (evC x).toList := by simp [evsCells]
theorem evsCells_at : ∀ (l : List Ev) (i : Nat) (h : i < l.length) (j : Nat), j < 12 → (evsCells l)[i * 12 + j]? = (evC l[i])[j]?
  | x :: l, 0, _, j, hj => by
    unfold evsCells
    rw [List.flatMap_cons, List.getElem?_append_left (by simp; omega)]
    simp
  | x :: l, i + 1, h, j, hj => by
    have ih := evsCells_at l i (by simpa using h) j hj
    unfold evsCells at ih ⊢
    rw [List.flatMap_cons, List.getElem?_append_right (by simp; omega)]
    have e : (i + 1) * 12 + j - (evC x).toList.length = i * 12 + j := by simp; omega
    rw [e, ih]
    rfl
/-- A row of events of the call's own. -/
def OEv (B : Nat) (w : World) (ao : Option Addr) (cap : Nat) (l : List Ev) : Prop := ORow 32 12 B w (.slice ao l.length cap) l.length (evsCells l)
theorem oev_later {B cap : Nat} {w w' : World} {ao : Option Addr} {l : List Ev} (h : OEv B w ao cap l) (hb : Below w.heap.size w w') : OEv B w' ao cap l := orow_later h hb
theorem oev_nil (B : Nat) (w : World) : OEv B w none 0 [] := ⟨rfl, .inl ⟨rfl, rfl⟩⟩
end Go.Proofs.YtmnkekepccdlcaaDoor
