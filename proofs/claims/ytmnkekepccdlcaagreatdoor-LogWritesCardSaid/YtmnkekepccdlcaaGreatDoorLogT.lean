/-
  Events and their lines, as plain words: which may be, and how each is written.
  Conditions: none; no program is named.
-/
import Derived.Test.YtmnkekepccdlcaaGreatDoorTickT
import Derived.Test.YtmnkekepccdlcaaGreatDoorQuoteT
import Derived.Lib.ItoaMem
namespace Go.Proofs.YtmnkekepccdlcaaGreatDoor
set_option linter.unusedVariables false
set_option linter.unusedSimpArgs false

/-- An event: its kind, who, a number, a tick, bytes, an error, and a step's six numbers. -/
structure Ev where
  kind : Int
  id : Int
  n : Int
  tick : Int
  bytes : ByteArray
  err : Int
  sT : Int
  sA : Int
  sW : Int
  sR : Int
  sN : Int
  sS : Int
deriving DecidableEq
def ev0 : Ev := ⟨0, 0, 0, 0, ⟨#[]⟩, 0, 0, 0, 0, 0, 0, 0⟩
/-- An event of a kind, with the parts alone that the kind has. -/
def bareT (x : Ev) : Ev :=
  let o : Ev := { ev0 with kind := x.kind, id := x.id }
  if x.kind = 1 ∨ x.kind = 7 then { o with id := 0, tick := x.tick }
  else if x.kind = 2 then { o with n := x.n }
  else if x.kind = 3 then { o with n := x.n, err := x.err }
  else if x.kind = 4 ∨ x.kind = 6 then { o with n := (x.bytes.size : Int), bytes := x.bytes }
  else if x.kind = 8 then { o with sT := x.sT, sA := x.sA, sW := x.sW, sR := x.sR, sN := x.sN, sS := x.sS }
  else if x.kind = 9 then { o with id := 0 }
  else o
/-- Whether a number is from one to another. -/
def inT (n a b : Int) : Bool := decide (a ≤ n) && decide (n ≤ b)
def stepT (x : Ev) : Bool := decide (0 ≤ x.sT) && inT x.sA 0 200 && inT x.sW 1 14 && inT x.sR 0 7 && inT x.sN 0 4096 && inT x.sS 0 5
/-- Whether an event may be. -/
def goodT (x : Ev) : Bool :=
  decide (x = bareT x) && inT x.kind 1 9 &&
  (if x.kind = 1 ∨ x.kind = 7 then decide (0 ≤ x.tick)
   else if x.kind = 2 then inT x.id 0 4095 && inT x.n 0 63
   else if x.kind = 3 then inT x.id (-1) 4095 && inT x.err 1 13
   else if x.kind = 4 ∨ x.kind = 6 then inT x.id 0 4095 && inT x.n 1 4096
   else if x.kind = 8 then inT x.id 0 4095 && stepT x
   else inT x.id 0 4095)

def whatsL : List (List UInt8) := [[], [108, 111, 111, 107], [109, 97, 116, 99, 104], [116, 105, 109, 101, 111, 117, 116], [101, 111, 102], [108, 111, 97, 100], [115, 101, 110, 116], [106, 117, 109, 112], [119, 111, 107, 101], [100, 111, 110, 101], [102, 97, 105, 108], [108, 111, 111, 112, 101, 100], [100, 101, 97, 100, 108, 105, 110, 101], [111, 118, 101, 114, 102, 108, 111, 119], [100, 114, 97, 105, 110, 101, 100]]
def statsL : List (List UInt8) := [[114, 117, 110], [100, 111, 110, 101], [102, 97, 105, 108, 101, 100], [100, 101, 97, 100, 108, 105, 110, 101], [111, 118, 101, 114, 102, 108, 111, 119], [100, 114, 97, 105, 110, 101, 100]]
def wordT (l : List (List UInt8)) (n : Int) : List UInt8 := if n < 0 then [] else (l[n.toNat]?).getD []
def whatT (n : Int) : List UInt8 := wordT whatsL n
def statT (n : Int) : List UInt8 := wordT statsL n
def joinL : List (List UInt8) → List UInt8
  | [] => []
  | [x] => x
  | x :: y :: l => x ++ 32 :: joinL (y :: l)
/-- The words of a good event's line. -/
def evWords (x : Ev) : List (List UInt8) :=
  if x.kind = 1 then [[114, 111, 117, 110, 100], textT x.tick]
  else if x.kind = 7 then [[100, 114, 97, 105, 110], textT x.tick]
  else if x.kind = 2 then [[111, 112, 101, 110], Lib.itoa x.id, Lib.itoa x.n]
  else if x.kind = 3 then [[114, 101, 102, 117, 115, 101], Lib.itoa x.id, Lib.itoa x.n, Lib.itoa x.err]
  else if x.kind = 4 then [[114, 101, 97, 100], Lib.itoa x.id, quoteT x.bytes.data.toList]
  else if x.kind = 6 then [[119, 114, 105, 116, 101], Lib.itoa x.id, quoteT x.bytes.data.toList]
  else if x.kind = 5 then [[101, 111, 102], Lib.itoa x.id]
  else if x.kind = 8 then [[115, 116, 101, 112], Lib.itoa x.id, textT x.sT, Lib.itoa x.sA, whatT x.sW, Lib.itoa x.sR, Lib.itoa x.sN, statT x.sS]
  else [[115, 116, 111, 112]]
/-- An event's line. -/
def lineT (x : Ev) : List UInt8 := joinL (evWords x)
end Go.Proofs.YtmnkekepccdlcaaGreatDoor
