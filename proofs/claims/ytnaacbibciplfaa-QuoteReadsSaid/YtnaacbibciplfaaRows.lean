/-
  No cell of these rows narrows 'for every input' (looked for: loops, veiled, ifaces, maps, wideKeys, modest, calm, conditions, laid).
  DERIVED. THE GIVEN ROWS OF THIS SEAT. 4 by the template 'for every input the law returns true; each argument reads behind the call as it read before'; 0 by the template 'total and deterministic' (their statements: YtnaacbibciplfaaTotals.lean).
  GIVEN WITH THE SEED: the statements are not yours to turn. If you find one false, say at which input.
  Laid BY PROGRAM, IN A SANDBOX (cutbox-rows.mjs): the forced cells as the released guide's own fill.sh prints them over the translation b3d5f82014bf1958… (all of the seat's roots in one cut). By AI agents, Wed Nov 11 2026. No macro, syntax, notation, axiom, sorry.
-/
import Derived.Test.YtnaacbibciplfaaChecked
import GoSem.Claim
import GoSem.ClaimJoined
import GoSem.ClaimMapViews
import Derived.JoinedTies
import Derived.KernelRfl
namespace Go.Proofs.Ytnaacbibciplfaa
/- THE CELL 'sum', in the pinned program and in every row, IS THE sha256 OF THE DUMP (.gsa) THAT YtnaacbibciplfaaProg.lean LOADS. Nothing in Lean hashes anything: it is a label: what it is worth is what the hold of that sum in a sandbox is worth. -/
noncomputable def Try.pinned : Pinned := { name := "ytnaacbibciplfaa", sum := "b3d5f82014bf1958fd22852fee5e7fede32b5dba63bbcdf0a1db03626db22189", checked := Try.checked }
namespace Rows
def none {H : Type} : Left H := { results := [], args := [] }

/-- 'reparteelaw02.QuoteBack': WHATEVER THE INPUT: true; the input reads as it did. -/
def quoteBackSpec : ChangeSpec := { name := "quoteBack", fn := fun _ => fun
  | [d1, d2] => { results := [.lit (.bool true)], args := [d1, d2] }
  | _ => none }
def quoteBackRow : OpenClaim := { program := "ytnaacbibciplfaa", sum := "b3d5f82014bf1958fd22852fee5e7fede32b5dba63bbcdf0a1db03626db22189", func := "repartee/reparteelaw02.QuoteBack", spec := "quoteBack", inPlace := ["internal/abi.NoEscape"], apart := false }
def QuoteBackSaid : Prop := quoteBackRow.holds Try.pinned (OpenSpec.ofChange quoteBackSpec)

/-- ITS FALSE NEIGHBOUR: 'it returns false'. Refute it at one input. -/
def quoteBackWrong : ChangeSpec := { name := "quoteBack", fn := fun _ => fun
  | [d1, d2] => { results := [.lit (.bool false)], args := [d1, d2] }
  | _ => none }
def QuoteBackWrongFalsely : Prop := quoteBackRow.holds Try.pinned (OpenSpec.ofChange quoteBackWrong)

/-- 'reparteelaw02.QuoteStops': WHATEVER THE INPUT: true; the input reads as it did. -/
def quoteStopsSpec : ChangeSpec := { name := "quoteStops", fn := fun _ => fun
  | [d1, d2] => { results := [.lit (.bool true)], args := [d1, d2] }
  | _ => none }
def quoteStopsRow : OpenClaim := { program := "ytnaacbibciplfaa", sum := "b3d5f82014bf1958fd22852fee5e7fede32b5dba63bbcdf0a1db03626db22189", func := "repartee/reparteelaw02.QuoteStops", spec := "quoteStops", inPlace := ["internal/abi.NoEscape"], apart := false }
def QuoteStopsSaid : Prop := quoteStopsRow.holds Try.pinned (OpenSpec.ofChange quoteStopsSpec)

/-- ITS FALSE NEIGHBOUR: 'it returns false'. Refute it at one input. -/
def quoteStopsWrong : ChangeSpec := { name := "quoteStops", fn := fun _ => fun
  | [d1, d2] => { results := [.lit (.bool false)], args := [d1, d2] }
  | _ => none }
def QuoteStopsWrongFalsely : Prop := quoteStopsRow.holds Try.pinned (OpenSpec.ofChange quoteStopsWrong)

/-- 'reparteelaw02.QuoteReads': WHATEVER THE INPUT: true; the input reads as it did. -/
def quoteReadsSpec : ChangeSpec := { name := "quoteReads", fn := fun _ => fun
  | [d] => { results := [.lit (.bool true)], args := [d] }
  | _ => none }
def quoteReadsRow : OpenClaim := { program := "ytnaacbibciplfaa", sum := "b3d5f82014bf1958fd22852fee5e7fede32b5dba63bbcdf0a1db03626db22189", func := "repartee/reparteelaw02.QuoteReads", spec := "quoteReads", inPlace := ["internal/abi.NoEscape"], apart := false }
def QuoteReadsSaid : Prop := quoteReadsRow.holds Try.pinned (OpenSpec.ofChange quoteReadsSpec)

/-- ITS FALSE NEIGHBOUR: 'it returns false'. Refute it at one input. -/
def quoteReadsWrong : ChangeSpec := { name := "quoteReads", fn := fun _ => fun
  | [d] => { results := [.lit (.bool false)], args := [d] }
  | _ => none }
def QuoteReadsWrongFalsely : Prop := quoteReadsRow.holds Try.pinned (OpenSpec.ofChange quoteReadsWrong)

/-- 'reparteelaw02.QuoteWhole': WHATEVER THE INPUT: true; the input reads as it did. -/
def quoteWholeSpec : ChangeSpec := { name := "quoteWhole", fn := fun _ => fun
  | [d] => { results := [.lit (.bool true)], args := [d] }
  | _ => none }
def quoteWholeRow : OpenClaim := { program := "ytnaacbibciplfaa", sum := "b3d5f82014bf1958fd22852fee5e7fede32b5dba63bbcdf0a1db03626db22189", func := "repartee/reparteelaw02.QuoteWhole", spec := "quoteWhole", inPlace := ["internal/abi.NoEscape"], apart := false }
def QuoteWholeSaid : Prop := quoteWholeRow.holds Try.pinned (OpenSpec.ofChange quoteWholeSpec)

/-- ITS FALSE NEIGHBOUR: 'it returns false'. Refute it at one input. -/
def quoteWholeWrong : ChangeSpec := { name := "quoteWhole", fn := fun _ => fun
  | [d] => { results := [.lit (.bool false)], args := [d] }
  | _ => none }
def QuoteWholeWrongFalsely : Prop := quoteWholeRow.holds Try.pinned (OpenSpec.ofChange quoteWholeWrong)

/- THE SECOND FORM. 'bulk': how many values and letters a reading holds, each counted each time it is reached (what is shared counts as often as it is met; a slice's spare places count too). A statement '..UptoSaid' is the law's where the arguments, and the package variables that the reading takes, are together of bulk at most 1048576: NARROWER than '..Said'. Prove '..Said' where nothing that the law and all that it calls make is longer than what came in: it says more and counts as full. Else prove '..UptoSaid'. A law counts once. -/
mutual
def uptoBulk {H : Type} : DataW H → Nat
  | .lit (.string bytes) => bytes.length + 1
  | .lit _ => 1
  | .nil => 1
  | .ptr d => uptoBulk d + 1
  | .slice elems spare => uptoBulkAll elems + uptoBulkAll spare + 1
  | .agg parts => uptoBulkAll parts + 1
  | .iface _ d => uptoBulk d + 1
  | .map entries => uptoBulkEntries entries + 1
  | .held _ => 1
def uptoBulkAll {H : Type} : List (DataW H) → Nat
  | [] => 0
  | d :: r => uptoBulk d + uptoBulkAll r
def uptoBulkEntries {H : Type} : List (Lit × DataW H) → Nat
  | [] => 0
  | x :: r => uptoBulkEntry x + uptoBulkEntries r
def uptoBulkEntry {H : Type} : Lit × DataW H → Nat
  | (.string bytes, d) => bytes.length + uptoBulk d + 1
  | (_, d) => uptoBulk d + 1
 end
def uptoSmall : (H : Type) → List (DataW H) → Bool := fun _ ds => decide (uptoBulkAll ds ≤ 1048576)
def OpenSpec.upto (s : _root_.Go.ChangeSpec) : _root_.Go.OpenSpec := { _root_.Go.OpenSpec.ofChange s with cond := some uptoSmall }

/-- 'reparteelaw02.QuoteBack', WHERE WHAT IT READS IS OF BULK AT MOST 1048576: true; the input reads as it did. -/
def quoteBackUptoRow : OpenClaim := { program := "ytnaacbibciplfaa", sum := "b3d5f82014bf1958fd22852fee5e7fede32b5dba63bbcdf0a1db03626db22189", func := "repartee/reparteelaw02.QuoteBack", spec := "quoteBack", inPlace := ["internal/abi.NoEscape"], apart := false, narrowed := true }
def QuoteBackUptoSaid : Prop := quoteBackUptoRow.holds Try.pinned (OpenSpec.upto quoteBackSpec)

/-- 'reparteelaw02.QuoteStops', WHERE WHAT IT READS IS OF BULK AT MOST 1048576: true; the input reads as it did. -/
def quoteStopsUptoRow : OpenClaim := { program := "ytnaacbibciplfaa", sum := "b3d5f82014bf1958fd22852fee5e7fede32b5dba63bbcdf0a1db03626db22189", func := "repartee/reparteelaw02.QuoteStops", spec := "quoteStops", inPlace := ["internal/abi.NoEscape"], apart := false, narrowed := true }
def QuoteStopsUptoSaid : Prop := quoteStopsUptoRow.holds Try.pinned (OpenSpec.upto quoteStopsSpec)

/-- 'reparteelaw02.QuoteReads', WHERE WHAT IT READS IS OF BULK AT MOST 1048576: true; the input reads as it did. -/
def quoteReadsUptoRow : OpenClaim := { program := "ytnaacbibciplfaa", sum := "b3d5f82014bf1958fd22852fee5e7fede32b5dba63bbcdf0a1db03626db22189", func := "repartee/reparteelaw02.QuoteReads", spec := "quoteReads", inPlace := ["internal/abi.NoEscape"], apart := false, narrowed := true }
def QuoteReadsUptoSaid : Prop := quoteReadsUptoRow.holds Try.pinned (OpenSpec.upto quoteReadsSpec)

/-- 'reparteelaw02.QuoteWhole', WHERE WHAT IT READS IS OF BULK AT MOST 1048576: true; the input reads as it did. -/
def quoteWholeUptoRow : OpenClaim := { program := "ytnaacbibciplfaa", sum := "b3d5f82014bf1958fd22852fee5e7fede32b5dba63bbcdf0a1db03626db22189", func := "repartee/reparteelaw02.QuoteWhole", spec := "quoteWhole", inPlace := ["internal/abi.NoEscape"], apart := false, narrowed := true }
def QuoteWholeUptoSaid : Prop := quoteWholeUptoRow.holds Try.pinned (OpenSpec.upto quoteWholeSpec)

end Rows
end Go.Proofs.Ytnaacbibciplfaa
