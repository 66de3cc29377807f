/-
  No cell of these rows narrows 'for every input' (looked for: loops, veiled, ifaces, maps, wideKeys, modest, calm, conditions, laid).
  DERIVED. THE GIVEN ROWS OF THIS SEAT. 12 by the template 'for every input the law returns true; each argument reads behind the call as it read before'; 0 by the template 'total and deterministic' (their statements: YtpnbcepljehogaaTotals.lean).
  GIVEN WITH THE SEED: the statements are not yours to turn. If you find one false, say at which input.
  Laid BY PROGRAM, IN A SANDBOX (cutbox-rows.mjs): the forced cells as the released guide's own fill.sh prints them over the translation 846ee1e953bae87f… (all of the seat's roots in one cut). By AI agents, Wed Nov 11 2026. No macro, syntax, notation, axiom, sorry.
-/
import Derived.Test.YtpnbcepljehogaaChecked
import GoSem.Claim
import GoSem.ClaimJoined
import GoSem.ClaimMapViews
import Derived.JoinedTies
import Derived.KernelRfl
namespace Go.Proofs.Ytpnbcepljehogaa
/- THE CELL 'sum', in the pinned program and in every row, IS THE sha256 OF THE DUMP (.gsa) THAT YtpnbcepljehogaaProg.lean LOADS. Nothing in Lean hashes anything: it is a label: what it is worth is what the hold of that sum in a sandbox is worth. -/
noncomputable def Try.pinned : Pinned := { name := "ytpnbcepljehogaa", sum := "846ee1e953bae87f8e3be44d1e42139b6af4a64750d06765850778972735e869", checked := Try.checked }
namespace Rows
def none {H : Type} : Left H := { results := [], args := [] }

/-- 'reparteelaw21.DueEnds': WHATEVER THE INPUT: true; the input reads as it did. -/
def dueEndsSpec : ChangeSpec := { name := "dueEnds", fn := fun _ => fun
  | [d1, d2, d3] => { results := [.lit (.bool true)], args := [d1, d2, d3] }
  | _ => none }
def dueEndsRow : OpenClaim := { program := "ytpnbcepljehogaa", sum := "846ee1e953bae87f8e3be44d1e42139b6af4a64750d06765850778972735e869", func := "repartee/reparteelaw21.DueEnds", spec := "dueEnds", apart := false }
def DueEndsSaid : Prop := dueEndsRow.holds Try.pinned (OpenSpec.ofChange dueEndsSpec)

/-- ITS FALSE NEIGHBOUR: 'it returns false'. Refute it at one input. -/
def dueEndsWrong : ChangeSpec := { name := "dueEnds", fn := fun _ => fun
  | [d1, d2, d3] => { results := [.lit (.bool false)], args := [d1, d2, d3] }
  | _ => none }
def DueEndsWrongFalsely : Prop := dueEndsRow.holds Try.pinned (OpenSpec.ofChange dueEndsWrong)

/-- 'reparteelaw21.DueMakes': WHATEVER THE INPUT: true; the input reads as it did. -/
def dueMakesSpec : ChangeSpec := { name := "dueMakes", fn := fun _ => fun
  | [d] => { results := [.lit (.bool true)], args := [d] }
  | _ => none }
def dueMakesRow : OpenClaim := { program := "ytpnbcepljehogaa", sum := "846ee1e953bae87f8e3be44d1e42139b6af4a64750d06765850778972735e869", func := "repartee/reparteelaw21.DueMakes", spec := "dueMakes", apart := false }
def DueMakesSaid : Prop := dueMakesRow.holds Try.pinned (OpenSpec.ofChange dueMakesSpec)

/-- ITS FALSE NEIGHBOUR: 'it returns false'. Refute it at one input. -/
def dueMakesWrong : ChangeSpec := { name := "dueMakes", fn := fun _ => fun
  | [d] => { results := [.lit (.bool false)], args := [d] }
  | _ => none }
def DueMakesWrongFalsely : Prop := dueMakesRow.holds Try.pinned (OpenSpec.ofChange dueMakesWrong)

/-- 'reparteelaw20.PendOrders': WHATEVER THE INPUT: true; the input reads as it did. -/
def pendOrdersSpec : ChangeSpec := { name := "pendOrders", fn := fun _ => fun
  | [d1, d2, d3] => { results := [.lit (.bool true)], args := [d1, d2, d3] }
  | _ => none }
def pendOrdersRow : OpenClaim := { program := "ytpnbcepljehogaa", sum := "846ee1e953bae87f8e3be44d1e42139b6af4a64750d06765850778972735e869", func := "repartee/reparteelaw20.PendOrders", spec := "pendOrders", apart := false }
def PendOrdersSaid : Prop := pendOrdersRow.holds Try.pinned (OpenSpec.ofChange pendOrdersSpec)

/-- ITS FALSE NEIGHBOUR: 'it returns false'. Refute it at one input. -/
def pendOrdersWrong : ChangeSpec := { name := "pendOrders", fn := fun _ => fun
  | [d1, d2, d3] => { results := [.lit (.bool false)], args := [d1, d2, d3] }
  | _ => none }
def PendOrdersWrongFalsely : Prop := pendOrdersRow.holds Try.pinned (OpenSpec.ofChange pendOrdersWrong)

/-- 'reparteelaw20.PendPlays': WHATEVER THE INPUT: true; the input reads as it did. -/
def pendPlaysSpec : ChangeSpec := { name := "pendPlays", fn := fun _ => fun
  | [d1, d2, d3] => { results := [.lit (.bool true)], args := [d1, d2, d3] }
  | _ => none }
def pendPlaysRow : OpenClaim := { program := "ytpnbcepljehogaa", sum := "846ee1e953bae87f8e3be44d1e42139b6af4a64750d06765850778972735e869", func := "repartee/reparteelaw20.PendPlays", spec := "pendPlays", apart := false }
def PendPlaysSaid : Prop := pendPlaysRow.holds Try.pinned (OpenSpec.ofChange pendPlaysSpec)

/-- ITS FALSE NEIGHBOUR: 'it returns false'. Refute it at one input. -/
def pendPlaysWrong : ChangeSpec := { name := "pendPlays", fn := fun _ => fun
  | [d1, d2, d3] => { results := [.lit (.bool false)], args := [d1, d2, d3] }
  | _ => none }
def PendPlaysWrongFalsely : Prop := pendPlaysRow.holds Try.pinned (OpenSpec.ofChange pendPlaysWrong)

/-- 'reparteelaw20.PendNil': WHATEVER THE INPUT: true; the input reads as it did. -/
def pendNilSpec : ChangeSpec := { name := "pendNil", fn := fun _ => fun
  | [d1, d2] => { results := [.lit (.bool true)], args := [d1, d2] }
  | _ => none }
def pendNilRow : OpenClaim := { program := "ytpnbcepljehogaa", sum := "846ee1e953bae87f8e3be44d1e42139b6af4a64750d06765850778972735e869", func := "repartee/reparteelaw20.PendNil", spec := "pendNil", apart := false }
def PendNilSaid : Prop := pendNilRow.holds Try.pinned (OpenSpec.ofChange pendNilSpec)

/-- ITS FALSE NEIGHBOUR: 'it returns false'. Refute it at one input. -/
def pendNilWrong : ChangeSpec := { name := "pendNil", fn := fun _ => fun
  | [d1, d2] => { results := [.lit (.bool false)], args := [d1, d2] }
  | _ => none }
def PendNilWrongFalsely : Prop := pendNilRow.holds Try.pinned (OpenSpec.ofChange pendNilWrong)

/-- 'reparteelaw25.WireLong': WHATEVER THE INPUT: true; the input reads as it did. -/
def wireLongSpec : ChangeSpec := { name := "wireLong", fn := fun _ => fun
  | [d] => { results := [.lit (.bool true)], args := [d] }
  | _ => none }
def wireLongRow : OpenClaim := { program := "ytpnbcepljehogaa", sum := "846ee1e953bae87f8e3be44d1e42139b6af4a64750d06765850778972735e869", func := "repartee/reparteelaw25.WireLong", spec := "wireLong", inPlace := ["internal/abi.NoEscape"], apart := false }
def WireLongSaid : Prop := wireLongRow.holds Try.pinned (OpenSpec.ofChange wireLongSpec)

/-- ITS FALSE NEIGHBOUR: 'it returns false'. Refute it at one input. -/
def wireLongWrong : ChangeSpec := { name := "wireLong", fn := fun _ => fun
  | [d] => { results := [.lit (.bool false)], args := [d] }
  | _ => none }
def WireLongWrongFalsely : Prop := wireLongRow.holds Try.pinned (OpenSpec.ofChange wireLongWrong)

/-- 'reparteelaw18.CostPrices': WHATEVER THE INPUT: true; the input reads as it did. -/
def costPricesSpec : ChangeSpec := { name := "costPrices", fn := fun _ => fun
  | [d1, d2] => { results := [.lit (.bool true)], args := [d1, d2] }
  | _ => none }
def costPricesRow : OpenClaim := { program := "ytpnbcepljehogaa", sum := "846ee1e953bae87f8e3be44d1e42139b6af4a64750d06765850778972735e869", func := "repartee/reparteelaw18.CostPrices", spec := "costPrices", apart := false }
def CostPricesSaid : Prop := costPricesRow.holds Try.pinned (OpenSpec.ofChange costPricesSpec)

/-- ITS FALSE NEIGHBOUR: 'it returns false'. Refute it at one input. -/
def costPricesWrong : ChangeSpec := { name := "costPrices", fn := fun _ => fun
  | [d1, d2] => { results := [.lit (.bool false)], args := [d1, d2] }
  | _ => none }
def CostPricesWrongFalsely : Prop := costPricesRow.holds Try.pinned (OpenSpec.ofChange costPricesWrong)

/-- 'reparteelaw18.CostWaits': WHATEVER THE INPUT: true; the input reads as it did. -/
def costWaitsSpec : ChangeSpec := { name := "costWaits", fn := fun _ => fun
  | [d1, d2, d3] => { results := [.lit (.bool true)], args := [d1, d2, d3] }
  | _ => none }
def costWaitsRow : OpenClaim := { program := "ytpnbcepljehogaa", sum := "846ee1e953bae87f8e3be44d1e42139b6af4a64750d06765850778972735e869", func := "repartee/reparteelaw18.CostWaits", spec := "costWaits", apart := false }
def CostWaitsSaid : Prop := costWaitsRow.holds Try.pinned (OpenSpec.ofChange costWaitsSpec)

/-- ITS FALSE NEIGHBOUR: 'it returns false'. Refute it at one input. -/
def costWaitsWrong : ChangeSpec := { name := "costWaits", fn := fun _ => fun
  | [d1, d2, d3] => { results := [.lit (.bool false)], args := [d1, d2, d3] }
  | _ => none }
def CostWaitsWrongFalsely : Prop := costWaitsRow.holds Try.pinned (OpenSpec.ofChange costWaitsWrong)

/-- 'reparteelaw18.CostRises': WHATEVER THE INPUT: true; the input reads as it did. -/
def costRisesSpec : ChangeSpec := { name := "costRises", fn := fun _ => fun
  | [d1, d2, d3] => { results := [.lit (.bool true)], args := [d1, d2, d3] }
  | _ => none }
def costRisesRow : OpenClaim := { program := "ytpnbcepljehogaa", sum := "846ee1e953bae87f8e3be44d1e42139b6af4a64750d06765850778972735e869", func := "repartee/reparteelaw18.CostRises", spec := "costRises", apart := false }
def CostRisesSaid : Prop := costRisesRow.holds Try.pinned (OpenSpec.ofChange costRisesSpec)

/-- ITS FALSE NEIGHBOUR: 'it returns false'. Refute it at one input. -/
def costRisesWrong : ChangeSpec := { name := "costRises", fn := fun _ => fun
  | [d1, d2, d3] => { results := [.lit (.bool false)], args := [d1, d2, d3] }
  | _ => none }
def CostRisesWrongFalsely : Prop := costRisesRow.holds Try.pinned (OpenSpec.ofChange costRisesWrong)

/-- 'reparteelaw25.WireOrders': WHATEVER THE INPUT: true; the input reads as it did. -/
def wireOrdersSpec : ChangeSpec := { name := "wireOrders", fn := fun _ => fun
  | [d1, d2] => { results := [.lit (.bool true)], args := [d1, d2] }
  | _ => none }
def wireOrdersRow : OpenClaim := { program := "ytpnbcepljehogaa", sum := "846ee1e953bae87f8e3be44d1e42139b6af4a64750d06765850778972735e869", func := "repartee/reparteelaw25.WireOrders", spec := "wireOrders", inPlace := ["internal/abi.NoEscape"], apart := false }
def WireOrdersSaid : Prop := wireOrdersRow.holds Try.pinned (OpenSpec.ofChange wireOrdersSpec)

/-- ITS FALSE NEIGHBOUR: 'it returns false'. Refute it at one input. -/
def wireOrdersWrong : ChangeSpec := { name := "wireOrders", fn := fun _ => fun
  | [d1, d2] => { results := [.lit (.bool false)], args := [d1, d2] }
  | _ => none }
def WireOrdersWrongFalsely : Prop := wireOrdersRow.holds Try.pinned (OpenSpec.ofChange wireOrdersWrong)

/-- 'reparteelaw25.WirePlays': WHATEVER THE INPUT: true; the input reads as it did. -/
def wirePlaysSpec : ChangeSpec := { name := "wirePlays", fn := fun _ => fun
  | [d1, d2] => { results := [.lit (.bool true)], args := [d1, d2] }
  | _ => none }
def wirePlaysRow : OpenClaim := { program := "ytpnbcepljehogaa", sum := "846ee1e953bae87f8e3be44d1e42139b6af4a64750d06765850778972735e869", func := "repartee/reparteelaw25.WirePlays", spec := "wirePlays", inPlace := ["internal/abi.NoEscape"], apart := false }
def WirePlaysSaid : Prop := wirePlaysRow.holds Try.pinned (OpenSpec.ofChange wirePlaysSpec)

/-- ITS FALSE NEIGHBOUR: 'it returns false'. Refute it at one input. -/
def wirePlaysWrong : ChangeSpec := { name := "wirePlays", fn := fun _ => fun
  | [d1, d2] => { results := [.lit (.bool false)], args := [d1, d2] }
  | _ => none }
def WirePlaysWrongFalsely : Prop := wirePlaysRow.holds Try.pinned (OpenSpec.ofChange wirePlaysWrong)

/-- 'reparteelaw25.WireNil': WHATEVER THE INPUT: true; the input reads as it did. -/
def wireNilSpec : ChangeSpec := { name := "wireNil", fn := fun _ => fun
  | [d1, d2] => { results := [.lit (.bool true)], args := [d1, d2] }
  | _ => none }
def wireNilRow : OpenClaim := { program := "ytpnbcepljehogaa", sum := "846ee1e953bae87f8e3be44d1e42139b6af4a64750d06765850778972735e869", func := "repartee/reparteelaw25.WireNil", spec := "wireNil", inPlace := ["internal/abi.NoEscape"], apart := false }
def WireNilSaid : Prop := wireNilRow.holds Try.pinned (OpenSpec.ofChange wireNilSpec)

/-- ITS FALSE NEIGHBOUR: 'it returns false'. Refute it at one input. -/
def wireNilWrong : ChangeSpec := { name := "wireNil", fn := fun _ => fun
  | [d1, d2] => { results := [.lit (.bool false)], args := [d1, d2] }
  | _ => none }
def WireNilWrongFalsely : Prop := wireNilRow.holds Try.pinned (OpenSpec.ofChange wireNilWrong)

/- THE SECOND FORM. 'bulk': how many values and letters a reading holds, each counted each time it is reached (what is shared counts as often as it is met; a slice's spare places count too). A statement '..UptoSaid' is the law's where the arguments, and the package variables that the reading takes, are together of bulk at most 1048576: NARROWER than '..Said'. Prove '..Said' where nothing that the law and all that it calls make is longer than what came in: it says more and counts as full. Else prove '..UptoSaid'. A law counts once. -/
mutual
def uptoBulk {H : Type} : DataW H → Nat
  | .lit (.string bytes) => bytes.length + 1
  | .lit _ => 1
  | .nil => 1
  | .ptr d => uptoBulk d + 1
  | .slice elems spare => uptoBulkAll elems + uptoBulkAll spare + 1
  | .agg parts => uptoBulkAll parts + 1
  | .iface _ d => uptoBulk d + 1
  | .map entries => uptoBulkEntries entries + 1
  | .held _ => 1
def uptoBulkAll {H : Type} : List (DataW H) → Nat
  | [] => 0
  | d :: r => uptoBulk d + uptoBulkAll r
def uptoBulkEntries {H : Type} : List (Lit × DataW H) → Nat
  | [] => 0
  | x :: r => uptoBulkEntry x + uptoBulkEntries r
def uptoBulkEntry {H : Type} : Lit × DataW H → Nat
  | (.string bytes, d) => bytes.length + uptoBulk d + 1
  | (_, d) => uptoBulk d + 1
 end
def uptoSmall : (H : Type) → List (DataW H) → Bool := fun _ ds => decide (uptoBulkAll ds ≤ 1048576)
def OpenSpec.upto (s : _root_.Go.ChangeSpec) : _root_.Go.OpenSpec := { _root_.Go.OpenSpec.ofChange s with cond := some uptoSmall }

/-- 'reparteelaw21.DueEnds', WHERE WHAT IT READS IS OF BULK AT MOST 1048576: true; the input reads as it did. -/
def dueEndsUptoRow : OpenClaim := { program := "ytpnbcepljehogaa", sum := "846ee1e953bae87f8e3be44d1e42139b6af4a64750d06765850778972735e869", func := "repartee/reparteelaw21.DueEnds", spec := "dueEnds", apart := false, narrowed := true }
def DueEndsUptoSaid : Prop := dueEndsUptoRow.holds Try.pinned (OpenSpec.upto dueEndsSpec)

/-- 'reparteelaw21.DueMakes', WHERE WHAT IT READS IS OF BULK AT MOST 1048576: true; the input reads as it did. -/
def dueMakesUptoRow : OpenClaim := { program := "ytpnbcepljehogaa", sum := "846ee1e953bae87f8e3be44d1e42139b6af4a64750d06765850778972735e869", func := "repartee/reparteelaw21.DueMakes", spec := "dueMakes", apart := false, narrowed := true }
def DueMakesUptoSaid : Prop := dueMakesUptoRow.holds Try.pinned (OpenSpec.upto dueMakesSpec)

/-- 'reparteelaw20.PendOrders', WHERE WHAT IT READS IS OF BULK AT MOST 1048576: true; the input reads as it did. -/
def pendOrdersUptoRow : OpenClaim := { program := "ytpnbcepljehogaa", sum := "846ee1e953bae87f8e3be44d1e42139b6af4a64750d06765850778972735e869", func := "repartee/reparteelaw20.PendOrders", spec := "pendOrders", apart := false, narrowed := true }
def PendOrdersUptoSaid : Prop := pendOrdersUptoRow.holds Try.pinned (OpenSpec.upto pendOrdersSpec)

/-- 'reparteelaw20.PendPlays', WHERE WHAT IT READS IS OF BULK AT MOST 1048576: true; the input reads as it did. -/
def pendPlaysUptoRow : OpenClaim := { program := "ytpnbcepljehogaa", sum := "846ee1e953bae87f8e3be44d1e42139b6af4a64750d06765850778972735e869", func := "repartee/reparteelaw20.PendPlays", spec := "pendPlays", apart := false, narrowed := true }
def PendPlaysUptoSaid : Prop := pendPlaysUptoRow.holds Try.pinned (OpenSpec.upto pendPlaysSpec)

/-- 'reparteelaw20.PendNil', WHERE WHAT IT READS IS OF BULK AT MOST 1048576: true; the input reads as it did. -/
def pendNilUptoRow : OpenClaim := { program := "ytpnbcepljehogaa", sum := "846ee1e953bae87f8e3be44d1e42139b6af4a64750d06765850778972735e869", func := "repartee/reparteelaw20.PendNil", spec := "pendNil", apart := false, narrowed := true }
def PendNilUptoSaid : Prop := pendNilUptoRow.holds Try.pinned (OpenSpec.upto pendNilSpec)

/-- 'reparteelaw25.WireLong', WHERE WHAT IT READS IS OF BULK AT MOST 1048576: true; the input reads as it did. -/
def wireLongUptoRow : OpenClaim := { program := "ytpnbcepljehogaa", sum := "846ee1e953bae87f8e3be44d1e42139b6af4a64750d06765850778972735e869", func := "repartee/reparteelaw25.WireLong", spec := "wireLong", inPlace := ["internal/abi.NoEscape"], apart := false, narrowed := true }
def WireLongUptoSaid : Prop := wireLongUptoRow.holds Try.pinned (OpenSpec.upto wireLongSpec)

/-- 'reparteelaw18.CostPrices', WHERE WHAT IT READS IS OF BULK AT MOST 1048576: true; the input reads as it did. -/
def costPricesUptoRow : OpenClaim := { program := "ytpnbcepljehogaa", sum := "846ee1e953bae87f8e3be44d1e42139b6af4a64750d06765850778972735e869", func := "repartee/reparteelaw18.CostPrices", spec := "costPrices", apart := false, narrowed := true }
def CostPricesUptoSaid : Prop := costPricesUptoRow.holds Try.pinned (OpenSpec.upto costPricesSpec)

/-- 'reparteelaw18.CostWaits', WHERE WHAT IT READS IS OF BULK AT MOST 1048576: true; the input reads as it did. -/
def costWaitsUptoRow : OpenClaim := { program := "ytpnbcepljehogaa", sum := "846ee1e953bae87f8e3be44d1e42139b6af4a64750d06765850778972735e869", func := "repartee/reparteelaw18.CostWaits", spec := "costWaits", apart := false, narrowed := true }
def CostWaitsUptoSaid : Prop := costWaitsUptoRow.holds Try.pinned (OpenSpec.upto costWaitsSpec)

/-- 'reparteelaw18.CostRises', WHERE WHAT IT READS IS OF BULK AT MOST 1048576: true; the input reads as it did. -/
def costRisesUptoRow : OpenClaim := { program := "ytpnbcepljehogaa", sum := "846ee1e953bae87f8e3be44d1e42139b6af4a64750d06765850778972735e869", func := "repartee/reparteelaw18.CostRises", spec := "costRises", apart := false, narrowed := true }
def CostRisesUptoSaid : Prop := costRisesUptoRow.holds Try.pinned (OpenSpec.upto costRisesSpec)

/-- 'reparteelaw25.WireOrders', WHERE WHAT IT READS IS OF BULK AT MOST 1048576: true; the input reads as it did. -/
def wireOrdersUptoRow : OpenClaim := { program := "ytpnbcepljehogaa", sum := "846ee1e953bae87f8e3be44d1e42139b6af4a64750d06765850778972735e869", func := "repartee/reparteelaw25.WireOrders", spec := "wireOrders", inPlace := ["internal/abi.NoEscape"], apart := false, narrowed := true }
def WireOrdersUptoSaid : Prop := wireOrdersUptoRow.holds Try.pinned (OpenSpec.upto wireOrdersSpec)

/-- 'reparteelaw25.WirePlays', WHERE WHAT IT READS IS OF BULK AT MOST 1048576: true; the input reads as it did. -/
def wirePlaysUptoRow : OpenClaim := { program := "ytpnbcepljehogaa", sum := "846ee1e953bae87f8e3be44d1e42139b6af4a64750d06765850778972735e869", func := "repartee/reparteelaw25.WirePlays", spec := "wirePlays", inPlace := ["internal/abi.NoEscape"], apart := false, narrowed := true }
def WirePlaysUptoSaid : Prop := wirePlaysUptoRow.holds Try.pinned (OpenSpec.upto wirePlaysSpec)

/-- 'reparteelaw25.WireNil', WHERE WHAT IT READS IS OF BULK AT MOST 1048576: true; the input reads as it did. -/
def wireNilUptoRow : OpenClaim := { program := "ytpnbcepljehogaa", sum := "846ee1e953bae87f8e3be44d1e42139b6af4a64750d06765850778972735e869", func := "repartee/reparteelaw25.WireNil", spec := "wireNil", inPlace := ["internal/abi.NoEscape"], apart := false, narrowed := true }
def WireNilUptoSaid : Prop := wireNilUptoRow.holds Try.pinned (OpenSpec.upto wireNilSpec)

end Rows
end Go.Proofs.Ytpnbcepljehogaa
