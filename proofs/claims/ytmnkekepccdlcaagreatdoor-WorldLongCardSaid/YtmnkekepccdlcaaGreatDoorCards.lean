/-
  DERIVED. GIVEN WITH THE SEED: THE CARDS: each row of YtmnkekepccdlcaaGreatDoorRows.lean that lists a variable, with what it lists TIED to the program's text (the seventh form; the later family's looks); each row that meets fmt, with fmt's text TOLD by the authors' own Lean function (tested against real Go, not proved from fmt's source: count such statements apart). THE CARD IS WHAT COUNTS. Prove the row's statement (the work); the ties are given (YtmnkekepccdlcaaGreatDoorTie.lean); close each card by the builder's one call (the guide's Derived/Test/ToyasCard.lean, 'card_holds'). Laid BY PROGRAM, IN A SANDBOX (cutbox-door.mjs). By AI agents, Wed Nov 11 2026. No macro, syntax, notation, axiom, sorry.
-/
import Derived.Test.YtmnkekepccdlcaaGreatDoorRows
import GoSem.ClaimSeven
namespace Go.Proofs.YtmnkekepccdlcaaGreatDoor
namespace Rows

/-- THE TIED CARD OF 'reparteelaw30.LogParses'. -/
def logParsesCard : Claim7 := { stood := { row := logParsesRow, standIns := [], harness := (true, "fc56cee43d0c1eabbf46c62568a3dd6e8b63d1a9692b0a60a0dc7b5677763a19"), looks := true }, kinds := [], alts := [], laidByText := true, laidKinds := [.data, .data, .data, .data, .sentinel, .sentinel, .pinned], laidTests := true, laidLooks := .later }
def LogParsesCardSaid : Prop := Claim7.holds Tryz.pinned (.plain (OpenSpec.ofChange logParsesSpec)) logParsesCard

/-- THE TIED CARD OF 'reparteelaw30.LogPrints'. -/
def logPrintsCard : Claim7 := { stood := { row := logPrintsRow, standIns := [], harness := (true, "fc56cee43d0c1eabbf46c62568a3dd6e8b63d1a9692b0a60a0dc7b5677763a19"), looks := true }, kinds := [], alts := [], laidByText := true, laidKinds := [.data, .data, .data, .data, .sentinel, .sentinel, .pinned], laidTests := true, laidLooks := .later }
def LogPrintsCardSaid : Prop := Claim7.holds Tryz.pinned (.plain (OpenSpec.ofChange logPrintsSpec)) logPrintsCard

/-- THE TIED CARD OF 'reparteelaw30.LogWrites'. -/
def logWritesCard : Claim7 := { stood := { row := logWritesRow, standIns := [], harness := (true, "fc56cee43d0c1eabbf46c62568a3dd6e8b63d1a9692b0a60a0dc7b5677763a19"), looks := true }, kinds := [], alts := [], laidByText := true, laidKinds := [.data, .data, .data, .data, .sentinel, .sentinel, .pinned], laidTests := true, laidLooks := .later }
def LogWritesCardSaid : Prop := Claim7.holds Tryz.pinned (.plain (OpenSpec.ofChange logWritesSpec)) logWritesCard

/-- THE TIED CARD OF 'reparteelaw32.WorldLines'. -/
def worldLinesCard : Claim7 := { stood := { row := worldLinesRow, standIns := [], harness := (true, "fc56cee43d0c1eabbf46c62568a3dd6e8b63d1a9692b0a60a0dc7b5677763a19"), looks := true }, kinds := [], alts := [], laidByText := true, laidKinds := [.data, .data, .data, .data, .sentinel, .sentinel, .pinned], laidTests := true, laidLooks := .later }
def WorldLinesCardSaid : Prop := Claim7.holds Tryz.pinned (.plain (OpenSpec.ofChange worldLinesSpec)) worldLinesCard

/-- THE TIED CARD OF 'reparteelaw32.WorldReads'. -/
def worldReadsCard : Claim7 := { stood := { row := worldReadsRow, standIns := [], harness := (true, "fc56cee43d0c1eabbf46c62568a3dd6e8b63d1a9692b0a60a0dc7b5677763a19"), looks := true }, kinds := [], alts := [], laidByText := true, laidKinds := [.data, .data, .data, .data, .sentinel, .sentinel, .pinned], laidTests := true, laidLooks := .later }
def WorldReadsCardSaid : Prop := Claim7.holds Tryz.pinned (.plain (OpenSpec.ofChange worldReadsSpec)) worldReadsCard

/-- THE TIED CARD OF 'reparteelaw32.WorldWrites'. -/
def worldWritesCard : Claim7 := { stood := { row := worldWritesRow, standIns := [], harness := (true, "fc56cee43d0c1eabbf46c62568a3dd6e8b63d1a9692b0a60a0dc7b5677763a19"), looks := true }, kinds := [], alts := [], laidByText := true, laidKinds := [.data, .data, .data, .data, .sentinel, .sentinel, .pinned], laidTests := true, laidLooks := .later }
def WorldWritesCardSaid : Prop := Claim7.holds Tryz.pinned (.plain (OpenSpec.ofChange worldWritesSpec)) worldWritesCard

/-- THE TIED CARD OF 'reparteelaw32.WorldLong'. -/
def worldLongCard : Claim7 := { stood := { row := worldLongRow, standIns := [], harness := (true, "fc56cee43d0c1eabbf46c62568a3dd6e8b63d1a9692b0a60a0dc7b5677763a19"), looks := true }, kinds := [], alts := [], laidByText := true, laidKinds := [.data, .data, .data, .data, .sentinel, .sentinel, .pinned], laidTests := true, laidLooks := .later }
def WorldLongCardSaid : Prop := Claim7.holds Tryz.pinned (.plain (OpenSpec.ofChange worldLongSpec)) worldLongCard

/-- THE TIED CARD OF 'reparteelaw32.WorldPrints'. -/
def worldPrintsCard : Claim7 := { stood := { row := worldPrintsRow, standIns := [], harness := (true, "fc56cee43d0c1eabbf46c62568a3dd6e8b63d1a9692b0a60a0dc7b5677763a19"), looks := true }, kinds := [], alts := [], laidByText := true, laidKinds := [.data, .data, .data, .data, .sentinel, .sentinel, .pinned], laidTests := true, laidLooks := .later }
def WorldPrintsCardSaid : Prop := Claim7.holds Tryz.pinned (.plain (OpenSpec.ofChange worldPrintsSpec)) worldPrintsCard

/-- THE SECOND FORM's CARD OF 'reparteelaw30.LogParses'. -/
def logParsesUptoCard : Claim7 := { stood := { row := logParsesUptoRow, standIns := [], harness := (true, "fc56cee43d0c1eabbf46c62568a3dd6e8b63d1a9692b0a60a0dc7b5677763a19"), looks := true }, kinds := [], alts := [], laidByText := true, laidKinds := [.data, .data, .data, .data, .sentinel, .sentinel, .pinned], laidTests := true, laidLooks := .later }
def LogParsesUptoCardSaid : Prop := Claim7.holds Tryz.pinned (.plain (OpenSpec.upto logParsesSpec)) logParsesUptoCard

/-- THE SECOND FORM's CARD OF 'reparteelaw30.LogPrints'. -/
def logPrintsUptoCard : Claim7 := { stood := { row := logPrintsUptoRow, standIns := [], harness := (true, "fc56cee43d0c1eabbf46c62568a3dd6e8b63d1a9692b0a60a0dc7b5677763a19"), looks := true }, kinds := [], alts := [], laidByText := true, laidKinds := [.data, .data, .data, .data, .sentinel, .sentinel, .pinned], laidTests := true, laidLooks := .later }
def LogPrintsUptoCardSaid : Prop := Claim7.holds Tryz.pinned (.plain (OpenSpec.upto logPrintsSpec)) logPrintsUptoCard

/-- THE SECOND FORM's CARD OF 'reparteelaw30.LogWrites'. -/
def logWritesUptoCard : Claim7 := { stood := { row := logWritesUptoRow, standIns := [], harness := (true, "fc56cee43d0c1eabbf46c62568a3dd6e8b63d1a9692b0a60a0dc7b5677763a19"), looks := true }, kinds := [], alts := [], laidByText := true, laidKinds := [.data, .data, .data, .data, .sentinel, .sentinel, .pinned], laidTests := true, laidLooks := .later }
def LogWritesUptoCardSaid : Prop := Claim7.holds Tryz.pinned (.plain (OpenSpec.upto logWritesSpec)) logWritesUptoCard

/-- THE SECOND FORM's CARD OF 'reparteelaw32.WorldLines'. -/
def worldLinesUptoCard : Claim7 := { stood := { row := worldLinesUptoRow, standIns := [], harness := (true, "fc56cee43d0c1eabbf46c62568a3dd6e8b63d1a9692b0a60a0dc7b5677763a19"), looks := true }, kinds := [], alts := [], laidByText := true, laidKinds := [.data, .data, .data, .data, .sentinel, .sentinel, .pinned], laidTests := true, laidLooks := .later }
def WorldLinesUptoCardSaid : Prop := Claim7.holds Tryz.pinned (.plain (OpenSpec.upto worldLinesSpec)) worldLinesUptoCard

/-- THE SECOND FORM's CARD OF 'reparteelaw32.WorldReads'. -/
def worldReadsUptoCard : Claim7 := { stood := { row := worldReadsUptoRow, standIns := [], harness := (true, "fc56cee43d0c1eabbf46c62568a3dd6e8b63d1a9692b0a60a0dc7b5677763a19"), looks := true }, kinds := [], alts := [], laidByText := true, laidKinds := [.data, .data, .data, .data, .sentinel, .sentinel, .pinned], laidTests := true, laidLooks := .later }
def WorldReadsUptoCardSaid : Prop := Claim7.holds Tryz.pinned (.plain (OpenSpec.upto worldReadsSpec)) worldReadsUptoCard

/-- THE SECOND FORM's CARD OF 'reparteelaw32.WorldWrites'. -/
def worldWritesUptoCard : Claim7 := { stood := { row := worldWritesUptoRow, standIns := [], harness := (true, "fc56cee43d0c1eabbf46c62568a3dd6e8b63d1a9692b0a60a0dc7b5677763a19"), looks := true }, kinds := [], alts := [], laidByText := true, laidKinds := [.data, .data, .data, .data, .sentinel, .sentinel, .pinned], laidTests := true, laidLooks := .later }
def WorldWritesUptoCardSaid : Prop := Claim7.holds Tryz.pinned (.plain (OpenSpec.upto worldWritesSpec)) worldWritesUptoCard

/-- THE SECOND FORM's CARD OF 'reparteelaw32.WorldLong'. -/
def worldLongUptoCard : Claim7 := { stood := { row := worldLongUptoRow, standIns := [], harness := (true, "fc56cee43d0c1eabbf46c62568a3dd6e8b63d1a9692b0a60a0dc7b5677763a19"), looks := true }, kinds := [], alts := [], laidByText := true, laidKinds := [.data, .data, .data, .data, .sentinel, .sentinel, .pinned], laidTests := true, laidLooks := .later }
def WorldLongUptoCardSaid : Prop := Claim7.holds Tryz.pinned (.plain (OpenSpec.upto worldLongSpec)) worldLongUptoCard

/-- THE SECOND FORM's CARD OF 'reparteelaw32.WorldPrints'. -/
def worldPrintsUptoCard : Claim7 := { stood := { row := worldPrintsUptoRow, standIns := [], harness := (true, "fc56cee43d0c1eabbf46c62568a3dd6e8b63d1a9692b0a60a0dc7b5677763a19"), looks := true }, kinds := [], alts := [], laidByText := true, laidKinds := [.data, .data, .data, .data, .sentinel, .sentinel, .pinned], laidTests := true, laidLooks := .later }
def WorldPrintsUptoCardSaid : Prop := Claim7.holds Tryz.pinned (.plain (OpenSpec.upto worldPrintsSpec)) worldPrintsUptoCard
end Rows
end Go.Proofs.YtmnkekepccdlcaaGreatDoor
