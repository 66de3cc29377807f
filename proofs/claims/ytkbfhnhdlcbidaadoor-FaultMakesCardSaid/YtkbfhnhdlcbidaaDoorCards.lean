/-
  DERIVED. GIVEN WITH THE SEED: THE CARDS: each row of YtkbfhnhdlcbidaaDoorRows.lean that lists a variable, with what it lists TIED to the program's text (the seventh form; the later family's looks); each row that meets fmt, with fmt's text TOLD by the authors' own Lean function (tested against real Go, not proved from fmt's source: count such statements apart). THE CARD IS WHAT COUNTS. Prove the row's statement (the work); the ties are given (YtkbfhnhdlcbidaaDoorTie.lean); close each card by the builder's one call (the guide's Derived/Test/ToyasCard.lean, 'card_holds'). Laid BY PROGRAM, IN A SANDBOX (cutbox-door.mjs). By AI agents, Wed Nov 11 2026. No macro, syntax, notation, axiom, sorry.
-/
import Derived.Test.YtkbfhnhdlcbidaaDoorRows
import GoSem.ClaimSeven
namespace Go.Proofs.YtkbfhnhdlcbidaaDoor
namespace Rows

/-- THE TIED CARD OF 'reparteelaw16.FaultTexts'. -/
def faultTextsCard : Claim7 := { stood := { row := faultTextsRow, standIns := [], harness := (true, "5b685acf99953f4062cac959acb5c1ae78886b4217246f80889f93d6410644bc"), looks := true }, kinds := [], alts := [], laidByText := true, laidKinds := [.data, .data, .data], laidTests := true, laidLooks := .later }
def FaultTextsCardSaid : Prop := Claim7.holds Tryd.pinned (.plain (OpenSpec.ofChange faultTextsSpec)) faultTextsCard

/-- THE TIED CARD OF 'reparteelaw16.FaultPlaces'. -/
def faultPlacesCard : Claim7 := { stood := { row := faultPlacesRow, standIns := [], harness := (true, "5b685acf99953f4062cac959acb5c1ae78886b4217246f80889f93d6410644bc"), looks := true }, kinds := [], alts := [], laidByText := true, laidKinds := [.data, .data, .data, .handle], laidTests := true, laidLooks := .later }
def FaultPlacesCardSaid : Prop := Claim7.holds Tryd.pinned (.plain (OpenSpec.ofChange faultPlacesSpec)) faultPlacesCard

/-- THE TIED CARD OF 'reparteelaw16.FaultMakes'. -/
def faultMakesCard : Claim7 := { stood := { row := faultMakesRow, standIns := [], harness := (true, "5b685acf99953f4062cac959acb5c1ae78886b4217246f80889f93d6410644bc"), looks := true }, kinds := [], alts := [], laidByText := true, laidKinds := [.data, .data, .data, .handle], laidTests := true, laidLooks := .later }
def FaultMakesCardSaid : Prop := Claim7.holds Tryd.pinned (.plain (OpenSpec.ofChange faultMakesSpec)) faultMakesCard

/-- THE TIED CARD OF 'reparteelaw16.FaultCodes'. -/
def faultCodesCard : Claim7 := { stood := { row := faultCodesRow, standIns := [], harness := (true, "5b685acf99953f4062cac959acb5c1ae78886b4217246f80889f93d6410644bc"), looks := true }, kinds := [], alts := [], laidByText := true, laidKinds := [.data, .data, .data, .handle], laidTests := true, laidLooks := .later }
def FaultCodesCardSaid : Prop := Claim7.holds Tryd.pinned (.plain (OpenSpec.ofChange faultCodesSpec)) faultCodesCard

/-- THE TIED CARD OF 'reparteelaw01.TickRises'. -/
def tickRisesCard : Claim7 := { stood := { row := tickRisesRow, standIns := [], harness := (true, "5b685acf99953f4062cac959acb5c1ae78886b4217246f80889f93d6410644bc"), looks := true }, kinds := [], alts := [], laidByText := true, laidKinds := [.data, .data, .data, .sentinel, .sentinel], laidTests := true, laidLooks := .later }
def TickRisesCardSaid : Prop := Claim7.holds Tryd.pinned (.plain (OpenSpec.ofChange tickRisesSpec)) tickRisesCard

/-- THE TIED CARD OF 'reparteelaw01.TickTexts'. -/
def tickTextsCard : Claim7 := { stood := { row := tickTextsRow, standIns := [], harness := (true, "5b685acf99953f4062cac959acb5c1ae78886b4217246f80889f93d6410644bc"), looks := true }, kinds := [], alts := [], laidByText := true, laidKinds := [.data, .data, .data, .sentinel, .sentinel], laidTests := true, laidLooks := .later }
def TickTextsCardSaid : Prop := Claim7.holds Tryd.pinned (.plain (OpenSpec.ofChange tickTextsSpec)) tickTextsCard

/-- THE TIED CARD OF 'reparteelaw01.TickAdds'. -/
def tickAddsCard : Claim7 := { stood := { row := tickAddsRow, standIns := [], harness := (true, "5b685acf99953f4062cac959acb5c1ae78886b4217246f80889f93d6410644bc"), looks := true }, kinds := [], alts := [], laidByText := true, laidKinds := [.data, .data, .data, .sentinel, .sentinel], laidTests := true, laidLooks := .later }
def TickAddsCardSaid : Prop := Claim7.holds Tryd.pinned (.plain (OpenSpec.ofChange tickAddsSpec)) tickAddsCard

/-- THE TIED CARD OF 'reparteelaw01.TickDues'. -/
def tickDuesCard : Claim7 := { stood := { row := tickDuesRow, standIns := [], harness := (true, "5b685acf99953f4062cac959acb5c1ae78886b4217246f80889f93d6410644bc"), looks := true }, kinds := [], alts := [], laidByText := true, laidKinds := [.data, .data, .data, .sentinel, .sentinel], laidTests := true, laidLooks := .later }
def TickDuesCardSaid : Prop := Claim7.holds Tryd.pinned (.plain (OpenSpec.ofChange tickDuesSpec)) tickDuesCard

/-- THE SECOND FORM's CARD OF 'reparteelaw16.FaultTexts'. -/
def faultTextsUptoCard : Claim7 := { stood := { row := faultTextsUptoRow, standIns := [], harness := (true, "5b685acf99953f4062cac959acb5c1ae78886b4217246f80889f93d6410644bc"), looks := true }, kinds := [], alts := [], laidByText := true, laidKinds := [.data, .data, .data], laidTests := true, laidLooks := .later }
def FaultTextsUptoCardSaid : Prop := Claim7.holds Tryd.pinned (.plain (OpenSpec.upto faultTextsSpec)) faultTextsUptoCard

/-- THE SECOND FORM's CARD OF 'reparteelaw16.FaultPlaces'. -/
def faultPlacesUptoCard : Claim7 := { stood := { row := faultPlacesUptoRow, standIns := [], harness := (true, "5b685acf99953f4062cac959acb5c1ae78886b4217246f80889f93d6410644bc"), looks := true }, kinds := [], alts := [], laidByText := true, laidKinds := [.data, .data, .data, .handle], laidTests := true, laidLooks := .later }
def FaultPlacesUptoCardSaid : Prop := Claim7.holds Tryd.pinned (.plain (OpenSpec.upto faultPlacesSpec)) faultPlacesUptoCard

/-- THE SECOND FORM's CARD OF 'reparteelaw16.FaultMakes'. -/
def faultMakesUptoCard : Claim7 := { stood := { row := faultMakesUptoRow, standIns := [], harness := (true, "5b685acf99953f4062cac959acb5c1ae78886b4217246f80889f93d6410644bc"), looks := true }, kinds := [], alts := [], laidByText := true, laidKinds := [.data, .data, .data, .handle], laidTests := true, laidLooks := .later }
def FaultMakesUptoCardSaid : Prop := Claim7.holds Tryd.pinned (.plain (OpenSpec.upto faultMakesSpec)) faultMakesUptoCard

/-- THE SECOND FORM's CARD OF 'reparteelaw16.FaultCodes'. -/
def faultCodesUptoCard : Claim7 := { stood := { row := faultCodesUptoRow, standIns := [], harness := (true, "5b685acf99953f4062cac959acb5c1ae78886b4217246f80889f93d6410644bc"), looks := true }, kinds := [], alts := [], laidByText := true, laidKinds := [.data, .data, .data, .handle], laidTests := true, laidLooks := .later }
def FaultCodesUptoCardSaid : Prop := Claim7.holds Tryd.pinned (.plain (OpenSpec.upto faultCodesSpec)) faultCodesUptoCard

/-- THE SECOND FORM's CARD OF 'reparteelaw01.TickRises'. -/
def tickRisesUptoCard : Claim7 := { stood := { row := tickRisesUptoRow, standIns := [], harness := (true, "5b685acf99953f4062cac959acb5c1ae78886b4217246f80889f93d6410644bc"), looks := true }, kinds := [], alts := [], laidByText := true, laidKinds := [.data, .data, .data, .sentinel, .sentinel], laidTests := true, laidLooks := .later }
def TickRisesUptoCardSaid : Prop := Claim7.holds Tryd.pinned (.plain (OpenSpec.upto tickRisesSpec)) tickRisesUptoCard

/-- THE SECOND FORM's CARD OF 'reparteelaw01.TickTexts'. -/
def tickTextsUptoCard : Claim7 := { stood := { row := tickTextsUptoRow, standIns := [], harness := (true, "5b685acf99953f4062cac959acb5c1ae78886b4217246f80889f93d6410644bc"), looks := true }, kinds := [], alts := [], laidByText := true, laidKinds := [.data, .data, .data, .sentinel, .sentinel], laidTests := true, laidLooks := .later }
def TickTextsUptoCardSaid : Prop := Claim7.holds Tryd.pinned (.plain (OpenSpec.upto tickTextsSpec)) tickTextsUptoCard

/-- THE SECOND FORM's CARD OF 'reparteelaw01.TickAdds'. -/
def tickAddsUptoCard : Claim7 := { stood := { row := tickAddsUptoRow, standIns := [], harness := (true, "5b685acf99953f4062cac959acb5c1ae78886b4217246f80889f93d6410644bc"), looks := true }, kinds := [], alts := [], laidByText := true, laidKinds := [.data, .data, .data, .sentinel, .sentinel], laidTests := true, laidLooks := .later }
def TickAddsUptoCardSaid : Prop := Claim7.holds Tryd.pinned (.plain (OpenSpec.upto tickAddsSpec)) tickAddsUptoCard

/-- THE SECOND FORM's CARD OF 'reparteelaw01.TickDues'. -/
def tickDuesUptoCard : Claim7 := { stood := { row := tickDuesUptoRow, standIns := [], harness := (true, "5b685acf99953f4062cac959acb5c1ae78886b4217246f80889f93d6410644bc"), looks := true }, kinds := [], alts := [], laidByText := true, laidKinds := [.data, .data, .data, .sentinel, .sentinel], laidTests := true, laidLooks := .later }
def TickDuesUptoCardSaid : Prop := Claim7.holds Tryd.pinned (.plain (OpenSpec.upto tickDuesSpec)) tickDuesUptoCard
end Rows
end Go.Proofs.YtkbfhnhdlcbidaaDoor
