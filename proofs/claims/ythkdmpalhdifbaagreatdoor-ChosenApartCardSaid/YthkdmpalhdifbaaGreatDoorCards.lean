/-
  DERIVED. GIVEN WITH THE SEED: THE CARDS: each row of YthkdmpalhdifbaaGreatDoorRows.lean that lists a variable, with what it lists TIED to the program's text (the seventh form; the later family's looks); each row that meets fmt, with fmt's text TOLD by the authors' own Lean function (tested against real Go, not proved from fmt's source: count such statements apart). THE CARD IS WHAT COUNTS. Prove the row's statement (the work); the ties are given (YthkdmpalhdifbaaGreatDoorTie.lean); close each card by the builder's one call (the guide's Derived/Test/ToyasCard.lean, 'card_holds'). Laid BY PROGRAM, IN A SANDBOX (cutbox-door.mjs). By AI agents, Wed Nov 11 2026. No macro, syntax, notation, axiom, sorry.
-/
import Derived.Test.YthkdmpalhdifbaaGreatDoorRows
import GoSem.ClaimSeven
namespace Go.Proofs.YthkdmpalhdifbaaGreatDoor
namespace Rows

/-- THE TIED CARD OF 'skaldlaw25.ChosenSafes'. -/
def chosenSafesCard : Claim7 := { stood := { row := chosenSafesRow, standIns := [], harness := (true, "746d7a33f314f896eac0e87649a9428a769f4599634587ab2b6ef1377e513519"), looks := false }, kinds := [], alts := [], laidByText := true, laidKinds := [.data, .data, .data], laidTests := true, laidLooks := .later }
def ChosenSafesCardSaid : Prop := Claim7.holds Tryz.pinned (.plain (OpenSpec.ofChange chosenSafesSpec)) chosenSafesCard

/-- THE TIED CARD OF 'skaldlaw25.ChosenChecks'. -/
def chosenChecksCard : Claim7 := { stood := { row := chosenChecksRow, standIns := [], harness := (true, "746d7a33f314f896eac0e87649a9428a769f4599634587ab2b6ef1377e513519"), looks := false }, kinds := [], alts := [], laidByText := true, laidKinds := [.data, .data, .data], laidTests := true, laidLooks := .later }
def ChosenChecksCardSaid : Prop := Claim7.holds Tryz.pinned (.plain (OpenSpec.ofChange chosenChecksSpec)) chosenChecksCard

/-- THE TIED CARD OF 'skaldlaw25.ChosenApart'. -/
def chosenApartCard : Claim7 := { stood := { row := chosenApartRow, standIns := [], harness := (true, "746d7a33f314f896eac0e87649a9428a769f4599634587ab2b6ef1377e513519"), looks := false }, kinds := [], alts := [], laidByText := true, laidKinds := [.data, .data, .data], laidTests := true, laidLooks := .later }
def ChosenApartCardSaid : Prop := Claim7.holds Tryz.pinned (.plain (OpenSpec.ofChange chosenApartSpec)) chosenApartCard

/-- THE TIED CARD OF 'skaldlaw25.ChosenRefuses'. -/
def chosenRefusesCard : Claim7 := { stood := { row := chosenRefusesRow, standIns := [], harness := (true, "746d7a33f314f896eac0e87649a9428a769f4599634587ab2b6ef1377e513519"), looks := false }, kinds := [], alts := [], laidByText := true, laidKinds := [.data, .data, .data], laidTests := true, laidLooks := .later }
def ChosenRefusesCardSaid : Prop := Claim7.holds Tryz.pinned (.plain (OpenSpec.ofChange chosenRefusesSpec)) chosenRefusesCard

/-- THE SECOND FORM's CARD OF 'skaldlaw25.ChosenSafes'. -/
def chosenSafesUptoCard : Claim7 := { stood := { row := chosenSafesUptoRow, standIns := [], harness := (true, "746d7a33f314f896eac0e87649a9428a769f4599634587ab2b6ef1377e513519"), looks := false }, kinds := [], alts := [], laidByText := true, laidKinds := [.data, .data, .data], laidTests := true, laidLooks := .later }
def ChosenSafesUptoCardSaid : Prop := Claim7.holds Tryz.pinned (.plain (OpenSpec.upto chosenSafesSpec)) chosenSafesUptoCard

/-- THE SECOND FORM's CARD OF 'skaldlaw25.ChosenChecks'. -/
def chosenChecksUptoCard : Claim7 := { stood := { row := chosenChecksUptoRow, standIns := [], harness := (true, "746d7a33f314f896eac0e87649a9428a769f4599634587ab2b6ef1377e513519"), looks := false }, kinds := [], alts := [], laidByText := true, laidKinds := [.data, .data, .data], laidTests := true, laidLooks := .later }
def ChosenChecksUptoCardSaid : Prop := Claim7.holds Tryz.pinned (.plain (OpenSpec.upto chosenChecksSpec)) chosenChecksUptoCard

/-- THE SECOND FORM's CARD OF 'skaldlaw25.ChosenApart'. -/
def chosenApartUptoCard : Claim7 := { stood := { row := chosenApartUptoRow, standIns := [], harness := (true, "746d7a33f314f896eac0e87649a9428a769f4599634587ab2b6ef1377e513519"), looks := false }, kinds := [], alts := [], laidByText := true, laidKinds := [.data, .data, .data], laidTests := true, laidLooks := .later }
def ChosenApartUptoCardSaid : Prop := Claim7.holds Tryz.pinned (.plain (OpenSpec.upto chosenApartSpec)) chosenApartUptoCard

/-- THE SECOND FORM's CARD OF 'skaldlaw25.ChosenRefuses'. -/
def chosenRefusesUptoCard : Claim7 := { stood := { row := chosenRefusesUptoRow, standIns := [], harness := (true, "746d7a33f314f896eac0e87649a9428a769f4599634587ab2b6ef1377e513519"), looks := false }, kinds := [], alts := [], laidByText := true, laidKinds := [.data, .data, .data], laidTests := true, laidLooks := .later }
def ChosenRefusesUptoCardSaid : Prop := Claim7.holds Tryz.pinned (.plain (OpenSpec.upto chosenRefusesSpec)) chosenRefusesUptoCard
end Rows
end Go.Proofs.YthkdmpalhdifbaaGreatDoor
