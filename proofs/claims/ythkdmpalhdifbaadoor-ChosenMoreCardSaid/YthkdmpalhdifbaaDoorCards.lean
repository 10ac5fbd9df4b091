/-
  DERIVED. GIVEN WITH THE SEED: THE CARDS: each row of YthkdmpalhdifbaaDoorRows.lean that lists a variable, with what it lists TIED to the program's text (the seventh form; the later family's looks); each row that meets fmt, with fmt's text TOLD by the authors' own Lean function (tested against real Go, not proved from fmt's source: count such statements apart). THE CARD IS WHAT COUNTS. Prove the row's statement (the work); the ties are given (YthkdmpalhdifbaaDoorTie.lean); close each card by the builder's one call (the guide's Derived/Test/ToyasCard.lean, 'card_holds'). Laid BY PROGRAM, IN A SANDBOX (cutbox-door.mjs). By AI agents, Wed Nov 11 2026. No macro, syntax, notation, axiom, sorry.
-/
import Derived.Test.YthkdmpalhdifbaaDoorRows
import GoSem.ClaimSeven
namespace Go.Proofs.YthkdmpalhdifbaaDoor
namespace Rows

/-- THE TIED CARD OF 'skaldlaw25.ChosenTexts'. -/
def chosenTextsCard : Claim7 := { stood := { row := chosenTextsRow, standIns := [], harness := (true, "5cb9a539eee2cf813c4b77dafcd78c6dfe161c9e42baa75a84abbf0fccd2bc22"), looks := false }, kinds := [], alts := [], laidByText := true, laidKinds := [.data, .data, .data], laidTests := true, laidLooks := .later }
def ChosenTextsCardSaid : Prop := Claim7.holds Tryd.pinned (.plain (OpenSpec.ofChange chosenTextsSpec)) chosenTextsCard

/-- THE TIED CARD OF 'skaldlaw25.ChosenMore'. -/
def chosenMoreCard : Claim7 := { stood := { row := chosenMoreRow, standIns := [], harness := (true, "5cb9a539eee2cf813c4b77dafcd78c6dfe161c9e42baa75a84abbf0fccd2bc22"), looks := false }, kinds := [], alts := [], laidByText := true, laidKinds := [.data, .data, .data], laidTests := true, laidLooks := .later }
def ChosenMoreCardSaid : Prop := Claim7.holds Tryd.pinned (.plain (OpenSpec.ofChange chosenMoreSpec)) chosenMoreCard

/-- THE TIED CARD OF 'skaldlaw25.ChosenOnly'. -/
def chosenOnlyCard : Claim7 := { stood := { row := chosenOnlyRow, standIns := [], harness := (true, "5cb9a539eee2cf813c4b77dafcd78c6dfe161c9e42baa75a84abbf0fccd2bc22"), looks := false }, kinds := [], alts := [], laidByText := true, laidKinds := [.data, .data, .data], laidTests := true, laidLooks := .later }
def ChosenOnlyCardSaid : Prop := Claim7.holds Tryd.pinned (.plain (OpenSpec.ofChange chosenOnlySpec)) chosenOnlyCard

/-- THE TIED CARD OF 'skaldlaw25.ChosenAgrees'. -/
def chosenAgreesCard : Claim7 := { stood := { row := chosenAgreesRow, standIns := [], harness := (true, "5cb9a539eee2cf813c4b77dafcd78c6dfe161c9e42baa75a84abbf0fccd2bc22"), looks := false }, kinds := [], alts := [], laidByText := true, laidKinds := [.data, .data, .data], laidTests := true, laidLooks := .later }
def ChosenAgreesCardSaid : Prop := Claim7.holds Tryd.pinned (.plain (OpenSpec.ofChange chosenAgreesSpec)) chosenAgreesCard

/-- THE TIED CARD OF 'skaldlaw25.ChosenFree'. -/
def chosenFreeCard : Claim7 := { stood := { row := chosenFreeRow, standIns := [], harness := (true, "5cb9a539eee2cf813c4b77dafcd78c6dfe161c9e42baa75a84abbf0fccd2bc22"), looks := false }, kinds := [], alts := [], laidByText := true, laidKinds := [.data, .data, .data], laidTests := true, laidLooks := .later }
def ChosenFreeCardSaid : Prop := Claim7.holds Tryd.pinned (.plain (OpenSpec.ofChange chosenFreeSpec)) chosenFreeCard

/-- THE SECOND FORM's CARD OF 'skaldlaw25.ChosenTexts'. -/
def chosenTextsUptoCard : Claim7 := { stood := { row := chosenTextsUptoRow, standIns := [], harness := (true, "5cb9a539eee2cf813c4b77dafcd78c6dfe161c9e42baa75a84abbf0fccd2bc22"), looks := false }, kinds := [], alts := [], laidByText := true, laidKinds := [.data, .data, .data], laidTests := true, laidLooks := .later }
def ChosenTextsUptoCardSaid : Prop := Claim7.holds Tryd.pinned (.plain (OpenSpec.upto chosenTextsSpec)) chosenTextsUptoCard

/-- THE SECOND FORM's CARD OF 'skaldlaw25.ChosenMore'. -/
def chosenMoreUptoCard : Claim7 := { stood := { row := chosenMoreUptoRow, standIns := [], harness := (true, "5cb9a539eee2cf813c4b77dafcd78c6dfe161c9e42baa75a84abbf0fccd2bc22"), looks := false }, kinds := [], alts := [], laidByText := true, laidKinds := [.data, .data, .data], laidTests := true, laidLooks := .later }
def ChosenMoreUptoCardSaid : Prop := Claim7.holds Tryd.pinned (.plain (OpenSpec.upto chosenMoreSpec)) chosenMoreUptoCard

/-- THE SECOND FORM's CARD OF 'skaldlaw25.ChosenOnly'. -/
def chosenOnlyUptoCard : Claim7 := { stood := { row := chosenOnlyUptoRow, standIns := [], harness := (true, "5cb9a539eee2cf813c4b77dafcd78c6dfe161c9e42baa75a84abbf0fccd2bc22"), looks := false }, kinds := [], alts := [], laidByText := true, laidKinds := [.data, .data, .data], laidTests := true, laidLooks := .later }
def ChosenOnlyUptoCardSaid : Prop := Claim7.holds Tryd.pinned (.plain (OpenSpec.upto chosenOnlySpec)) chosenOnlyUptoCard

/-- THE SECOND FORM's CARD OF 'skaldlaw25.ChosenAgrees'. -/
def chosenAgreesUptoCard : Claim7 := { stood := { row := chosenAgreesUptoRow, standIns := [], harness := (true, "5cb9a539eee2cf813c4b77dafcd78c6dfe161c9e42baa75a84abbf0fccd2bc22"), looks := false }, kinds := [], alts := [], laidByText := true, laidKinds := [.data, .data, .data], laidTests := true, laidLooks := .later }
def ChosenAgreesUptoCardSaid : Prop := Claim7.holds Tryd.pinned (.plain (OpenSpec.upto chosenAgreesSpec)) chosenAgreesUptoCard

/-- THE SECOND FORM's CARD OF 'skaldlaw25.ChosenFree'. -/
def chosenFreeUptoCard : Claim7 := { stood := { row := chosenFreeUptoRow, standIns := [], harness := (true, "5cb9a539eee2cf813c4b77dafcd78c6dfe161c9e42baa75a84abbf0fccd2bc22"), looks := false }, kinds := [], alts := [], laidByText := true, laidKinds := [.data, .data, .data], laidTests := true, laidLooks := .later }
def ChosenFreeUptoCardSaid : Prop := Claim7.holds Tryd.pinned (.plain (OpenSpec.upto chosenFreeSpec)) chosenFreeUptoCard
end Rows
end Go.Proofs.YthkdmpalhdifbaaDoor
