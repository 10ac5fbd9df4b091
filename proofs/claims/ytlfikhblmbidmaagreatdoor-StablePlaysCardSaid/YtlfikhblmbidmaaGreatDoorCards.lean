/-
  DERIVED. GIVEN WITH THE SEED: THE CARDS: each row of YtlfikhblmbidmaaGreatDoorRows.lean that lists a variable, with what it lists TIED to the program's text (the seventh form; the later family's looks); each row that meets fmt, with fmt's text TOLD by the authors' own Lean function (tested against real Go, not proved from fmt's source: count such statements apart). THE CARD IS WHAT COUNTS. Prove the row's statement (the work); the ties are given (YtlfikhblmbidmaaGreatDoorTie.lean); close each card by the builder's one call (the guide's Derived/Test/ToyasCard.lean, 'card_holds'). Laid BY PROGRAM, IN A SANDBOX (cutbox-door.mjs). By AI agents, Wed Nov 11 2026. No macro, syntax, notation, axiom, sorry.
-/
import Derived.Test.YtlfikhblmbidmaaGreatDoorRows
import GoSem.ClaimSeven
namespace Go.Proofs.YtlfikhblmbidmaaGreatDoor
namespace Rows

/-- THE TIED CARD OF 'skaldlaw17.StableRefuses'. -/
def stableRefusesCard : Claim7 := { stood := { row := stableRefusesRow, standIns := [], harness := (true, "d47d5a7c8f0a7f4745603b2ccec0c09b18bd0eea839912e674aa57bef41042bb"), looks := true }, kinds := [], alts := [], laidByText := true, laidKinds := [.data], laidTests := true, laidLooks := .later }
def StableRefusesCardSaid : Prop := Claim7.holds Tryz.pinned (.plain (OpenSpec.ofChange stableRefusesSpec)) stableRefusesCard

/-- THE TIED CARD OF 'skaldlaw17.StableRecords'. -/
def stableRecordsCard : Claim7 := { stood := { row := stableRecordsRow, standIns := [], harness := (true, "d47d5a7c8f0a7f4745603b2ccec0c09b18bd0eea839912e674aa57bef41042bb"), looks := true }, kinds := [], alts := [], laidByText := true, laidKinds := [.data], laidTests := true, laidLooks := .later }
def StableRecordsCardSaid : Prop := Claim7.holds Tryz.pinned (.plain (OpenSpec.ofChange stableRecordsSpec)) stableRecordsCard

/-- THE TIED CARD OF 'skaldlaw17.StableBack'. -/
def stableBackCard : Claim7 := { stood := { row := stableBackRow, standIns := [], harness := (true, "d47d5a7c8f0a7f4745603b2ccec0c09b18bd0eea839912e674aa57bef41042bb"), looks := true }, kinds := [], alts := [], laidByText := true, laidKinds := [.data], laidTests := true, laidLooks := .later }
def StableBackCardSaid : Prop := Claim7.holds Tryz.pinned (.plain (OpenSpec.ofChange stableBackSpec)) stableBackCard

/-- THE TIED CARD OF 'skaldlaw17.StableRecovers'. -/
def stableRecoversCard : Claim7 := { stood := { row := stableRecoversRow, standIns := [], harness := (true, "d47d5a7c8f0a7f4745603b2ccec0c09b18bd0eea839912e674aa57bef41042bb"), looks := true }, kinds := [], alts := [], laidByText := true, laidKinds := [.data], laidTests := true, laidLooks := .later }
def StableRecoversCardSaid : Prop := Claim7.holds Tryz.pinned (.plain (OpenSpec.ofChange stableRecoversSpec)) stableRecoversCard

/-- THE TIED CARD OF 'skaldlaw17.StablePlays'. -/
def stablePlaysCard : Claim7 := { stood := { row := stablePlaysRow, standIns := [], harness := (true, "d47d5a7c8f0a7f4745603b2ccec0c09b18bd0eea839912e674aa57bef41042bb"), looks := true }, kinds := [], alts := [], laidByText := true, laidKinds := [.data], laidTests := true, laidLooks := .later }
def StablePlaysCardSaid : Prop := Claim7.holds Tryz.pinned (.plain (OpenSpec.ofChange stablePlaysSpec)) stablePlaysCard

/-- THE TIED CARD OF 'skaldlaw17.StableLong'. -/
def stableLongCard : Claim7 := { stood := { row := stableLongRow, standIns := [], harness := (true, "d47d5a7c8f0a7f4745603b2ccec0c09b18bd0eea839912e674aa57bef41042bb"), looks := true }, kinds := [], alts := [], laidByText := true, laidKinds := [.data], laidTests := true, laidLooks := .later }
def StableLongCardSaid : Prop := Claim7.holds Tryz.pinned (.plain (OpenSpec.ofChange stableLongSpec)) stableLongCard

/-- THE TIED CARD OF 'skaldlaw17.StableKeeps'. -/
def stableKeepsCard : Claim7 := { stood := { row := stableKeepsRow, standIns := [], harness := (true, "d47d5a7c8f0a7f4745603b2ccec0c09b18bd0eea839912e674aa57bef41042bb"), looks := true }, kinds := [], alts := [], laidByText := true, laidKinds := [.data], laidTests := true, laidLooks := .later }
def StableKeepsCardSaid : Prop := Claim7.holds Tryz.pinned (.plain (OpenSpec.ofChange stableKeepsSpec)) stableKeepsCard

/-- THE TIED CARD OF 'skaldlaw17.StableCompacts'. -/
def stableCompactsCard : Claim7 := { stood := { row := stableCompactsRow, standIns := [], harness := (true, "d47d5a7c8f0a7f4745603b2ccec0c09b18bd0eea839912e674aa57bef41042bb"), looks := true }, kinds := [], alts := [], laidByText := true, laidKinds := [.data], laidTests := true, laidLooks := .later }
def StableCompactsCardSaid : Prop := Claim7.holds Tryz.pinned (.plain (OpenSpec.ofChange stableCompactsSpec)) stableCompactsCard

/-- THE SECOND FORM's CARD OF 'skaldlaw17.StableRefuses'. -/
def stableRefusesUptoCard : Claim7 := { stood := { row := stableRefusesUptoRow, standIns := [], harness := (true, "d47d5a7c8f0a7f4745603b2ccec0c09b18bd0eea839912e674aa57bef41042bb"), looks := true }, kinds := [], alts := [], laidByText := true, laidKinds := [.data], laidTests := true, laidLooks := .later }
def StableRefusesUptoCardSaid : Prop := Claim7.holds Tryz.pinned (.plain (OpenSpec.upto stableRefusesSpec)) stableRefusesUptoCard

/-- THE SECOND FORM's CARD OF 'skaldlaw17.StableRecords'. -/
def stableRecordsUptoCard : Claim7 := { stood := { row := stableRecordsUptoRow, standIns := [], harness := (true, "d47d5a7c8f0a7f4745603b2ccec0c09b18bd0eea839912e674aa57bef41042bb"), looks := true }, kinds := [], alts := [], laidByText := true, laidKinds := [.data], laidTests := true, laidLooks := .later }
def StableRecordsUptoCardSaid : Prop := Claim7.holds Tryz.pinned (.plain (OpenSpec.upto stableRecordsSpec)) stableRecordsUptoCard

/-- THE SECOND FORM's CARD OF 'skaldlaw17.StableBack'. -/
def stableBackUptoCard : Claim7 := { stood := { row := stableBackUptoRow, standIns := [], harness := (true, "d47d5a7c8f0a7f4745603b2ccec0c09b18bd0eea839912e674aa57bef41042bb"), looks := true }, kinds := [], alts := [], laidByText := true, laidKinds := [.data], laidTests := true, laidLooks := .later }
def StableBackUptoCardSaid : Prop := Claim7.holds Tryz.pinned (.plain (OpenSpec.upto stableBackSpec)) stableBackUptoCard

/-- THE SECOND FORM's CARD OF 'skaldlaw17.StableRecovers'. -/
def stableRecoversUptoCard : Claim7 := { stood := { row := stableRecoversUptoRow, standIns := [], harness := (true, "d47d5a7c8f0a7f4745603b2ccec0c09b18bd0eea839912e674aa57bef41042bb"), looks := true }, kinds := [], alts := [], laidByText := true, laidKinds := [.data], laidTests := true, laidLooks := .later }
def StableRecoversUptoCardSaid : Prop := Claim7.holds Tryz.pinned (.plain (OpenSpec.upto stableRecoversSpec)) stableRecoversUptoCard

/-- THE SECOND FORM's CARD OF 'skaldlaw17.StablePlays'. -/
def stablePlaysUptoCard : Claim7 := { stood := { row := stablePlaysUptoRow, standIns := [], harness := (true, "d47d5a7c8f0a7f4745603b2ccec0c09b18bd0eea839912e674aa57bef41042bb"), looks := true }, kinds := [], alts := [], laidByText := true, laidKinds := [.data], laidTests := true, laidLooks := .later }
def StablePlaysUptoCardSaid : Prop := Claim7.holds Tryz.pinned (.plain (OpenSpec.upto stablePlaysSpec)) stablePlaysUptoCard

/-- THE SECOND FORM's CARD OF 'skaldlaw17.StableLong'. -/
def stableLongUptoCard : Claim7 := { stood := { row := stableLongUptoRow, standIns := [], harness := (true, "d47d5a7c8f0a7f4745603b2ccec0c09b18bd0eea839912e674aa57bef41042bb"), looks := true }, kinds := [], alts := [], laidByText := true, laidKinds := [.data], laidTests := true, laidLooks := .later }
def StableLongUptoCardSaid : Prop := Claim7.holds Tryz.pinned (.plain (OpenSpec.upto stableLongSpec)) stableLongUptoCard

/-- THE SECOND FORM's CARD OF 'skaldlaw17.StableKeeps'. -/
def stableKeepsUptoCard : Claim7 := { stood := { row := stableKeepsUptoRow, standIns := [], harness := (true, "d47d5a7c8f0a7f4745603b2ccec0c09b18bd0eea839912e674aa57bef41042bb"), looks := true }, kinds := [], alts := [], laidByText := true, laidKinds := [.data], laidTests := true, laidLooks := .later }
def StableKeepsUptoCardSaid : Prop := Claim7.holds Tryz.pinned (.plain (OpenSpec.upto stableKeepsSpec)) stableKeepsUptoCard

/-- THE SECOND FORM's CARD OF 'skaldlaw17.StableCompacts'. -/
def stableCompactsUptoCard : Claim7 := { stood := { row := stableCompactsUptoRow, standIns := [], harness := (true, "d47d5a7c8f0a7f4745603b2ccec0c09b18bd0eea839912e674aa57bef41042bb"), looks := true }, kinds := [], alts := [], laidByText := true, laidKinds := [.data], laidTests := true, laidLooks := .later }
def StableCompactsUptoCardSaid : Prop := Claim7.holds Tryz.pinned (.plain (OpenSpec.upto stableCompactsSpec)) stableCompactsUptoCard
end Rows
end Go.Proofs.YtlfikhblmbidmaaGreatDoor
