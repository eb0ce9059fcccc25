/-
  DERIVED. GIVEN WITH THE SEED: THE CARDS: each row of YtkfimbonmnoglaaGreatDoorRows.lean that lists a variable, with what it lists TIED to the program's text (the seventh form; the later family's looks); each row that meets fmt, with fmt's text TOLD by the authors' own Lean function (tested against real Go, not proved from fmt's source: count such statements apart). THE CARD IS WHAT COUNTS. Prove the row's statement (the work); the ties are given (YtkfimbonmnoglaaGreatDoorTie.lean); close each card by the builder's one call (the guide's Derived/Test/ToyasCard.lean, 'card_holds'). Laid BY PROGRAM, IN A SANDBOX (cutbox-door.mjs). By AI agents, Wed Nov 11 2026. No macro, syntax, notation, axiom, sorry.
-/
import Derived.Test.YtkfimbonmnoglaaGreatDoorRows
import GoSem.ClaimSeven
namespace Go.Proofs.YtkfimbonmnoglaaGreatDoor
namespace Rows

/-- THE TIED CARD OF 'stricklelaw02.SolidThen'. -/
def solidThenCard : Claim7 := { stood := { row := solidThenRow, standIns := [], harness := (true, "2d2b98d2e7a6d467bd98fd00f57c4e37e19420a44b0c74c4b8b93e866a403526"), looks := true }, kinds := [], alts := [], laidByText := true, laidKinds := [.data, .data, .data, .data, .sentinel, .sentinel, .pinned], laidTests := true, laidLooks := .later }
def SolidThenCardSaid : Prop := Claim7.holds Tryz.pinned (.plain (OpenSpec.ofChange solidThenSpec)) solidThenCard

/-- THE TIED CARD OF 'stricklelaw02.SolidCanon'. -/
def solidCanonCard : Claim7 := { stood := { row := solidCanonRow, standIns := [], harness := (true, "2d2b98d2e7a6d467bd98fd00f57c4e37e19420a44b0c74c4b8b93e866a403526"), looks := true }, kinds := [], alts := [], laidByText := true, laidKinds := [.data, .data, .data, .data, .sentinel, .sentinel, .pinned], laidTests := true, laidLooks := .later }
def SolidCanonCardSaid : Prop := Claim7.holds Tryz.pinned (.plain (OpenSpec.ofChange solidCanonSpec)) solidCanonCard

/-- THE TIED CARD OF 'stricklelaw02.SolidShape'. -/
def solidShapeCard : Claim7 := { stood := { row := solidShapeRow, standIns := [], harness := (true, "2d2b98d2e7a6d467bd98fd00f57c4e37e19420a44b0c74c4b8b93e866a403526"), looks := true }, kinds := [], alts := [], laidByText := true, laidKinds := [.data, .data, .data, .data, .sentinel, .sentinel, .pinned], laidTests := true, laidLooks := .later }
def SolidShapeCardSaid : Prop := Claim7.holds Tryz.pinned (.plain (OpenSpec.ofChange solidShapeSpec)) solidShapeCard

/-- THE TIED CARD OF 'stricklelaw02.SolidTexts'. -/
def solidTextsCard : Claim7 := { stood := { row := solidTextsRow, standIns := [], harness := (true, "2d2b98d2e7a6d467bd98fd00f57c4e37e19420a44b0c74c4b8b93e866a403526"), looks := true }, kinds := [], alts := [], laidByText := true, laidKinds := [.data, .data, .data, .data, .sentinel, .sentinel, .pinned], laidTests := true, laidLooks := .later }
def SolidTextsCardSaid : Prop := Claim7.holds Tryz.pinned (.plain (OpenSpec.ofChange solidTextsSpec)) solidTextsCard

/-- THE TIED CARD OF 'stricklelaw02.SolidBoth'. -/
def solidBothCard : Claim7 := { stood := { row := solidBothRow, standIns := [], harness := (true, "2d2b98d2e7a6d467bd98fd00f57c4e37e19420a44b0c74c4b8b93e866a403526"), looks := true }, kinds := [], alts := [], laidByText := true, laidKinds := [.data, .data, .data, .data, .sentinel, .sentinel, .pinned], laidTests := true, laidLooks := .later }
def SolidBothCardSaid : Prop := Claim7.holds Tryz.pinned (.plain (OpenSpec.ofChange solidBothSpec)) solidBothCard

/-- THE TIED CARD OF 'stricklelaw02.SolidOrbits'. -/
def solidOrbitsCard : Claim7 := { stood := { row := solidOrbitsRow, standIns := [], harness := (true, "2d2b98d2e7a6d467bd98fd00f57c4e37e19420a44b0c74c4b8b93e866a403526"), looks := true }, kinds := [], alts := [], laidByText := true, laidKinds := [.data, .data, .data, .data, .sentinel, .sentinel, .pinned], laidTests := true, laidLooks := .later }
def SolidOrbitsCardSaid : Prop := Claim7.holds Tryz.pinned (.plain (OpenSpec.ofChange solidOrbitsSpec)) solidOrbitsCard

/-- THE TIED CARD OF 'stricklelaw02.SolidFits'. -/
def solidFitsCard : Claim7 := { stood := { row := solidFitsRow, standIns := [], harness := (true, "2d2b98d2e7a6d467bd98fd00f57c4e37e19420a44b0c74c4b8b93e866a403526"), looks := true }, kinds := [], alts := [], laidByText := true, laidKinds := [.data, .data, .data, .data, .sentinel, .sentinel, .pinned], laidTests := true, laidLooks := .later }
def SolidFitsCardSaid : Prop := Claim7.holds Tryz.pinned (.plain (OpenSpec.ofChange solidFitsSpec)) solidFitsCard

/-- THE TIED CARD OF 'stricklelaw02.SolidParts'. -/
def solidPartsCard : Claim7 := { stood := { row := solidPartsRow, standIns := [], harness := (true, "2d2b98d2e7a6d467bd98fd00f57c4e37e19420a44b0c74c4b8b93e866a403526"), looks := true }, kinds := [], alts := [], laidByText := true, laidKinds := [.data, .data, .data, .data, .sentinel, .sentinel, .pinned], laidTests := true, laidLooks := .later }
def SolidPartsCardSaid : Prop := Claim7.holds Tryz.pinned (.plain (OpenSpec.ofChange solidPartsSpec)) solidPartsCard

/-- THE TIED CARD OF 'stricklelaw02.SolidTurns'. -/
def solidTurnsCard : Claim7 := { stood := { row := solidTurnsRow, standIns := [], harness := (true, "2d2b98d2e7a6d467bd98fd00f57c4e37e19420a44b0c74c4b8b93e866a403526"), looks := true }, kinds := [], alts := [], laidByText := true, laidKinds := [.data, .data, .data, .data, .sentinel, .sentinel, .pinned], laidTests := true, laidLooks := .later }
def SolidTurnsCardSaid : Prop := Claim7.holds Tryz.pinned (.plain (OpenSpec.ofChange solidTurnsSpec)) solidTurnsCard

/-- THE TIED CARD OF 'stricklelaw02.SolidFilled'. -/
def solidFilledCard : Claim7 := { stood := { row := solidFilledRow, standIns := [], harness := (true, "2d2b98d2e7a6d467bd98fd00f57c4e37e19420a44b0c74c4b8b93e866a403526"), looks := true }, kinds := [], alts := [], laidByText := true, laidKinds := [.data, .data, .data, .data, .sentinel, .sentinel, .pinned], laidTests := true, laidLooks := .later }
def SolidFilledCardSaid : Prop := Claim7.holds Tryz.pinned (.plain (OpenSpec.ofChange solidFilledSpec)) solidFilledCard

/-- THE TIED CARD OF 'stricklelaw02.SolidPlaces'. -/
def solidPlacesCard : Claim7 := { stood := { row := solidPlacesRow, standIns := [], harness := (true, "2d2b98d2e7a6d467bd98fd00f57c4e37e19420a44b0c74c4b8b93e866a403526"), looks := true }, kinds := [], alts := [], laidByText := true, laidKinds := [.data, .data, .data, .data, .sentinel, .sentinel, .pinned], laidTests := true, laidLooks := .later }
def SolidPlacesCardSaid : Prop := Claim7.holds Tryz.pinned (.plain (OpenSpec.ofChange solidPlacesSpec)) solidPlacesCard

/-- THE TIED CARD OF 'stricklelaw02.SolidOrder'. -/
def solidOrderCard : Claim7 := { stood := { row := solidOrderRow, standIns := [], harness := (true, "2d2b98d2e7a6d467bd98fd00f57c4e37e19420a44b0c74c4b8b93e866a403526"), looks := true }, kinds := [], alts := [], laidByText := true, laidKinds := [.data, .data, .data, .data, .sentinel, .sentinel, .pinned], laidTests := true, laidLooks := .later }
def SolidOrderCardSaid : Prop := Claim7.holds Tryz.pinned (.plain (OpenSpec.ofChange solidOrderSpec)) solidOrderCard

/-- THE TIED CARD OF 'stricklelaw02.SolidBoxes'. -/
def solidBoxesCard : Claim7 := { stood := { row := solidBoxesRow, standIns := [], harness := (true, "2d2b98d2e7a6d467bd98fd00f57c4e37e19420a44b0c74c4b8b93e866a403526"), looks := true }, kinds := [], alts := [], laidByText := true, laidKinds := [.data, .data, .data, .data, .sentinel, .sentinel, .pinned], laidTests := true, laidLooks := .later }
def SolidBoxesCardSaid : Prop := Claim7.holds Tryz.pinned (.plain (OpenSpec.ofChange solidBoxesSpec)) solidBoxesCard

/-- THE TIED CARD OF 'stricklelaw02.SolidPlaced'. -/
def solidPlacedCard : Claim7 := { stood := { row := solidPlacedRow, standIns := [], harness := (true, "2d2b98d2e7a6d467bd98fd00f57c4e37e19420a44b0c74c4b8b93e866a403526"), looks := true }, kinds := [], alts := [], laidByText := true, laidKinds := [.data, .data, .data, .data, .sentinel, .sentinel, .pinned], laidTests := true, laidLooks := .later }
def SolidPlacedCardSaid : Prop := Claim7.holds Tryz.pinned (.plain (OpenSpec.ofChange solidPlacedSpec)) solidPlacedCard

/-- THE TIED CARD OF 'stricklelaw02.SolidTunnels'. -/
def solidTunnelsCard : Claim7 := { stood := { row := solidTunnelsRow, standIns := [], harness := (true, "2d2b98d2e7a6d467bd98fd00f57c4e37e19420a44b0c74c4b8b93e866a403526"), looks := true }, kinds := [], alts := [], laidByText := true, laidKinds := [.data, .data, .data, .data, .sentinel, .sentinel, .pinned], laidTests := true, laidLooks := .later }
def SolidTunnelsCardSaid : Prop := Claim7.holds Tryz.pinned (.plain (OpenSpec.ofChange solidTunnelsSpec)) solidTunnelsCard

/-- THE TIED CARD OF 'stricklelaw02.SolidMotions'. -/
def solidMotionsCard : Claim7 := { stood := { row := solidMotionsRow, standIns := [], harness := (true, "2d2b98d2e7a6d467bd98fd00f57c4e37e19420a44b0c74c4b8b93e866a403526"), looks := true }, kinds := [], alts := [], laidByText := true, laidKinds := [.data, .data, .data, .data, .sentinel, .sentinel, .pinned], laidTests := true, laidLooks := .later }
def SolidMotionsCardSaid : Prop := Claim7.holds Tryz.pinned (.plain (OpenSpec.ofChange solidMotionsSpec)) solidMotionsCard

/-- THE TIED CARD OF 'stricklelaw02.SolidSets'. -/
def solidSetsCard : Claim7 := { stood := { row := solidSetsRow, standIns := [], harness := (true, "2d2b98d2e7a6d467bd98fd00f57c4e37e19420a44b0c74c4b8b93e866a403526"), looks := true }, kinds := [], alts := [], laidByText := true, laidKinds := [.data, .data, .data, .data, .sentinel, .sentinel, .pinned], laidTests := true, laidLooks := .later }
def SolidSetsCardSaid : Prop := Claim7.holds Tryz.pinned (.plain (OpenSpec.ofChange solidSetsSpec)) solidSetsCard

/-- THE SECOND FORM's CARD OF 'stricklelaw02.SolidThen'. -/
def solidThenUptoCard : Claim7 := { stood := { row := solidThenUptoRow, standIns := [], harness := (true, "2d2b98d2e7a6d467bd98fd00f57c4e37e19420a44b0c74c4b8b93e866a403526"), looks := true }, kinds := [], alts := [], laidByText := true, laidKinds := [.data, .data, .data, .data, .sentinel, .sentinel, .pinned], laidTests := true, laidLooks := .later }
def SolidThenUptoCardSaid : Prop := Claim7.holds Tryz.pinned (.plain (OpenSpec.upto solidThenSpec)) solidThenUptoCard

/-- THE SECOND FORM's CARD OF 'stricklelaw02.SolidCanon'. -/
def solidCanonUptoCard : Claim7 := { stood := { row := solidCanonUptoRow, standIns := [], harness := (true, "2d2b98d2e7a6d467bd98fd00f57c4e37e19420a44b0c74c4b8b93e866a403526"), looks := true }, kinds := [], alts := [], laidByText := true, laidKinds := [.data, .data, .data, .data, .sentinel, .sentinel, .pinned], laidTests := true, laidLooks := .later }
def SolidCanonUptoCardSaid : Prop := Claim7.holds Tryz.pinned (.plain (OpenSpec.upto solidCanonSpec)) solidCanonUptoCard

/-- THE SECOND FORM's CARD OF 'stricklelaw02.SolidShape'. -/
def solidShapeUptoCard : Claim7 := { stood := { row := solidShapeUptoRow, standIns := [], harness := (true, "2d2b98d2e7a6d467bd98fd00f57c4e37e19420a44b0c74c4b8b93e866a403526"), looks := true }, kinds := [], alts := [], laidByText := true, laidKinds := [.data, .data, .data, .data, .sentinel, .sentinel, .pinned], laidTests := true, laidLooks := .later }
def SolidShapeUptoCardSaid : Prop := Claim7.holds Tryz.pinned (.plain (OpenSpec.upto solidShapeSpec)) solidShapeUptoCard

/-- THE SECOND FORM's CARD OF 'stricklelaw02.SolidTexts'. -/
def solidTextsUptoCard : Claim7 := { stood := { row := solidTextsUptoRow, standIns := [], harness := (true, "2d2b98d2e7a6d467bd98fd00f57c4e37e19420a44b0c74c4b8b93e866a403526"), looks := true }, kinds := [], alts := [], laidByText := true, laidKinds := [.data, .data, .data, .data, .sentinel, .sentinel, .pinned], laidTests := true, laidLooks := .later }
def SolidTextsUptoCardSaid : Prop := Claim7.holds Tryz.pinned (.plain (OpenSpec.upto solidTextsSpec)) solidTextsUptoCard

/-- THE SECOND FORM's CARD OF 'stricklelaw02.SolidBoth'. -/
def solidBothUptoCard : Claim7 := { stood := { row := solidBothUptoRow, standIns := [], harness := (true, "2d2b98d2e7a6d467bd98fd00f57c4e37e19420a44b0c74c4b8b93e866a403526"), looks := true }, kinds := [], alts := [], laidByText := true, laidKinds := [.data, .data, .data, .data, .sentinel, .sentinel, .pinned], laidTests := true, laidLooks := .later }
def SolidBothUptoCardSaid : Prop := Claim7.holds Tryz.pinned (.plain (OpenSpec.upto solidBothSpec)) solidBothUptoCard

/-- THE SECOND FORM's CARD OF 'stricklelaw02.SolidOrbits'. -/
def solidOrbitsUptoCard : Claim7 := { stood := { row := solidOrbitsUptoRow, standIns := [], harness := (true, "2d2b98d2e7a6d467bd98fd00f57c4e37e19420a44b0c74c4b8b93e866a403526"), looks := true }, kinds := [], alts := [], laidByText := true, laidKinds := [.data, .data, .data, .data, .sentinel, .sentinel, .pinned], laidTests := true, laidLooks := .later }
def SolidOrbitsUptoCardSaid : Prop := Claim7.holds Tryz.pinned (.plain (OpenSpec.upto solidOrbitsSpec)) solidOrbitsUptoCard

/-- THE SECOND FORM's CARD OF 'stricklelaw02.SolidFits'. -/
def solidFitsUptoCard : Claim7 := { stood := { row := solidFitsUptoRow, standIns := [], harness := (true, "2d2b98d2e7a6d467bd98fd00f57c4e37e19420a44b0c74c4b8b93e866a403526"), looks := true }, kinds := [], alts := [], laidByText := true, laidKinds := [.data, .data, .data, .data, .sentinel, .sentinel, .pinned], laidTests := true, laidLooks := .later }
def SolidFitsUptoCardSaid : Prop := Claim7.holds Tryz.pinned (.plain (OpenSpec.upto solidFitsSpec)) solidFitsUptoCard

/-- THE SECOND FORM's CARD OF 'stricklelaw02.SolidParts'. -/
def solidPartsUptoCard : Claim7 := { stood := { row := solidPartsUptoRow, standIns := [], harness := (true, "2d2b98d2e7a6d467bd98fd00f57c4e37e19420a44b0c74c4b8b93e866a403526"), looks := true }, kinds := [], alts := [], laidByText := true, laidKinds := [.data, .data, .data, .data, .sentinel, .sentinel, .pinned], laidTests := true, laidLooks := .later }
def SolidPartsUptoCardSaid : Prop := Claim7.holds Tryz.pinned (.plain (OpenSpec.upto solidPartsSpec)) solidPartsUptoCard

/-- THE SECOND FORM's CARD OF 'stricklelaw02.SolidTurns'. -/
def solidTurnsUptoCard : Claim7 := { stood := { row := solidTurnsUptoRow, standIns := [], harness := (true, "2d2b98d2e7a6d467bd98fd00f57c4e37e19420a44b0c74c4b8b93e866a403526"), looks := true }, kinds := [], alts := [], laidByText := true, laidKinds := [.data, .data, .data, .data, .sentinel, .sentinel, .pinned], laidTests := true, laidLooks := .later }
def SolidTurnsUptoCardSaid : Prop := Claim7.holds Tryz.pinned (.plain (OpenSpec.upto solidTurnsSpec)) solidTurnsUptoCard

/-- THE SECOND FORM's CARD OF 'stricklelaw02.SolidFilled'. -/
def solidFilledUptoCard : Claim7 := { stood := { row := solidFilledUptoRow, standIns := [], harness := (true, "2d2b98d2e7a6d467bd98fd00f57c4e37e19420a44b0c74c4b8b93e866a403526"), looks := true }, kinds := [], alts := [], laidByText := true, laidKinds := [.data, .data, .data, .data, .sentinel, .sentinel, .pinned], laidTests := true, laidLooks := .later }
def SolidFilledUptoCardSaid : Prop := Claim7.holds Tryz.pinned (.plain (OpenSpec.upto solidFilledSpec)) solidFilledUptoCard

/-- THE SECOND FORM's CARD OF 'stricklelaw02.SolidPlaces'. -/
def solidPlacesUptoCard : Claim7 := { stood := { row := solidPlacesUptoRow, standIns := [], harness := (true, "2d2b98d2e7a6d467bd98fd00f57c4e37e19420a44b0c74c4b8b93e866a403526"), looks := true }, kinds := [], alts := [], laidByText := true, laidKinds := [.data, .data, .data, .data, .sentinel, .sentinel, .pinned], laidTests := true, laidLooks := .later }
def SolidPlacesUptoCardSaid : Prop := Claim7.holds Tryz.pinned (.plain (OpenSpec.upto solidPlacesSpec)) solidPlacesUptoCard

/-- THE SECOND FORM's CARD OF 'stricklelaw02.SolidOrder'. -/
def solidOrderUptoCard : Claim7 := { stood := { row := solidOrderUptoRow, standIns := [], harness := (true, "2d2b98d2e7a6d467bd98fd00f57c4e37e19420a44b0c74c4b8b93e866a403526"), looks := true }, kinds := [], alts := [], laidByText := true, laidKinds := [.data, .data, .data, .data, .sentinel, .sentinel, .pinned], laidTests := true, laidLooks := .later }
def SolidOrderUptoCardSaid : Prop := Claim7.holds Tryz.pinned (.plain (OpenSpec.upto solidOrderSpec)) solidOrderUptoCard

/-- THE SECOND FORM's CARD OF 'stricklelaw02.SolidBoxes'. -/
def solidBoxesUptoCard : Claim7 := { stood := { row := solidBoxesUptoRow, standIns := [], harness := (true, "2d2b98d2e7a6d467bd98fd00f57c4e37e19420a44b0c74c4b8b93e866a403526"), looks := true }, kinds := [], alts := [], laidByText := true, laidKinds := [.data, .data, .data, .data, .sentinel, .sentinel, .pinned], laidTests := true, laidLooks := .later }
def SolidBoxesUptoCardSaid : Prop := Claim7.holds Tryz.pinned (.plain (OpenSpec.upto solidBoxesSpec)) solidBoxesUptoCard

/-- THE SECOND FORM's CARD OF 'stricklelaw02.SolidPlaced'. -/
def solidPlacedUptoCard : Claim7 := { stood := { row := solidPlacedUptoRow, standIns := [], harness := (true, "2d2b98d2e7a6d467bd98fd00f57c4e37e19420a44b0c74c4b8b93e866a403526"), looks := true }, kinds := [], alts := [], laidByText := true, laidKinds := [.data, .data, .data, .data, .sentinel, .sentinel, .pinned], laidTests := true, laidLooks := .later }
def SolidPlacedUptoCardSaid : Prop := Claim7.holds Tryz.pinned (.plain (OpenSpec.upto solidPlacedSpec)) solidPlacedUptoCard

/-- THE SECOND FORM's CARD OF 'stricklelaw02.SolidTunnels'. -/
def solidTunnelsUptoCard : Claim7 := { stood := { row := solidTunnelsUptoRow, standIns := [], harness := (true, "2d2b98d2e7a6d467bd98fd00f57c4e37e19420a44b0c74c4b8b93e866a403526"), looks := true }, kinds := [], alts := [], laidByText := true, laidKinds := [.data, .data, .data, .data, .sentinel, .sentinel, .pinned], laidTests := true, laidLooks := .later }
def SolidTunnelsUptoCardSaid : Prop := Claim7.holds Tryz.pinned (.plain (OpenSpec.upto solidTunnelsSpec)) solidTunnelsUptoCard

/-- THE SECOND FORM's CARD OF 'stricklelaw02.SolidMotions'. -/
def solidMotionsUptoCard : Claim7 := { stood := { row := solidMotionsUptoRow, standIns := [], harness := (true, "2d2b98d2e7a6d467bd98fd00f57c4e37e19420a44b0c74c4b8b93e866a403526"), looks := true }, kinds := [], alts := [], laidByText := true, laidKinds := [.data, .data, .data, .data, .sentinel, .sentinel, .pinned], laidTests := true, laidLooks := .later }
def SolidMotionsUptoCardSaid : Prop := Claim7.holds Tryz.pinned (.plain (OpenSpec.upto solidMotionsSpec)) solidMotionsUptoCard

/-- THE SECOND FORM's CARD OF 'stricklelaw02.SolidSets'. -/
def solidSetsUptoCard : Claim7 := { stood := { row := solidSetsUptoRow, standIns := [], harness := (true, "2d2b98d2e7a6d467bd98fd00f57c4e37e19420a44b0c74c4b8b93e866a403526"), looks := true }, kinds := [], alts := [], laidByText := true, laidKinds := [.data, .data, .data, .data, .sentinel, .sentinel, .pinned], laidTests := true, laidLooks := .later }
def SolidSetsUptoCardSaid : Prop := Claim7.holds Tryz.pinned (.plain (OpenSpec.upto solidSetsSpec)) solidSetsUptoCard
end Rows
end Go.Proofs.YtkfimbonmnoglaaGreatDoor
