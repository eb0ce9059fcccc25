/-
  DERIVED. GIVEN WITH THE SEED: THE CARDS: each row of YtlbhjikkpbknnaaGreatDoorRows.lean that lists a variable, with what it lists TIED to the program's text (the seventh form; the later family's looks); each row that meets fmt, with fmt's text TOLD by the authors' own Lean function (tested against real Go, not proved from fmt's source: count such statements apart). THE CARD IS WHAT COUNTS. Prove the row's statement (the work); the ties are given (YtlbhjikkpbknnaaGreatDoorTie.lean); close each card by the builder's one call (the guide's Derived/Test/ToyasCard.lean, 'card_holds'). Laid BY PROGRAM, IN A SANDBOX (cutbox-door.mjs). By AI agents, Wed Nov 11 2026. No macro, syntax, notation, axiom, sorry.
-/
import Derived.Test.YtlbhjikkpbknnaaGreatDoorRows
import GoSem.ClaimSeven
namespace Go.Proofs.YtlbhjikkpbknnaaGreatDoor
namespace Rows

/-- THE TIED CARD OF 'stricklelaw03.DrawWays'. -/
def drawWaysCard : Claim7 := { stood := { row := drawWaysRow, standIns := [], harness := (true, "e747367a696181307daa9a58d6f135e6be65223e1a050f906dd41f0a69f9f2e2"), looks := true }, kinds := [], alts := [], laidByText := true, laidKinds := [.data, .data], laidTests := true, laidLooks := .later }
def DrawWaysCardSaid : Prop := Claim7.holds Tryz.pinned (.plain (OpenSpec.ofChange drawWaysSpec)) drawWaysCard

/-- THE TIED CARD OF 'stricklelaw03.DrawPaths'. -/
def drawPathsCard : Claim7 := { stood := { row := drawPathsRow, standIns := [], harness := (true, "e747367a696181307daa9a58d6f135e6be65223e1a050f906dd41f0a69f9f2e2"), looks := true }, kinds := [], alts := [], laidByText := true, laidKinds := [.data, .data], laidTests := true, laidLooks := .later }
def DrawPathsCardSaid : Prop := Claim7.holds Tryz.pinned (.plain (OpenSpec.ofChange drawPathsSpec)) drawPathsCard

/-- THE TIED CARD OF 'stricklelaw03.DrawGoes'. -/
def drawGoesCard : Claim7 := { stood := { row := drawGoesRow, standIns := [], harness := (true, "e747367a696181307daa9a58d6f135e6be65223e1a050f906dd41f0a69f9f2e2"), looks := true }, kinds := [], alts := [], laidByText := true, laidKinds := [.data, .data], laidTests := true, laidLooks := .later }
def DrawGoesCardSaid : Prop := Claim7.holds Tryz.pinned (.plain (OpenSpec.ofChange drawGoesSpec)) drawGoesCard

/-- THE TIED CARD OF 'stricklelaw03.DrawLocks'. -/
def drawLocksCard : Claim7 := { stood := { row := drawLocksRow, standIns := [], harness := (true, "e747367a696181307daa9a58d6f135e6be65223e1a050f906dd41f0a69f9f2e2"), looks := true }, kinds := [], alts := [], laidByText := true, laidKinds := [.data, .data], laidTests := true, laidLooks := .later }
def DrawLocksCardSaid : Prop := Claim7.holds Tryz.pinned (.plain (OpenSpec.ofChange drawLocksSpec)) drawLocksCard

/-- THE TIED CARD OF 'stricklelaw03.DrawOrders'. -/
def drawOrdersCard : Claim7 := { stood := { row := drawOrdersRow, standIns := [], harness := (true, "e747367a696181307daa9a58d6f135e6be65223e1a050f906dd41f0a69f9f2e2"), looks := true }, kinds := [], alts := [], laidByText := true, laidKinds := [.data, .data], laidTests := true, laidLooks := .later }
def DrawOrdersCardSaid : Prop := Claim7.holds Tryz.pinned (.plain (OpenSpec.ofChange drawOrdersSpec)) drawOrdersCard

/-- THE TIED CARD OF 'stricklelaw03.DrawMoulds'. -/
def drawMouldsCard : Claim7 := { stood := { row := drawMouldsRow, standIns := [], harness := (true, "e747367a696181307daa9a58d6f135e6be65223e1a050f906dd41f0a69f9f2e2"), looks := true }, kinds := [], alts := [], laidByText := true, laidKinds := [.data, .data], laidTests := true, laidLooks := .later }
def DrawMouldsCardSaid : Prop := Claim7.holds Tryz.pinned (.plain (OpenSpec.ofChange drawMouldsSpec)) drawMouldsCard

/-- THE TIED CARD OF 'stricklelaw03.DrawTexts'. -/
def drawTextsCard : Claim7 := { stood := { row := drawTextsRow, standIns := [], harness := (true, "e747367a696181307daa9a58d6f135e6be65223e1a050f906dd41f0a69f9f2e2"), looks := true }, kinds := [], alts := [], laidByText := true, laidKinds := [.data, .data, .data, .data, .sentinel, .sentinel, .pinned], laidTests := true, laidLooks := .later }
def DrawTextsCardSaid : Prop := Claim7.holds Tryz.pinned (.plain (OpenSpec.ofChange drawTextsSpec)) drawTextsCard

/-- THE SECOND FORM's CARD OF 'stricklelaw03.DrawWays'. -/
def drawWaysUptoCard : Claim7 := { stood := { row := drawWaysUptoRow, standIns := [], harness := (true, "e747367a696181307daa9a58d6f135e6be65223e1a050f906dd41f0a69f9f2e2"), looks := true }, kinds := [], alts := [], laidByText := true, laidKinds := [.data, .data], laidTests := true, laidLooks := .later }
def DrawWaysUptoCardSaid : Prop := Claim7.holds Tryz.pinned (.plain (OpenSpec.upto drawWaysSpec)) drawWaysUptoCard

/-- THE SECOND FORM's CARD OF 'stricklelaw03.DrawPaths'. -/
def drawPathsUptoCard : Claim7 := { stood := { row := drawPathsUptoRow, standIns := [], harness := (true, "e747367a696181307daa9a58d6f135e6be65223e1a050f906dd41f0a69f9f2e2"), looks := true }, kinds := [], alts := [], laidByText := true, laidKinds := [.data, .data], laidTests := true, laidLooks := .later }
def DrawPathsUptoCardSaid : Prop := Claim7.holds Tryz.pinned (.plain (OpenSpec.upto drawPathsSpec)) drawPathsUptoCard

/-- THE SECOND FORM's CARD OF 'stricklelaw03.DrawGoes'. -/
def drawGoesUptoCard : Claim7 := { stood := { row := drawGoesUptoRow, standIns := [], harness := (true, "e747367a696181307daa9a58d6f135e6be65223e1a050f906dd41f0a69f9f2e2"), looks := true }, kinds := [], alts := [], laidByText := true, laidKinds := [.data, .data], laidTests := true, laidLooks := .later }
def DrawGoesUptoCardSaid : Prop := Claim7.holds Tryz.pinned (.plain (OpenSpec.upto drawGoesSpec)) drawGoesUptoCard

/-- THE SECOND FORM's CARD OF 'stricklelaw03.DrawLocks'. -/
def drawLocksUptoCard : Claim7 := { stood := { row := drawLocksUptoRow, standIns := [], harness := (true, "e747367a696181307daa9a58d6f135e6be65223e1a050f906dd41f0a69f9f2e2"), looks := true }, kinds := [], alts := [], laidByText := true, laidKinds := [.data, .data], laidTests := true, laidLooks := .later }
def DrawLocksUptoCardSaid : Prop := Claim7.holds Tryz.pinned (.plain (OpenSpec.upto drawLocksSpec)) drawLocksUptoCard

/-- THE SECOND FORM's CARD OF 'stricklelaw03.DrawOrders'. -/
def drawOrdersUptoCard : Claim7 := { stood := { row := drawOrdersUptoRow, standIns := [], harness := (true, "e747367a696181307daa9a58d6f135e6be65223e1a050f906dd41f0a69f9f2e2"), looks := true }, kinds := [], alts := [], laidByText := true, laidKinds := [.data, .data], laidTests := true, laidLooks := .later }
def DrawOrdersUptoCardSaid : Prop := Claim7.holds Tryz.pinned (.plain (OpenSpec.upto drawOrdersSpec)) drawOrdersUptoCard

/-- THE SECOND FORM's CARD OF 'stricklelaw03.DrawMoulds'. -/
def drawMouldsUptoCard : Claim7 := { stood := { row := drawMouldsUptoRow, standIns := [], harness := (true, "e747367a696181307daa9a58d6f135e6be65223e1a050f906dd41f0a69f9f2e2"), looks := true }, kinds := [], alts := [], laidByText := true, laidKinds := [.data, .data], laidTests := true, laidLooks := .later }
def DrawMouldsUptoCardSaid : Prop := Claim7.holds Tryz.pinned (.plain (OpenSpec.upto drawMouldsSpec)) drawMouldsUptoCard

/-- THE SECOND FORM's CARD OF 'stricklelaw03.DrawTexts'. -/
def drawTextsUptoCard : Claim7 := { stood := { row := drawTextsUptoRow, standIns := [], harness := (true, "e747367a696181307daa9a58d6f135e6be65223e1a050f906dd41f0a69f9f2e2"), looks := true }, kinds := [], alts := [], laidByText := true, laidKinds := [.data, .data, .data, .data, .sentinel, .sentinel, .pinned], laidTests := true, laidLooks := .later }
def DrawTextsUptoCardSaid : Prop := Claim7.holds Tryz.pinned (.plain (OpenSpec.upto drawTextsSpec)) drawTextsUptoCard
end Rows
end Go.Proofs.YtlbhjikkpbknnaaGreatDoor
