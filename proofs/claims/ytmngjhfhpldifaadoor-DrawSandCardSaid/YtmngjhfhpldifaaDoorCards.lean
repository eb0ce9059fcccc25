/-
  DERIVED. GIVEN WITH THE SEED: THE CARDS: each row of YtmngjhfhpldifaaDoorRows.lean that lists a variable, with what it lists TIED to the program's text (the seventh form; the later family's looks); each row that meets fmt, with fmt's text TOLD by the authors' own Lean function (tested against real Go, not proved from fmt's source: count such statements apart). THE CARD IS WHAT COUNTS. Prove the row's statement (the work); the ties are given (YtmngjhfhpldifaaDoorTie.lean); close each card by the builder's one call (the guide's Derived/Test/ToyasCard.lean, 'card_holds'). Laid BY PROGRAM, IN A SANDBOX (cutbox-door.mjs). By AI agents, Wed Nov 11 2026. No macro, syntax, notation, axiom, sorry.
-/
import Derived.Test.YtmngjhfhpldifaaDoorRows
import GoSem.ClaimSeven
namespace Go.Proofs.YtmngjhfhpldifaaDoor
namespace Rows

/-- THE TIED CARD OF 'stricklelaw03.DrawUnions'. -/
def drawUnionsCard : Claim7 := { stood := { row := drawUnionsRow, standIns := [], harness := (true, "a7dba7341999704992eb2fae96ca56f315070773813a89df06ab027f0909b226"), looks := false }, kinds := [], alts := [], laidByText := true, laidKinds := [.data, .data], laidTests := true, laidLooks := .later }
def DrawUnionsCardSaid : Prop := Claim7.holds Tryd.pinned (.plain (OpenSpec.ofChange drawUnionsSpec)) drawUnionsCard

/-- THE TIED CARD OF 'stricklelaw03.DrawBefore'. -/
def drawBeforeCard : Claim7 := { stood := { row := drawBeforeRow, standIns := [], harness := (true, "a7dba7341999704992eb2fae96ca56f315070773813a89df06ab027f0909b226"), looks := false }, kinds := [], alts := [], laidByText := true, laidKinds := [.data, .data], laidTests := true, laidLooks := .later }
def DrawBeforeCardSaid : Prop := Claim7.holds Tryd.pinned (.plain (OpenSpec.ofChange drawBeforeSpec)) drawBeforeCard

/-- THE TIED CARD OF 'stricklelaw03.DrawTurned'. -/
def drawTurnedCard : Claim7 := { stood := { row := drawTurnedRow, standIns := [], harness := (true, "a7dba7341999704992eb2fae96ca56f315070773813a89df06ab027f0909b226"), looks := false }, kinds := [], alts := [], laidByText := true, laidKinds := [.data, .data], laidTests := true, laidLooks := .later }
def DrawTurnedCardSaid : Prop := Claim7.holds Tryd.pinned (.plain (OpenSpec.ofChange drawTurnedSpec)) drawTurnedCard

/-- THE TIED CARD OF 'stricklelaw03.DrawStraight'. -/
def drawStraightCard : Claim7 := { stood := { row := drawStraightRow, standIns := [], harness := (true, "a7dba7341999704992eb2fae96ca56f315070773813a89df06ab027f0909b226"), looks := false }, kinds := [], alts := [], laidByText := true, laidKinds := [.data, .data], laidTests := true, laidLooks := .later }
def DrawStraightCardSaid : Prop := Claim7.holds Tryd.pinned (.plain (OpenSpec.ofChange drawStraightSpec)) drawStraightCard

/-- THE TIED CARD OF 'stricklelaw03.DrawRounds'. -/
def drawRoundsCard : Claim7 := { stood := { row := drawRoundsRow, standIns := [], harness := (true, "a7dba7341999704992eb2fae96ca56f315070773813a89df06ab027f0909b226"), looks := false }, kinds := [], alts := [], laidByText := true, laidKinds := [.data, .data], laidTests := true, laidLooks := .later }
def DrawRoundsCardSaid : Prop := Claim7.holds Tryd.pinned (.plain (OpenSpec.ofChange drawRoundsSpec)) drawRoundsCard

/-- THE TIED CARD OF 'stricklelaw03.DrawBegun'. -/
def drawBegunCard : Claim7 := { stood := { row := drawBegunRow, standIns := [], harness := (true, "a7dba7341999704992eb2fae96ca56f315070773813a89df06ab027f0909b226"), looks := false }, kinds := [], alts := [], laidByText := true, laidKinds := [.data, .data], laidTests := true, laidLooks := .later }
def DrawBegunCardSaid : Prop := Claim7.holds Tryd.pinned (.plain (OpenSpec.ofChange drawBegunSpec)) drawBegunCard

/-- THE TIED CARD OF 'stricklelaw03.DrawEither'. -/
def drawEitherCard : Claim7 := { stood := { row := drawEitherRow, standIns := [], harness := (true, "a7dba7341999704992eb2fae96ca56f315070773813a89df06ab027f0909b226"), looks := false }, kinds := [], alts := [], laidByText := true, laidKinds := [.data, .data], laidTests := true, laidLooks := .later }
def DrawEitherCardSaid : Prop := Claim7.holds Tryd.pinned (.plain (OpenSpec.ofChange drawEitherSpec)) drawEitherCard

/-- THE TIED CARD OF 'stricklelaw03.DrawSand'. -/
def drawSandCard : Claim7 := { stood := { row := drawSandRow, standIns := [], harness := (true, "a7dba7341999704992eb2fae96ca56f315070773813a89df06ab027f0909b226"), looks := false }, kinds := [], alts := [], laidByText := true, laidKinds := [.data, .data], laidTests := true, laidLooks := .later }
def DrawSandCardSaid : Prop := Claim7.holds Tryd.pinned (.plain (OpenSpec.ofChange drawSandSpec)) drawSandCard

/-- THE SECOND FORM's CARD OF 'stricklelaw03.DrawUnions'. -/
def drawUnionsUptoCard : Claim7 := { stood := { row := drawUnionsUptoRow, standIns := [], harness := (true, "a7dba7341999704992eb2fae96ca56f315070773813a89df06ab027f0909b226"), looks := false }, kinds := [], alts := [], laidByText := true, laidKinds := [.data, .data], laidTests := true, laidLooks := .later }
def DrawUnionsUptoCardSaid : Prop := Claim7.holds Tryd.pinned (.plain (OpenSpec.upto drawUnionsSpec)) drawUnionsUptoCard

/-- THE SECOND FORM's CARD OF 'stricklelaw03.DrawBefore'. -/
def drawBeforeUptoCard : Claim7 := { stood := { row := drawBeforeUptoRow, standIns := [], harness := (true, "a7dba7341999704992eb2fae96ca56f315070773813a89df06ab027f0909b226"), looks := false }, kinds := [], alts := [], laidByText := true, laidKinds := [.data, .data], laidTests := true, laidLooks := .later }
def DrawBeforeUptoCardSaid : Prop := Claim7.holds Tryd.pinned (.plain (OpenSpec.upto drawBeforeSpec)) drawBeforeUptoCard

/-- THE SECOND FORM's CARD OF 'stricklelaw03.DrawTurned'. -/
def drawTurnedUptoCard : Claim7 := { stood := { row := drawTurnedUptoRow, standIns := [], harness := (true, "a7dba7341999704992eb2fae96ca56f315070773813a89df06ab027f0909b226"), looks := false }, kinds := [], alts := [], laidByText := true, laidKinds := [.data, .data], laidTests := true, laidLooks := .later }
def DrawTurnedUptoCardSaid : Prop := Claim7.holds Tryd.pinned (.plain (OpenSpec.upto drawTurnedSpec)) drawTurnedUptoCard

/-- THE SECOND FORM's CARD OF 'stricklelaw03.DrawStraight'. -/
def drawStraightUptoCard : Claim7 := { stood := { row := drawStraightUptoRow, standIns := [], harness := (true, "a7dba7341999704992eb2fae96ca56f315070773813a89df06ab027f0909b226"), looks := false }, kinds := [], alts := [], laidByText := true, laidKinds := [.data, .data], laidTests := true, laidLooks := .later }
def DrawStraightUptoCardSaid : Prop := Claim7.holds Tryd.pinned (.plain (OpenSpec.upto drawStraightSpec)) drawStraightUptoCard

/-- THE SECOND FORM's CARD OF 'stricklelaw03.DrawRounds'. -/
def drawRoundsUptoCard : Claim7 := { stood := { row := drawRoundsUptoRow, standIns := [], harness := (true, "a7dba7341999704992eb2fae96ca56f315070773813a89df06ab027f0909b226"), looks := false }, kinds := [], alts := [], laidByText := true, laidKinds := [.data, .data], laidTests := true, laidLooks := .later }
def DrawRoundsUptoCardSaid : Prop := Claim7.holds Tryd.pinned (.plain (OpenSpec.upto drawRoundsSpec)) drawRoundsUptoCard

/-- THE SECOND FORM's CARD OF 'stricklelaw03.DrawBegun'. -/
def drawBegunUptoCard : Claim7 := { stood := { row := drawBegunUptoRow, standIns := [], harness := (true, "a7dba7341999704992eb2fae96ca56f315070773813a89df06ab027f0909b226"), looks := false }, kinds := [], alts := [], laidByText := true, laidKinds := [.data, .data], laidTests := true, laidLooks := .later }
def DrawBegunUptoCardSaid : Prop := Claim7.holds Tryd.pinned (.plain (OpenSpec.upto drawBegunSpec)) drawBegunUptoCard

/-- THE SECOND FORM's CARD OF 'stricklelaw03.DrawEither'. -/
def drawEitherUptoCard : Claim7 := { stood := { row := drawEitherUptoRow, standIns := [], harness := (true, "a7dba7341999704992eb2fae96ca56f315070773813a89df06ab027f0909b226"), looks := false }, kinds := [], alts := [], laidByText := true, laidKinds := [.data, .data], laidTests := true, laidLooks := .later }
def DrawEitherUptoCardSaid : Prop := Claim7.holds Tryd.pinned (.plain (OpenSpec.upto drawEitherSpec)) drawEitherUptoCard

/-- THE SECOND FORM's CARD OF 'stricklelaw03.DrawSand'. -/
def drawSandUptoCard : Claim7 := { stood := { row := drawSandUptoRow, standIns := [], harness := (true, "a7dba7341999704992eb2fae96ca56f315070773813a89df06ab027f0909b226"), looks := false }, kinds := [], alts := [], laidByText := true, laidKinds := [.data, .data], laidTests := true, laidLooks := .later }
def DrawSandUptoCardSaid : Prop := Claim7.holds Tryd.pinned (.plain (OpenSpec.upto drawSandSpec)) drawSandUptoCard
end Rows
end Go.Proofs.YtmngjhfhpldifaaDoor
