/-
  DERIVED. GIVEN WITH THE SEED: THE CARDS: each row of YtccnkebkgegohaaGreatDoorRows.lean that lists a variable, with what it lists TIED to the program's text (the seventh form; the later family's looks); each row that meets fmt, with fmt's text TOLD by the authors' own Lean function (tested against real Go, not proved from fmt's source: count such statements apart). THE CARD IS WHAT COUNTS. Prove the row's statement (the work); the ties are given (YtccnkebkgegohaaGreatDoorTie.lean); close each card by the builder's one call (the guide's Derived/Test/ToyasCard.lean, 'card_holds'). Laid BY PROGRAM, IN A SANDBOX (cutbox-door.mjs). By AI agents, Wed Nov 11 2026. No macro, syntax, notation, axiom, sorry.
-/
import Derived.Test.YtccnkebkgegohaaGreatDoorRows
import GoSem.ClaimSeven
namespace Go.Proofs.YtccnkebkgegohaaGreatDoor
namespace Rows

/-- THE TIED CARD OF 'stricklelaw04.TraceReduced'. -/
def traceReducedCard : Claim7 := { stood := { row := traceReducedRow, standIns := [], harness := (true, "f92ba1b51fe0046060d60d4c1981afd70d2eb3e477a670ca8f1d329991b7d13d"), looks := true }, kinds := [], alts := [], laidByText := true, laidKinds := [.data, .data, .data], laidTests := true, laidLooks := .later }
def TraceReducedCardSaid : Prop := Claim7.holds Tryz.pinned (.plain (OpenSpec.ofChange traceReducedSpec)) traceReducedCard

/-- THE TIED CARD OF 'stricklelaw04.TraceMerges'. -/
def traceMergesCard : Claim7 := { stood := { row := traceMergesRow, standIns := [], harness := (true, "f92ba1b51fe0046060d60d4c1981afd70d2eb3e477a670ca8f1d329991b7d13d"), looks := true }, kinds := [], alts := [], laidByText := true, laidKinds := [.data, .data, .data], laidTests := true, laidLooks := .later }
def TraceMergesCardSaid : Prop := Claim7.holds Tryz.pinned (.plain (OpenSpec.ofChange traceMergesSpec)) traceMergesCard

/-- THE TIED CARD OF 'stricklelaw04.TraceChecks'. -/
def traceChecksCard : Claim7 := { stood := { row := traceChecksRow, standIns := [], harness := (true, "f92ba1b51fe0046060d60d4c1981afd70d2eb3e477a670ca8f1d329991b7d13d"), looks := true }, kinds := [], alts := [], laidByText := true, laidKinds := [.data, .data, .data], laidTests := true, laidLooks := .later }
def TraceChecksCardSaid : Prop := Claim7.holds Tryz.pinned (.plain (OpenSpec.ofChange traceChecksSpec)) traceChecksCard

/-- THE TIED CARD OF 'stricklelaw04.TraceStands'. -/
def traceStandsCard : Claim7 := { stood := { row := traceStandsRow, standIns := [], harness := (true, "f92ba1b51fe0046060d60d4c1981afd70d2eb3e477a670ca8f1d329991b7d13d"), looks := true }, kinds := [], alts := [], laidByText := true, laidKinds := [.data, .data, .data], laidTests := true, laidLooks := .later }
def TraceStandsCardSaid : Prop := Claim7.holds Tryz.pinned (.plain (OpenSpec.ofChange traceStandsSpec)) traceStandsCard

/-- THE TIED CARD OF 'stricklelaw04.TraceProjected'. -/
def traceProjectedCard : Claim7 := { stood := { row := traceProjectedRow, standIns := [], harness := (true, "f92ba1b51fe0046060d60d4c1981afd70d2eb3e477a670ca8f1d329991b7d13d"), looks := true }, kinds := [], alts := [], laidByText := true, laidKinds := [.data, .data, .data], laidTests := true, laidLooks := .later }
def TraceProjectedCardSaid : Prop := Claim7.holds Tryz.pinned (.plain (OpenSpec.ofChange traceProjectedSpec)) traceProjectedCard

/-- THE TIED CARD OF 'stricklelaw04.TraceOrders'. -/
def traceOrdersCard : Claim7 := { stood := { row := traceOrdersRow, standIns := [], harness := (true, "f92ba1b51fe0046060d60d4c1981afd70d2eb3e477a670ca8f1d329991b7d13d"), looks := true }, kinds := [], alts := [], laidByText := true, laidKinds := [.data, .data, .data], laidTests := true, laidLooks := .later }
def TraceOrdersCardSaid : Prop := Claim7.holds Tryz.pinned (.plain (OpenSpec.ofChange traceOrdersSpec)) traceOrdersCard

/-- THE TIED CARD OF 'stricklelaw04.TraceExchanged'. -/
def traceExchangedCard : Claim7 := { stood := { row := traceExchangedRow, standIns := [], harness := (true, "f92ba1b51fe0046060d60d4c1981afd70d2eb3e477a670ca8f1d329991b7d13d"), looks := true }, kinds := [], alts := [], laidByText := true, laidKinds := [.data, .data, .data], laidTests := true, laidLooks := .later }
def TraceExchangedCardSaid : Prop := Claim7.holds Tryz.pinned (.plain (OpenSpec.ofChange traceExchangedSpec)) traceExchangedCard

/-- THE TIED CARD OF 'stricklelaw04.TraceMeets'. -/
def traceMeetsCard : Claim7 := { stood := { row := traceMeetsRow, standIns := [], harness := (true, "f92ba1b51fe0046060d60d4c1981afd70d2eb3e477a670ca8f1d329991b7d13d"), looks := true }, kinds := [], alts := [], laidByText := true, laidKinds := [.data, .data, .data], laidTests := true, laidLooks := .later }
def TraceMeetsCardSaid : Prop := Claim7.holds Tryz.pinned (.plain (OpenSpec.ofChange traceMeetsSpec)) traceMeetsCard

/-- THE TIED CARD OF 'stricklelaw04.TraceTurns'. -/
def traceTurnsCard : Claim7 := { stood := { row := traceTurnsRow, standIns := [], harness := (true, "f92ba1b51fe0046060d60d4c1981afd70d2eb3e477a670ca8f1d329991b7d13d"), looks := true }, kinds := [], alts := [], laidByText := true, laidKinds := [.data, .data, .data], laidTests := true, laidLooks := .later }
def TraceTurnsCardSaid : Prop := Claim7.holds Tryz.pinned (.plain (OpenSpec.ofChange traceTurnsSpec)) traceTurnsCard

/-- THE TIED CARD OF 'stricklelaw04.TraceJoins'. -/
def traceJoinsCard : Claim7 := { stood := { row := traceJoinsRow, standIns := [], harness := (true, "f92ba1b51fe0046060d60d4c1981afd70d2eb3e477a670ca8f1d329991b7d13d"), looks := true }, kinds := [], alts := [], laidByText := true, laidKinds := [.data, .data, .data], laidTests := true, laidLooks := .later }
def TraceJoinsCardSaid : Prop := Claim7.holds Tryz.pinned (.plain (OpenSpec.ofChange traceJoinsSpec)) traceJoinsCard

/-- THE TIED CARD OF 'stricklelaw04.TraceRests'. -/
def traceRestsCard : Claim7 := { stood := { row := traceRestsRow, standIns := [], harness := (true, "f92ba1b51fe0046060d60d4c1981afd70d2eb3e477a670ca8f1d329991b7d13d"), looks := true }, kinds := [], alts := [], laidByText := true, laidKinds := [.data, .data, .data], laidTests := true, laidLooks := .later }
def TraceRestsCardSaid : Prop := Claim7.holds Tryz.pinned (.plain (OpenSpec.ofChange traceRestsSpec)) traceRestsCard

/-- THE TIED CARD OF 'stricklelaw04.TraceNeeds'. -/
def traceNeedsCard : Claim7 := { stood := { row := traceNeedsRow, standIns := [], harness := (true, "f92ba1b51fe0046060d60d4c1981afd70d2eb3e477a670ca8f1d329991b7d13d"), looks := true }, kinds := [], alts := [], laidByText := true, laidKinds := [.data, .data, .data], laidTests := true, laidLooks := .later }
def TraceNeedsCardSaid : Prop := Claim7.holds Tryz.pinned (.plain (OpenSpec.ofChange traceNeedsSpec)) traceNeedsCard

/-- THE TIED CARD OF 'stricklelaw04.TraceSteps'. -/
def traceStepsCard : Claim7 := { stood := { row := traceStepsRow, standIns := [], harness := (true, "f92ba1b51fe0046060d60d4c1981afd70d2eb3e477a670ca8f1d329991b7d13d"), looks := true }, kinds := [], alts := [], laidByText := true, laidKinds := [.data, .data, .data], laidTests := true, laidLooks := .later }
def TraceStepsCardSaid : Prop := Claim7.holds Tryz.pinned (.plain (OpenSpec.ofChange traceStepsSpec)) traceStepsCard

/-- THE TIED CARD OF 'stricklelaw04.TraceMemory'. -/
def traceMemoryCard : Claim7 := { stood := { row := traceMemoryRow, standIns := [], harness := (true, "f92ba1b51fe0046060d60d4c1981afd70d2eb3e477a670ca8f1d329991b7d13d"), looks := true }, kinds := [], alts := [], laidByText := true, laidKinds := [.data, .data, .data], laidTests := true, laidLooks := .later }
def TraceMemoryCardSaid : Prop := Claim7.holds Tryz.pinned (.plain (OpenSpec.ofChange traceMemorySpec)) traceMemoryCard

/-- THE TIED CARD OF 'stricklelaw04.TraceNormal'. -/
def traceNormalCard : Claim7 := { stood := { row := traceNormalRow, standIns := [], harness := (true, "f92ba1b51fe0046060d60d4c1981afd70d2eb3e477a670ca8f1d329991b7d13d"), looks := true }, kinds := [], alts := [], laidByText := true, laidKinds := [.data, .data, .data], laidTests := true, laidLooks := .later }
def TraceNormalCardSaid : Prop := Claim7.holds Tryz.pinned (.plain (OpenSpec.ofChange traceNormalSpec)) traceNormalCard

/-- THE TIED CARD OF 'stricklelaw04.TraceLines'. -/
def traceLinesCard : Claim7 := { stood := { row := traceLinesRow, standIns := [], harness := (true, "f92ba1b51fe0046060d60d4c1981afd70d2eb3e477a670ca8f1d329991b7d13d"), looks := true }, kinds := [], alts := [], laidByText := true, laidKinds := [.data, .data, .data, .data, .sentinel, .sentinel, .pinned], laidTests := true, laidLooks := .later }
def TraceLinesCardSaid : Prop := Claim7.holds Tryz.pinned (.plain (OpenSpec.ofChange traceLinesSpec)) traceLinesCard

/-- THE SECOND FORM's CARD OF 'stricklelaw04.TraceReduced'. -/
def traceReducedUptoCard : Claim7 := { stood := { row := traceReducedUptoRow, standIns := [], harness := (true, "f92ba1b51fe0046060d60d4c1981afd70d2eb3e477a670ca8f1d329991b7d13d"), looks := true }, kinds := [], alts := [], laidByText := true, laidKinds := [.data, .data, .data], laidTests := true, laidLooks := .later }
def TraceReducedUptoCardSaid : Prop := Claim7.holds Tryz.pinned (.plain (OpenSpec.upto traceReducedSpec)) traceReducedUptoCard

/-- THE SECOND FORM's CARD OF 'stricklelaw04.TraceMerges'. -/
def traceMergesUptoCard : Claim7 := { stood := { row := traceMergesUptoRow, standIns := [], harness := (true, "f92ba1b51fe0046060d60d4c1981afd70d2eb3e477a670ca8f1d329991b7d13d"), looks := true }, kinds := [], alts := [], laidByText := true, laidKinds := [.data, .data, .data], laidTests := true, laidLooks := .later }
def TraceMergesUptoCardSaid : Prop := Claim7.holds Tryz.pinned (.plain (OpenSpec.upto traceMergesSpec)) traceMergesUptoCard

/-- THE SECOND FORM's CARD OF 'stricklelaw04.TraceChecks'. -/
def traceChecksUptoCard : Claim7 := { stood := { row := traceChecksUptoRow, standIns := [], harness := (true, "f92ba1b51fe0046060d60d4c1981afd70d2eb3e477a670ca8f1d329991b7d13d"), looks := true }, kinds := [], alts := [], laidByText := true, laidKinds := [.data, .data, .data], laidTests := true, laidLooks := .later }
def TraceChecksUptoCardSaid : Prop := Claim7.holds Tryz.pinned (.plain (OpenSpec.upto traceChecksSpec)) traceChecksUptoCard

/-- THE SECOND FORM's CARD OF 'stricklelaw04.TraceStands'. -/
def traceStandsUptoCard : Claim7 := { stood := { row := traceStandsUptoRow, standIns := [], harness := (true, "f92ba1b51fe0046060d60d4c1981afd70d2eb3e477a670ca8f1d329991b7d13d"), looks := true }, kinds := [], alts := [], laidByText := true, laidKinds := [.data, .data, .data], laidTests := true, laidLooks := .later }
def TraceStandsUptoCardSaid : Prop := Claim7.holds Tryz.pinned (.plain (OpenSpec.upto traceStandsSpec)) traceStandsUptoCard

/-- THE SECOND FORM's CARD OF 'stricklelaw04.TraceProjected'. -/
def traceProjectedUptoCard : Claim7 := { stood := { row := traceProjectedUptoRow, standIns := [], harness := (true, "f92ba1b51fe0046060d60d4c1981afd70d2eb3e477a670ca8f1d329991b7d13d"), looks := true }, kinds := [], alts := [], laidByText := true, laidKinds := [.data, .data, .data], laidTests := true, laidLooks := .later }
def TraceProjectedUptoCardSaid : Prop := Claim7.holds Tryz.pinned (.plain (OpenSpec.upto traceProjectedSpec)) traceProjectedUptoCard

/-- THE SECOND FORM's CARD OF 'stricklelaw04.TraceOrders'. -/
def traceOrdersUptoCard : Claim7 := { stood := { row := traceOrdersUptoRow, standIns := [], harness := (true, "f92ba1b51fe0046060d60d4c1981afd70d2eb3e477a670ca8f1d329991b7d13d"), looks := true }, kinds := [], alts := [], laidByText := true, laidKinds := [.data, .data, .data], laidTests := true, laidLooks := .later }
def TraceOrdersUptoCardSaid : Prop := Claim7.holds Tryz.pinned (.plain (OpenSpec.upto traceOrdersSpec)) traceOrdersUptoCard

/-- THE SECOND FORM's CARD OF 'stricklelaw04.TraceExchanged'. -/
def traceExchangedUptoCard : Claim7 := { stood := { row := traceExchangedUptoRow, standIns := [], harness := (true, "f92ba1b51fe0046060d60d4c1981afd70d2eb3e477a670ca8f1d329991b7d13d"), looks := true }, kinds := [], alts := [], laidByText := true, laidKinds := [.data, .data, .data], laidTests := true, laidLooks := .later }
def TraceExchangedUptoCardSaid : Prop := Claim7.holds Tryz.pinned (.plain (OpenSpec.upto traceExchangedSpec)) traceExchangedUptoCard

/-- THE SECOND FORM's CARD OF 'stricklelaw04.TraceMeets'. -/
def traceMeetsUptoCard : Claim7 := { stood := { row := traceMeetsUptoRow, standIns := [], harness := (true, "f92ba1b51fe0046060d60d4c1981afd70d2eb3e477a670ca8f1d329991b7d13d"), looks := true }, kinds := [], alts := [], laidByText := true, laidKinds := [.data, .data, .data], laidTests := true, laidLooks := .later }
def TraceMeetsUptoCardSaid : Prop := Claim7.holds Tryz.pinned (.plain (OpenSpec.upto traceMeetsSpec)) traceMeetsUptoCard

/-- THE SECOND FORM's CARD OF 'stricklelaw04.TraceTurns'. -/
def traceTurnsUptoCard : Claim7 := { stood := { row := traceTurnsUptoRow, standIns := [], harness := (true, "f92ba1b51fe0046060d60d4c1981afd70d2eb3e477a670ca8f1d329991b7d13d"), looks := true }, kinds := [], alts := [], laidByText := true, laidKinds := [.data, .data, .data], laidTests := true, laidLooks := .later }
def TraceTurnsUptoCardSaid : Prop := Claim7.holds Tryz.pinned (.plain (OpenSpec.upto traceTurnsSpec)) traceTurnsUptoCard

/-- THE SECOND FORM's CARD OF 'stricklelaw04.TraceJoins'. -/
def traceJoinsUptoCard : Claim7 := { stood := { row := traceJoinsUptoRow, standIns := [], harness := (true, "f92ba1b51fe0046060d60d4c1981afd70d2eb3e477a670ca8f1d329991b7d13d"), looks := true }, kinds := [], alts := [], laidByText := true, laidKinds := [.data, .data, .data], laidTests := true, laidLooks := .later }
def TraceJoinsUptoCardSaid : Prop := Claim7.holds Tryz.pinned (.plain (OpenSpec.upto traceJoinsSpec)) traceJoinsUptoCard

/-- THE SECOND FORM's CARD OF 'stricklelaw04.TraceRests'. -/
def traceRestsUptoCard : Claim7 := { stood := { row := traceRestsUptoRow, standIns := [], harness := (true, "f92ba1b51fe0046060d60d4c1981afd70d2eb3e477a670ca8f1d329991b7d13d"), looks := true }, kinds := [], alts := [], laidByText := true, laidKinds := [.data, .data, .data], laidTests := true, laidLooks := .later }
def TraceRestsUptoCardSaid : Prop := Claim7.holds Tryz.pinned (.plain (OpenSpec.upto traceRestsSpec)) traceRestsUptoCard

/-- THE SECOND FORM's CARD OF 'stricklelaw04.TraceNeeds'. -/
def traceNeedsUptoCard : Claim7 := { stood := { row := traceNeedsUptoRow, standIns := [], harness := (true, "f92ba1b51fe0046060d60d4c1981afd70d2eb3e477a670ca8f1d329991b7d13d"), looks := true }, kinds := [], alts := [], laidByText := true, laidKinds := [.data, .data, .data], laidTests := true, laidLooks := .later }
def TraceNeedsUptoCardSaid : Prop := Claim7.holds Tryz.pinned (.plain (OpenSpec.upto traceNeedsSpec)) traceNeedsUptoCard

/-- THE SECOND FORM's CARD OF 'stricklelaw04.TraceSteps'. -/
def traceStepsUptoCard : Claim7 := { stood := { row := traceStepsUptoRow, standIns := [], harness := (true, "f92ba1b51fe0046060d60d4c1981afd70d2eb3e477a670ca8f1d329991b7d13d"), looks := true }, kinds := [], alts := [], laidByText := true, laidKinds := [.data, .data, .data], laidTests := true, laidLooks := .later }
def TraceStepsUptoCardSaid : Prop := Claim7.holds Tryz.pinned (.plain (OpenSpec.upto traceStepsSpec)) traceStepsUptoCard

/-- THE SECOND FORM's CARD OF 'stricklelaw04.TraceMemory'. -/
def traceMemoryUptoCard : Claim7 := { stood := { row := traceMemoryUptoRow, standIns := [], harness := (true, "f92ba1b51fe0046060d60d4c1981afd70d2eb3e477a670ca8f1d329991b7d13d"), looks := true }, kinds := [], alts := [], laidByText := true, laidKinds := [.data, .data, .data], laidTests := true, laidLooks := .later }
def TraceMemoryUptoCardSaid : Prop := Claim7.holds Tryz.pinned (.plain (OpenSpec.upto traceMemorySpec)) traceMemoryUptoCard

/-- THE SECOND FORM's CARD OF 'stricklelaw04.TraceNormal'. -/
def traceNormalUptoCard : Claim7 := { stood := { row := traceNormalUptoRow, standIns := [], harness := (true, "f92ba1b51fe0046060d60d4c1981afd70d2eb3e477a670ca8f1d329991b7d13d"), looks := true }, kinds := [], alts := [], laidByText := true, laidKinds := [.data, .data, .data], laidTests := true, laidLooks := .later }
def TraceNormalUptoCardSaid : Prop := Claim7.holds Tryz.pinned (.plain (OpenSpec.upto traceNormalSpec)) traceNormalUptoCard

/-- THE SECOND FORM's CARD OF 'stricklelaw04.TraceLines'. -/
def traceLinesUptoCard : Claim7 := { stood := { row := traceLinesUptoRow, standIns := [], harness := (true, "f92ba1b51fe0046060d60d4c1981afd70d2eb3e477a670ca8f1d329991b7d13d"), looks := true }, kinds := [], alts := [], laidByText := true, laidKinds := [.data, .data, .data, .data, .sentinel, .sentinel, .pinned], laidTests := true, laidLooks := .later }
def TraceLinesUptoCardSaid : Prop := Claim7.holds Tryz.pinned (.plain (OpenSpec.upto traceLinesSpec)) traceLinesUptoCard
end Rows
end Go.Proofs.YtccnkebkgegohaaGreatDoor
