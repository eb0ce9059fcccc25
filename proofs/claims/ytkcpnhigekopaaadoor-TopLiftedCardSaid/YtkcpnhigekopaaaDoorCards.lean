/-
  DERIVED. GIVEN WITH THE SEED: THE CARDS: each row of YtkcpnhigekopaaaDoorRows.lean that lists a variable, with what it lists TIED to the program's text (the seventh form; the later family's looks); each row that meets fmt, with fmt's text TOLD by the authors' own Lean function (tested against real Go, not proved from fmt's source: count such statements apart). THE CARD IS WHAT COUNTS. Prove the row's statement (the work); the ties are given (YtkcpnhigekopaaaDoorTie.lean); close each card by the builder's one call (the guide's Derived/Test/ToyasCard.lean, 'card_holds'). Laid BY PROGRAM, IN A SANDBOX (cutbox-door.mjs). By AI agents, Wed Nov 11 2026. No macro, syntax, notation, axiom, sorry.
-/
import Derived.Test.YtkcpnhigekopaaaDoorRows
import GoSem.ClaimSeven
namespace Go.Proofs.YtkcpnhigekopaaaDoor
namespace Rows

/-- THE TIED CARD OF 'strickletop.TopLifted'. -/
def topLiftedCard : Claim7 := { stood := { row := topLiftedRow, standIns := [], harness := (true, "0a138bd036d11276b07416c479398353da0cf7dbf6f0fce634fc9d5943ac54fd"), looks := false }, kinds := [], alts := [], laidByText := true, laidKinds := [.data, .data], laidTests := true, laidLooks := .later }
def TopLiftedCardSaid : Prop := Claim7.holds Tryd.pinned (.plain (OpenSpec.ofChange topLiftedSpec)) topLiftedCard

/-- THE SECOND FORM's CARD OF 'strickletop.TopLifted'. -/
def topLiftedUptoCard : Claim7 := { stood := { row := topLiftedUptoRow, standIns := [], harness := (true, "0a138bd036d11276b07416c479398353da0cf7dbf6f0fce634fc9d5943ac54fd"), looks := false }, kinds := [], alts := [], laidByText := true, laidKinds := [.data, .data], laidTests := true, laidLooks := .later }
def TopLiftedUptoCardSaid : Prop := Claim7.holds Tryd.pinned (.plain (OpenSpec.upto topLiftedSpec)) topLiftedUptoCard
end Rows
end Go.Proofs.YtkcpnhigekopaaaDoor
