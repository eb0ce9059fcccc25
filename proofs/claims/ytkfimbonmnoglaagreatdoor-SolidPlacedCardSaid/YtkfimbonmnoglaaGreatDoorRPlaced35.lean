import Derived.Test.YtkfimbonmnoglaaGreatDoorRPlaced34
import Derived.Deep.Cut
import Derived.Laws.AppendOwn
/-
  Given contracts of functions of the program, and laws for them, one behind the other.
-/
set_option linter.unusedVariables false
set_option linter.unusedSimpArgs false
set_option linter.unusedSectionVars false
section
namespace Go.Proofs.YtkfimbonmnoglaaGreatDoor
open Go.RowKit Go.Rel Go.Draw Go.Solid
set_option maxRecDepth 100000
attribute [local go_sem] Oper.semAt_some
theorem SolidPlaced_walk (a b : Sol) (tt : Int) (d : Cl) (w : World) (hT : Tab w) (hC : ∀ W, Below w.heap.size w W → Calls Tryz.prog 25 #[] W fun e w' => e = .returned (.bool true) ∧ Below W.heap.size W w') :
  Calls Tryz.prog 16 #[solV a, solV b, motV tt d] w fun e w' => e = .returned (.bool true) ∧ Below w.heap.size w w' := by
 by_cases hq : (placedM b tt d).2 = 0
 ·exact SolidPlaced_yes a b tt d hq w hT hC
 ·exact SolidPlaced_no a b tt d hq w hT hC
end Go.Proofs.YtkfimbonmnoglaaGreatDoor
end
