import Derived.Test.YtkfimbonmnoglaaGreatDoorG29
/-
  Given contracts of functions of the program, and laws for them, one behind the other.
-/
set_option linter.unusedVariables false
set_option linter.unusedSimpArgs false
set_option linter.unusedSectionVars false
section
namespace Go.Solid
open Go.Draw
set_option maxRecDepth 100000
/-! SolidOrder: the order that Fits makes -/
def fitS (a b : Sol) : Bool := decide (b = 0) || (fitsL a b).head?.isSome
theorem fitS_iff {a b : Sol} : fitS a b = true ↔ b = 0 ∨ ∃ m, FitsM a b m := by
 unfold fitS
 by_cases hb : b = 0
 ·simp [hb]
 ·rw [Bool.or_eq_true, fits_head hb, decide_eq_true_eq]
theorem ord_refl (a : Sol) : fitS a a = true := fitS_iff.2 (.inr ⟨_, fits_refl a⟩)
theorem count_none : countS 0 = 0 := count_zero.2 rfl
theorem ord_count {a b : Sol} (h : fitS a b = true) : countS b ≤ countS a := by
 rcases fitS_iff.1 h with rfl | ⟨m, hm⟩
 ·rw [count_none]; exact Nat.zero_le _
 ·exact fits_count hm
theorem ord_trans {a b c : Sol} (h : fitS a b = true) (k : fitS b c = true) : fitS a c = true := by
 rcases fitS_iff.1 k with rfl | ⟨m, hm⟩
 ·exact fitS_iff.2 (.inl rfl)
 ·rcases fitS_iff.1 h with rfl | ⟨n, hn⟩
  ·have := fits_count hm
   rw [count_none] at this
   exact fitS_iff.2 (.inl (count_zero.1 (by omega)))
  ·exact fitS_iff.2 (.inr ⟨_, fits_trans hm hn⟩)
theorem ord_less {a b : Sol} (d : Sol) (h : fitS a b = true) : fitS a (b &&& ~~~d) = true := by
 have hs : subS (b &&& ~~~d) b = true := cut_sub b d
 rcases fitS_iff.1 h with rfl | ⟨m, hm⟩
 ·refine fitS_iff.2 (.inl ?_)
  have := count_le hs
  rw [count_none] at this
  exact count_zero.1 (by omega)
 ·exact fitS_iff.2 (.inr ⟨m, fits_less hm hs⟩)
theorem ord_join {a b : Sol} (d : Sol) (h : fitS a b = true) : fitS (a ||| d) b = true := by
 rcases fitS_iff.1 h with rfl | ⟨m, hm⟩
 ·exact fitS_iff.2 (.inl rfl)
 ·exact fitS_iff.2 (.inr ⟨m, fits_wide hm (subS_iff.2 fun c hc => or_has.2 (.inl hc))⟩)
end Go.Solid
end
section
namespace Go.Proofs.YtkfimbonmnoglaaGreatDoor
open Go.RowKit Go.Rel Go.Draw Go.Solid
set_option maxRecDepth 100000
/-! Fits by its flag -/
theorem fitsMo_fit (a b : Sol) : (fitsMo a b).2 = fitS a b := by
 unfold fitsMo fitS
 by_cases hb : b = 0
 ·rw [if_pos hb]; simp [hb]
 ·rw [if_neg hb]
  cases e : (fitsL a b).head? with
  | none => show false = (decide (b = 0) || false); rw [decide_eq_false hb]; rfl
  | some y => show true = (decide (b = 0) || true); rw [Bool.or_true]
theorem fit_call (a b : Sol) (w : World) (hT : Tab w) : Calls Tryz.prog 51 #[solV a, solV b] w fun e w' => (∃ q1 q2 q3 q4 : Int, e = .returned (.tuple #[.agg #[.int .i64 q1, .int .i64 q2, .int .i64 q3, .int .i64 q4], .bool (fitS a b)])) ∧ Below w.heap.size w w' := by
 have := fits_n a b w hT
 rw [fitsMo_fit] at this
 exact this.mono fun e w' he => ⟨⟨_, _, _, _, he.1⟩, he.2⟩
end Go.Proofs.YtkfimbonmnoglaaGreatDoor
end
