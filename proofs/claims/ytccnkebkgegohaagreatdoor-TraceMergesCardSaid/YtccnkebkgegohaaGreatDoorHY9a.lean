import Derived.Test.YtccnkebkgegohaaGreatDoorHY6
import Derived.Test.YtccnkebkgegohaaGreatDoorHY7
/-
  Given contracts of functions of the program, and laws for them, one behind the other.
-/
set_option linter.unusedVariables false
set_option linter.unusedSimpArgs false
set_option linter.unusedSectionVars false
section
namespace Go.Proofs.YtccnkebkgegohaaGreatDoor
open Go.RowKit Go.Rel
set_option maxRecDepth 100000
theorem samePat_eq {b b' : Sol} {l l' : List Sol} (h : samePat b l b' l' = true) : b' = b ∧ l' = l := by
  unfold samePat at h
  simp only [Bool.and_eq_true, beq_iff_eq] at h
  exact ⟨h.1.symm, h.2.symm⟩
theorem pre_of {l : List Sol} {g h : List Ac} (p : Tra.Pre (depA l) g h) : preB l g h = true := pre_iff.2 p
theorem of_pre {l : List Sol} {g h : List Ac} (p : preB l g h = true) : Tra.Pre (depA l) g h := pre_iff.1 p
theorem bad_or {b : Sol} {l : List Sol} {m : List Ac} : Bad b l m ∨ ∃ t, Runs b l m t := by
  cases h : begunM b l m with
  | inl x => exact .inl ⟨x, h⟩
  | inr s =>
    obtain ⟨t, R, _⟩ := Runs.of h
    exact .inr ⟨t, R⟩
theorem Check_ok {b : Sol} {l : List Sol} {m : List Ac} {t : StB} (R : Runs b l m t) {v av : Value} (w : World) (Hv : SlS w v l) (Hav : SlA w av m) :
    Calls Tryz.prog 27 #[.agg #[.int .u64 (pl b 0), .int .u64 (pl b 1), .int .u64 (pl b 2), .int .u64 (pl b 3), .int .u64 (pl b 4), .int .u64 (pl b 5), .int .u64 (pl b 6), .int .u64 (pl b 7), v, av]] w fun e w' => e = .returned (.tuple #[.int .i64 0, .int .i64 0]) ∧ Below w.heap.size w w' := by
  have := Check_spec b v av l m w Hv Hav
  unfold checkR at this
  rw [R.good] at this
  exact this
theorem Check_any (b : Sol) (l : List Sol) (m : List Ac) : ∃ x y : Int, (Bad b l m → (y != 0) = true) ∧ ∀ {v av : Value} (w : World), SlS w v l → SlA w av m →
    Calls Tryz.prog 27 #[.agg #[.int .u64 (pl b 0), .int .u64 (pl b 1), .int .u64 (pl b 2), .int .u64 (pl b 3), .int .u64 (pl b 4), .int .u64 (pl b 5), .int .u64 (pl b 6), .int .u64 (pl b 7), v, av]] w fun e w' => e = .returned (.tuple #[.int .i64 x, .int .i64 y]) ∧ Below w.heap.size w w' := by
  refine ⟨_, (checkR b l m).2, fun ⟨x, hx⟩ => ?_, fun w h1 h2 => Check_spec b _ _ l m w h1 h2⟩
  unfold checkR
  rw [hx]; exact begunM_bad hx
/-- the greatest common beginning -/
theorem meets_law {l : List Sol} (g h k : List Ac) : preB l (nrm l (beyA l g h).1) g = true ∧ preB l (nrm l (beyA l g h).1) h = true ∧ (preB l k g = true → preB l k h = true → preB l k (nrm l (beyA l g h).1) = true) := by
  have B := bey_A l g h
  have e := nrm_eqv l (beyA l g h).1
  exact ⟨pre_of (B.pre1.eqv e (Tra.Eqv.refl _)), pre_of (B.pre2.eqv e (Tra.Eqv.refl _)), fun h1 h2 => pre_of ((B.great (depA_refl l) (depA_symm l) (of_pre h1) (of_pre h2)).eqv (Tra.Eqv.refl _) e)⟩
end Go.Proofs.YtccnkebkgegohaaGreatDoor
end
