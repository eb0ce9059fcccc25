import Derived.Test.YtccnkebkgegohaaGreatDoorHY9a
import Derived.Test.YtccnkebkgegohaaGreatDoorHY10
/-
  Given contracts of functions of the program, and laws for them, one behind the other.
-/
set_option linter.unusedVariables false
set_option linter.unusedSimpArgs false
set_option linter.unusedSectionVars false
section
namespace Go.Proofs.YtccnkebkgegohaaGreatDoor
open Go.RowKit Go.Rel
set_option maxRecDepth 100000
theorem joins_law {l : List Sol} {g h : List Ac} (hf : Free2 l g h) (k : List Ac) : preB l g (nrm l (joinA l g h)) = true ∧ preB l h (nrm l (joinA l g h)) = true ∧ (preB l g k = true → preB l h k = true → preB l (nrm l (joinA l g h)) k = true) := by
  have J := (joinA_is hf).eqv (nrm_eqv l (joinA l g h))
  exact ⟨pre_of J.left, pre_of J.right, fun h1 h2 => pre_of (J.least (of_pre h1) (of_pre h2))⟩
theorem hres_any {b : Sol} {l : List Sol} {M : List Ac} {E : Int} {f : Nat} {args : Array Value} {w : World} (h : Calls Tryz.prog f args w (HRes b l M E w)) : Calls Tryz.prog f args w fun e w' => ∃ B L M E, HRes B L M E w e w' := h.mono fun e w' h => ⟨_, _, _, _, h⟩
theorem Merge_any {b : Sol} {l : List Sol} {g h : List Ac} {t u : StB} (R : Runs b l g t) (R2 : Runs b l h u) (hlen : g.length + h.length ≤ 60) {v av v2 av2 : Value} (w : World) (Hv : SlS w v l) (Hav : SlA w av g) (Hv2 : SlS w v2 l) (Hav2 : SlA w av2 h) :
    Calls Tryz.prog 26 #[.agg #[.int .u64 (pl b 0), .int .u64 (pl b 1), .int .u64 (pl b 2), .int .u64 (pl b 3), .int .u64 (pl b 4), .int .u64 (pl b 5), .int .u64 (pl b 6), .int .u64 (pl b 7), v, av], .agg #[.int .u64 (pl b 0), .int .u64 (pl b 1), .int .u64 (pl b 2), .int .u64 (pl b 3), .int .u64 (pl b 4), .int .u64 (pl b 5), .int .u64 (pl b 6), .int .u64 (pl b 7), v2, av2]] w fun e w' => ∃ B L M E, HRes B L M E w e w' := by
  by_cases hf : Free2 l g h
  · exact hres_any (Merge_j R R2 hf hlen w Hv Hav Hv2 Hav2)
  · exact hres_any (Merge_c R R2 hf w Hv Hav Hv2 Hav2)
theorem many3 {k0 n0 k1 n1 k2 n2 : Nat} (hm : (many k0 n0 || (many k1 n1 || many k2 n2)) = false) : many k0 n0 = false ∧ many k1 n1 = false ∧ many k2 n2 = false := by
  simpa [Bool.or_eq_false_iff] using hm
end Go.Proofs.YtccnkebkgegohaaGreatDoor
end
