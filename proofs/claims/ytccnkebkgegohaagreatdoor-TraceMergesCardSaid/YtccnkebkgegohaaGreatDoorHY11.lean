import Derived.Test.YtccnkebkgegohaaGreatDoorHY1
/-
  Given contracts of functions of the program, and laws for them, one behind the other.
-/
set_option linter.unusedVariables false
set_option linter.unusedSimpArgs false
set_option linter.unusedSectionVars false
section
namespace Go.Proofs.YtccnkebkgegohaaGreatDoor
open Go.RowKit Go.Rel
set_option maxRecDepth 100000
/-- a world that grew by what a walk lays: found by its form -/
class BelI (w0 w : World) : Prop where
  out : Below w0.heap.size w0 w
instance (w : World) : BelI w w := ⟨bel_refl w⟩
instance (w0 w : World) [h : BelI w0 w] (o : Obj) : BelI w0 (w.alloc o) := ⟨bel_alloc h.out o⟩
instance (w0 w : World) [h : BelI w0 w] : BelI w0 w.drew := ⟨bel_drew h.out⟩
instance (w0 w : World) [h : BelI w0 w] (n : Nat) : BelI w0 (w.drewN n) := ⟨bel_drewN h.out n⟩
theorem bni {w0 w : World} [h : BelI w0 w] : Below w0.heap.size w0 w := h.out
/-- two acts of a history that hang together are not independent -/
theorem Indep_dep {b : Sol} {l : List Sol} {g h : List Ac} {t u : StB} (R : Runs b l g t) (R2 : Runs b l h u) {x y : Ac} (hx : x ∈ g) (hy : y ∈ h) (hd : depA l x y = true) {v : Value} (w : World) (Hv : SlS w v l) :
    Calls Tryz.prog 32 #[.agg #[.int .u64 (pl b 0), .int .u64 (pl b 1), .int .u64 (pl b 2), .int .u64 (pl b 3), .int .u64 (pl b 4), .int .u64 (pl b 5), .int .u64 (pl b 6), .int .u64 (pl b 7), v], .agg #[.int .u8 x.1, .int .i64 x.2.1, .int .u64 (pl x.2.2 0), .int .u64 (pl x.2.2 1), .int .u64 (pl x.2.2 2), .int .u64 (pl x.2.2 3), .int .u64 (pl x.2.2 4), .int .u64 (pl x.2.2 5), .int .u64 (pl x.2.2 6), .int .u64 (pl x.2.2 7)], .agg #[.int .u8 y.1, .int .i64 y.2.1, .int .u64 (pl y.2.2 0), .int .u64 (pl y.2.2 1), .int .u64 (pl y.2.2 2), .int .u64 (pl y.2.2 3), .int .u64 (pl y.2.2 4), .int .u64 (pl y.2.2 5), .int .u64 (pl y.2.2 6), .int .u64 (pl y.2.2 7)]] w fun e w' => e = .returned (.tuple #[.bool false, .int .i64 0]) ∧ Below w.heap.size w w' := by
  have hs := Independent_spec b v l x y w Hv
  have hx0 : chkAc b l x = 0 := by unfold chkAc; rw [if_pos R.pat, if_pos (R.fine.fit x hx)]
  have hy0 : chkAc b l y = 0 := by unfold chkAc; rw [if_pos R.pat, if_pos (R2.fine.fit y hy)]
  have hi : indErr b l x y = 0 := by unfold indErr; rw [if_pos hx0, hy0]
  have ha : apartB l x y = false := by
    unfold apartB
    rw [depA_meets (R.fine.ne x hx)] at hd
    rw [hd]; rfl
  rw [hi, ha] at hs
  exact hs
theorem few_len {m n : Nat} (h : many m n = false) (h60 : m ≤ 60) : m ≤ 14 := by
  unfold many at h
  have := of_decide_eq_false h
  omega
end Go.Proofs.YtccnkebkgegohaaGreatDoor
end
