import Derived.Test.YtccnkebkgegohaaGreatDoorHY3
/-
  Given contracts of functions of the program, and laws for them, one behind the other.
-/
set_option linter.unusedVariables false
set_option linter.unusedSimpArgs false
set_option linter.unusedSectionVars false
section
namespace Go.Proofs.YtccnkebkgegohaaGreatDoor
open Go.RowKit Go.Rel
set_option maxRecDepth 100000
/-! merging: the plain law -/
section
variable {b : Sol} {l : List Sol} {g h k : List Ac}
theorem free2_symm (hf : Free2 l g h) : Free2 l h g := free2_of (joinA_is hf).right (joinA_is hf).left
theorem free2_iff {g' h' : List Ac} (e : Tra.Eqv (depA l) g g') (e' : Tra.Eqv (depA l) h h') : Free2 l g h ↔ Free2 l g' h' :=
  ⟨fun hf => free2_of ((joinA_is hf).left.eqv e (Tra.Eqv.refl _)) ((joinA_is hf).right.eqv e' (Tra.Eqv.refl _)), fun hf => free2_of ((joinA_is hf).left.eqv e.symm (Tra.Eqv.refl _)) ((joinA_is hf).right.eqv e'.symm (Tra.Eqv.refl _))⟩
theorem join_symm (hf : Free2 l g h) : nrm l (joinA l h g) = nrm l (joinA l g h) := (nrm_iff l).2 ((joinA_is (free2_symm hf)).uniq (joinA_is hf).symm)
/-- what is merged, merged with a third one: by either way -/
theorem assoc_iff (hf : Free2 l g h) : Free2 l (nrm l (joinA l g h)) k ↔ ∃ hk : Free2 l h k, Free2 l g (nrm l (joinA l h k)) := by
  have J := (joinA_is hf).eqv (nrm_eqv l _)
  constructor
  · intro f1
    have J1 := joinA_is f1
    have f2 : Free2 l h k := free2_of (J.right.trans J1.left) J1.right
    have J2 := (joinA_is f2).eqv (nrm_eqv l _)
    exact ⟨f2, free2_of (J.left.trans J1.left) (J2.least (J.right.trans J1.left) J1.right)⟩
  · rintro ⟨f2, f3⟩
    have J2 := (joinA_is f2).eqv (nrm_eqv l _)
    have J3 := joinA_is f3
    exact free2_of (J.least J3.left (J2.left.trans J3.right)) (J2.right.trans J3.right)
theorem assoc_same (hf : Free2 l g h) (f1 : Free2 l (nrm l (joinA l g h)) k) (f2 : Free2 l h k) (f3 : Free2 l g (nrm l (joinA l h k))) :
    nrm l (joinA l g (nrm l (joinA l h k))) = nrm l (joinA l (nrm l (joinA l g h)) k) := by
  have J := (joinA_is hf).eqv (nrm_eqv l _)
  have J1 := joinA_is f1
  have J2 := (joinA_is f2).eqv (nrm_eqv l _)
  have J3 := joinA_is f3
  refine (nrm_iff l).2 (Tra.Pre.anti (depA_refl l) ?_ ?_)
  · exact J3.least (J.left.trans J1.left) (J2.least (J.right.trans J1.left) J1.right)
  · exact J1.least (J.least J3.left (J2.left.trans J3.right)) (J2.right.trans J3.right)
theorem again_free (hf : Free2 l g h) : Free2 l (nrm l (joinA l g h)) g := free2_of (Tra.Pre.refl _) ((joinA_is hf).eqv (nrm_eqv l _)).left
theorem again_same (hf : Free2 l g h) : nrm l (joinA l (nrm l (joinA l g h)) g) = nrm l (joinA l g h) := by
  have J := (joinA_is hf).eqv (nrm_eqv l _)
  have J1 := joinA_is (again_free hf)
  have e : Tra.Eqv (depA l) (joinA l (nrm l (joinA l g h)) g) (nrm l (joinA l g h)) := Tra.Pre.anti (depA_refl l) (J1.least (Tra.Pre.refl _) J.left) J1.left
  rw [(nrm_iff l).2 e, nrm_nrm]
end
theorem Stand_z {b : Sol} {l : List Sol} {m : List Ac} {t : StB} {v av : Value} (R : Runs b l m t) (Z : Sol) (hZ : t.1 = Z) (w : World) (Hv : SlS w v l) (Hav : SlA w av m) : Calls Tryz.prog 22 #[.agg #[.int .u64 (pl b 0), .int .u64 (pl b 1), .int .u64 (pl b 2), .int .u64 (pl b 3), .int .u64 (pl b 4), .int .u64 (pl b 5), .int .u64 (pl b 6), .int .u64 (pl b 7), v, av]] w fun e w' => e = .returned (.tuple #[.agg #[.int .u64 (pl Z 0), .int .u64 (pl Z 1), .int .u64 (pl Z 2), .int .u64 (pl Z 3), .int .u64 (pl Z 4), .int .u64 (pl Z 5), .int .u64 (pl Z 6), .int .u64 (pl Z 7), .int .u8 (t.2.toNat : Int)], .int .i64 0]) ∧ Below w.heap.size w w' := by
  subst hZ; exact Stand_r R w Hv Hav
theorem sol_cell {W : World} {g t : Nat} {s : Sol} {o : Value} (h : Blk W g #[.int .u64 (pl s 0), .int .u64 (pl s 1), .int .u64 (pl s 2), .int .u64 (pl s 3), .int .u64 (pl s 4), .int .u64 (pl s 5), .int .u64 (pl s 6), .int .u64 (pl s 7), o] t) {k : Nat} (hk : k < 8) : W.cell? ⟨g, k, none⟩ = some (.int .u64 (pl s k)) := by
  rw [h.cell]
  match k, hk with
  | 0, _ => rfl
  | 1, _ => rfl
  | 2, _ => rfl
  | 3, _ => rfl
  | 4, _ => rfl
  | 5, _ => rfl
  | 6, _ => rfl
  | 7, _ => rfl
  | n + 8, h => exact absurd h (by omega)
set_option maxHeartbeats 4000000 in
theorem same28 (b : Sol) (p q p' q' : Option Addr) (n c k d n' c' k' d' : Nat) (l : List Sol) (m : List Ac) (w : World) (S : SlS w (.slice p n c) l) (A : SlA w (.slice q k d) m) (S' : SlS w (.slice p' n' c') l) (A' : SlA w (.slice q' k' d') m) :
    Calls Tryz.prog 28 #[.agg #[.int .u64 (pl b 0), .int .u64 (pl b 1), .int .u64 (pl b 2), .int .u64 (pl b 3), .int .u64 (pl b 4), .int .u64 (pl b 5), .int .u64 (pl b 6), .int .u64 (pl b 7), .slice p n c, .slice q k d], .int .i64 0, .agg #[.int .u64 (pl b 0), .int .u64 (pl b 1), .int .u64 (pl b 2), .int .u64 (pl b 3), .int .u64 (pl b 4), .int .u64 (pl b 5), .int .u64 (pl b 6), .int .u64 (pl b 7), .slice p' n' c', .slice q' k' d'], .int .i64 0] w fun e w' => e = .returned (.bool true) ∧ Below w.heap.size w w' := by
  have H := Lib.hid fun w' (hb : Below w.heap.size w w') => Same_eq (b := b) w' (S.mono hb) (A.mono hb) (S'.mono hb) (A'.mono hb)
  clear S A S' A'
  go_enter Tryz.func28, Tryz.ntmps28
  go_wp2_with fail
  refine (H.out _ (by repeat (first | with_reducible exact bel_refl _ | with_reducible assumption | with_reducible refine bel_drewN ?_ _ | with_reducible refine bel_drew ?_ | with_reducible refine bel_alloc ?_ _ | with_reducible refine bel_row ?_ ?_ _ | with_reducible refine bel_set ?_ ?_ _ | refine bel_trans ?_ (by with_reducible assumption) | (simp; done) | (simp; omega)))).mono ?_
  rintro e w1 ⟨rfl, hb⟩
  have hB1 : Below w.heap.size w w1 := bel_trans (by repeat (first | with_reducible exact bel_refl _ | with_reducible assumption | with_reducible refine bel_drewN ?_ _ | with_reducible refine bel_drew ?_ | with_reducible refine bel_alloc ?_ _ | with_reducible refine bel_row ?_ ?_ _ | with_reducible refine bel_set ?_ ?_ _ | refine bel_trans ?_ (by with_reducible assumption) | (simp; done) | (simp; omega))) hb
  clear hb
  go_wp2_with fail
  refine bodyPost_ret (by simp [results, Tryz.results28, go_sem]) rfl ⟨rfl, hB1⟩
end Go.Proofs.YtccnkebkgegohaaGreatDoor
end
