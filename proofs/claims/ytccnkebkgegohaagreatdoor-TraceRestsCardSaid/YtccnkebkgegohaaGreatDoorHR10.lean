import Derived.Test.YtccnkebkgegohaaGreatDoorHR3
import Derived.Test.YtccnkebkgegohaaGreatDoorHR5
import Derived.Test.YtccnkebkgegohaaGreatDoorHR6
import Derived.Test.YtccnkebkgegohaaGreatDoorHR8
/-
  Given contracts of functions of the program, and laws for them, one behind the other.
-/
set_option linter.unusedVariables false
set_option linter.unusedSimpArgs false
set_option linter.unusedSectionVars false
section
namespace Go.Proofs.YtccnkebkgegohaaGreatDoor
open Go.RowKit Go.Rel
set_option maxRecDepth 100000
theorem hid_on {w w' : World} {φ : World → Prop} (H : Hid (∀ w2, Below w.heap.size w w2 → φ w2)) (hb : Below w.heap.size w w') : Hid (∀ w2, Below w'.heap.size w' w2 → φ w2) := Lib.hid fun w2 hb2 => H.out w2 (bel_trans hb hb2)
theorem TraceRests_err (b0 b1 : Sol) (p0 p1 q0 q1 : Option Addr) (n0 n1 c0 c1 k0 k1 d0 d1 : Nat) (w : World) (hm : (many k0 n0 || many k1 n1) = false) (y E0 : Int) (hne : (y != 0) = true)
  (H96 : Hid (∀ w', Below w.heap.size w w' → Calls Tryz.prog 96 #[.agg #[.int .u64 (pl b0 0), .int .u64 (pl b0 1), .int .u64 (pl b0 2), .int .u64 (pl b0 3), .int .u64 (pl b0 4), .int .u64 (pl b0 5), .int .u64 (pl b0 6), .int .u64 (pl b0 7), .slice p0 n0 c0, .slice q0 k0 d0], .agg #[.int .u64 (pl b1 0), .int .u64 (pl b1 1), .int .u64 (pl b1 2), .int .u64 (pl b1 3), .int .u64 (pl b1 4), .int .u64 (pl b1 5), .int .u64 (pl b1 6), .int .u64 (pl b1 7), .slice p1 n1 c1, .slice q1 k1 d1]] w' fun e w'' => (∃ sp tq, e = .returned (.tuple #[.pointer sp, .pointer tq, .int .i64 y])) ∧ Below w'.heap.size w' w''))
  (H107 : Hid (∀ w', Below w.heap.size w w' → Calls Tryz.prog 107 #[.agg #[.int .u64 (pl b0 0), .int .u64 (pl b0 1), .int .u64 (pl b0 2), .int .u64 (pl b0 3), .int .u64 (pl b0 4), .int .u64 (pl b0 5), .int .u64 (pl b0 6), .int .u64 (pl b0 7), .slice p0 n0 c0, .slice q0 k0 d0], .agg #[.int .u64 (pl b1 0), .int .u64 (pl b1 1), .int .u64 (pl b1 2), .int .u64 (pl b1 3), .int .u64 (pl b1 4), .int .u64 (pl b1 5), .int .u64 (pl b1 6), .int .u64 (pl b1 7), .slice p1 n1 c1, .slice q1 k1 d1]] w' fun e w'' => (∃ sp tq, e = .returned (.tuple #[.pointer sp, .pointer tq, .bool false, .int .i64 E0])) ∧ Below w'.heap.size w' w''))
  (H126 : Hid (∀ w', Below w.heap.size w w' → Calls Tryz.prog 126 #[.agg #[.int .u64 (pl b0 0), .int .u64 (pl b0 1), .int .u64 (pl b0 2), .int .u64 (pl b0 3), .int .u64 (pl b0 4), .int .u64 (pl b0 5), .int .u64 (pl b0 6), .int .u64 (pl b0 7), .slice p0 n0 c0, .slice q0 k0 d0], .agg #[.int .u64 (pl b1 0), .int .u64 (pl b1 1), .int .u64 (pl b1 2), .int .u64 (pl b1 3), .int .u64 (pl b1 4), .int .u64 (pl b1 5), .int .u64 (pl b1 6), .int .u64 (pl b1 7), .slice p1 n1 c1, .slice q1 k1 d1]] w' fun e w'' => e = .returned (.int .i64 y) ∧ Below w'.heap.size w' w''))
  (H62 : Hid (∀ w', Below w.heap.size w w' → Calls Tryz.prog 62 #[.agg #[.int .u64 (pl b0 0), .int .u64 (pl b0 1), .int .u64 (pl b0 2), .int .u64 (pl b0 3), .int .u64 (pl b0 4), .int .u64 (pl b0 5), .int .u64 (pl b0 6), .int .u64 (pl b0 7), .slice p0 n0 c0, .slice q0 k0 d0], .agg #[.int .u64 (pl b1 0), .int .u64 (pl b1 1), .int .u64 (pl b1 2), .int .u64 (pl b1 3), .int .u64 (pl b1 4), .int .u64 (pl b1 5), .int .u64 (pl b1 6), .int .u64 (pl b1 7), .slice p1 n1 c1, .slice q1 k1 d1]] w' fun e w'' => e = .returned (.tuple #[.bool false, .int .i64 E0]) ∧ Below w'.heap.size w' w'')) (HAL : AliveH w) :
  Calls Tryz.prog 13 #[.agg #[.int .u64 (pl b0 0), .int .u64 (pl b0 1), .int .u64 (pl b0 2), .int .u64 (pl b0 3), .int .u64 (pl b0 4), .int .u64 (pl b0 5), .int .u64 (pl b0 6), .int .u64 (pl b0 7), .slice p0 n0 c0, .slice q0 k0 d0], .agg #[.int .u64 (pl b1 0), .int .u64 (pl b1 1), .int .u64 (pl b1 2), .int .u64 (pl b1 3), .int .u64 (pl b1 4), .int .u64 (pl b1 5), .int .u64 (pl b1 6), .int .u64 (pl b1 7), .slice p1 n1 c1, .slice q1 k1 d1]] w fun e w' => e = .returned (.bool true) ∧ Below w.heap.size w w' := by
 have HC : Hid (∀ w', Below w.heap.size w w' → Calls Tryz.prog 67 #[.agg #[.int .u64 (pl b0 0), .int .u64 (pl b0 1), .int .u64 (pl b0 2), .int .u64 (pl b0 3), .int .u64 (pl b0 4), .int .u64 (pl b0 5), .int .u64 (pl b0 6), .int .u64 (pl b0 7), .slice p0 n0 c0, .slice q0 k0 d0], .agg #[.int .u64 (pl b1 0), .int .u64 (pl b1 1), .int .u64 (pl b1 2), .int .u64 (pl b1 3), .int .u64 (pl b1 4), .int .u64 (pl b1 5), .int .u64 (pl b1 6), .int .u64 (pl b1 7), .slice p1 n1 c1, .slice q1 k1 d1]] w' fun e w'' => e = .returned (.tuple #[.agg (acA (0, 0, 0)), .agg (acA (0, 0, 0)), .bool false, .int .i64 y]) ∧ Below w'.heap.size w' w'') := by
  rw [← zeroA_ac]; exact Lib.hid fun w' hb => refConflict_no b0 b1 p0 q0 p1 q1 n0 c0 k0 d0 n1 c1 k1 d1 y hne w' (hid_on H126 hb)
 have HP : Hid (∀ w', Below w.heap.size w w' → Calls Tryz.prog 60 #[.agg #[.int .u64 (pl b0 0), .int .u64 (pl b0 1), .int .u64 (pl b0 2), .int .u64 (pl b0 3), .int .u64 (pl b0 4), .int .u64 (pl b0 5), .int .u64 (pl b0 6), .int .u64 (pl b0 7), .slice p0 n0 c0, .slice q0 k0 d0], .agg #[.int .u64 (pl b1 0), .int .u64 (pl b1 1), .int .u64 (pl b1 2), .int .u64 (pl b1 3), .int .u64 (pl b1 4), .int .u64 (pl b1 5), .int .u64 (pl b1 6), .int .u64 (pl b1 7), .slice p1 n1 c1, .slice q1 k1 d1]] w' fun e w'' => e = .returned (.tuple #[.agg (acA (0, 0, 0)), .agg (acA (0, 0, 0)), .bool false, .int .i64 y]) ∧ Below w'.heap.size w' w'') := by
  rw [← zeroA_ac]; exact Lib.hid fun w' hb => Conflict_e b0 b1 _ _ _ _ y hne w' (hid_on H96 hb)
 exact TraceRests_main b0 b1 p0 p1 q0 q1 n0 n1 c0 c1 k0 k1 d0 d1 w hm false false (0, 0, 0) (0, 0, 0) 0 0 [] [] [] [] [] E0 y y y y
  (Lib.hid fun w' hb => Begins_e b0 b1 _ _ _ _ E0 w' (hid_on H107 hb)) H62
  (Lib.hid fun w' hb => (Rest_e b0 b1 _ _ _ _ y hne w' (hid_on H96 hb)).mono fun e w2 h => by obtain ⟨rfl, h⟩ := h; exact ⟨_, rfl, sl_niln _, h⟩)
  (Lib.hid fun w' hb => (refRest_no b0 b1 p0 q0 p1 q1 n0 c0 k0 d0 n1 c1 k1 d1 y hne w' (hid_on H126 hb)).mono fun e w2 h => by obtain ⟨rfl, h⟩ := h; exact ⟨_, rfl, sl_niln _, h⟩)
  (Lib.hid fun w' hb => (Common_e b0 b1 _ _ _ _ y hne w' (hid_on H96 hb)).mono fun e w2 h => by obtain ⟨rfl, h⟩ := h; exact hres_zero h)
  (Lib.hid fun w' hb => (refCommon_no b0 b1 p0 q0 p1 q1 n0 c0 k0 d0 n1 c1 k1 d1 y hne w' (hid_on H126 hb)).mono fun e w2 h => by obtain ⟨rfl, h⟩ := h; exact hres_zero h)
  (Lib.hid fun w' hb => (Merge_e b0 b1 _ _ _ _ y hne w' (hid_on H96 hb)).mono fun e w2 h => by obtain ⟨rfl, h⟩ := h; exact hres_zero h)
  (Lib.hid fun w' hb => (refMerge_no b0 b1 p0 q0 p1 q1 n0 c0 k0 d0 n1 c1 k1 d1 (0, 0, 0) (0, 0, 0) false y hne w' (hid_on HC hb)).mono fun e w2 h => by obtain ⟨rfl, h⟩ := h; exact hres_zero h)
  HP HC HAL
theorem TraceRests_good (b : Sol) (p0 p1 q0 q1 : Option Addr) (n0 n1 c0 c1 k0 k1 d0 d1 : Nat) (w : World) (hm : (many k0 n0 || many k1 n1) = false) {l : List Sol} {g h : List Ac} {s t : StB} (R : Runs b l g s) (R2 : Runs b l h t)
  (S0 : SlS w (.slice p0 n0 c0) l) (A0 : SlN w (.slice q0 k0 d0) g) (S1 : SlS w (.slice p1 n1 c1) l) (A1 : SlN w (.slice q1 k1 d1) h) (B0 : k0 ≤ d0 ∧ d0 ≤ 9223372036854775807) (B1 : k1 ≤ d1 ∧ d1 ≤ 9223372036854775807)
  (H124 : Hid (∀ w', Below w.heap.size w w' → Calls Tryz.prog 124 #[.agg #[.int .u64 (pl b 0), .int .u64 (pl b 1), .int .u64 (pl b 2), .int .u64 (pl b 3), .int .u64 (pl b 4), .int .u64 (pl b 5), .int .u64 (pl b 6), .int .u64 (pl b 7), .slice p0 n0 c0, .slice q0 k0 d0], .agg #[.int .u64 (pl b 0), .int .u64 (pl b 1), .int .u64 (pl b 2), .int .u64 (pl b 3), .int .u64 (pl b 4), .int .u64 (pl b 5), .int .u64 (pl b 6), .int .u64 (pl b 7), .slice p1 n1 c1, .slice q1 k1 d1]] w' fun e w'' => e = .returned (.int .i64 0) ∧ Below w'.heap.size w' w''))
  (H25 : Hid (∀ w', Below w.heap.size w w' → Calls Tryz.prog 25 #[.agg #[.int .u64 (pl b 0), .int .u64 (pl b 1), .int .u64 (pl b 2), .int .u64 (pl b 3), .int .u64 (pl b 4), .int .u64 (pl b 5), .int .u64 (pl b 6), .int .u64 (pl b 7), .slice p0 n0 c0], .agg #[.int .u64 (pl b 0), .int .u64 (pl b 1), .int .u64 (pl b 2), .int .u64 (pl b 3), .int .u64 (pl b 4), .int .u64 (pl b 5), .int .u64 (pl b 6), .int .u64 (pl b 7), .slice p1 n1 c1]] w' fun e w'' => e = .returned (.bool true) ∧ Below w'.heap.size w' w'')) (HAL : AliveH w) :
  Calls Tryz.prog 13 #[.agg #[.int .u64 (pl b 0), .int .u64 (pl b 1), .int .u64 (pl b 2), .int .u64 (pl b 3), .int .u64 (pl b 4), .int .u64 (pl b 5), .int .u64 (pl b 6), .int .u64 (pl b 7), .slice p0 n0 c0, .slice q0 k0 d0], .agg #[.int .u64 (pl b 0), .int .u64 (pl b 1), .int .u64 (pl b 2), .int .u64 (pl b 3), .int .u64 (pl b 4), .int .u64 (pl b 5), .int .u64 (pl b 6), .int .u64 (pl b 7), .slice p1 n1 c1, .slice q1 k1 d1]] w fun e w' => e = .returned (.bool true) ∧ Below w.heap.size w w' := by
 have hk0 := sl_len A0.1
 have hk1 := sl_len A1.1
 have h60 := R.len
 have h61 := R2.len
 have hm2 : many k0 n0 = false ∧ many k1 n1 = false := by simpa using hm
 have h14 : k0 ≤ 14 := few_len hm2.1 (by omega)
 have h15 : k1 ≤ 14 := few_len hm2.2 (by omega)
 have F := R.fine
 have G := R2.fine
 have BF := bey_fine F G
 have CL := common_law F G
 have RL := rest_law (g := g) G
 have H126 : Hid (∀ w', Below w.heap.size w w' → Calls Tryz.prog 126 #[.agg #[.int .u64 (pl b 0), .int .u64 (pl b 1), .int .u64 (pl b 2), .int .u64 (pl b 3), .int .u64 (pl b 4), .int .u64 (pl b 5), .int .u64 (pl b 6), .int .u64 (pl b 7), .slice p0 n0 c0, .slice q0 k0 d0], .agg #[.int .u64 (pl b 0), .int .u64 (pl b 1), .int .u64 (pl b 2), .int .u64 (pl b 3), .int .u64 (pl b 4), .int .u64 (pl b 5), .int .u64 (pl b 6), .int .u64 (pl b 7), .slice p1 n1 c1, .slice q1 k1 d1]] w' fun e w'' => e = .returned (.int .i64 0) ∧ Below w'.heap.size w' w'') := Lib.hid fun w' hb => one126_spec b b p0 q0 p1 q1 n0 c0 k0 d0 n1 c1 k1 d1 0 true w' (hid_on H124 hb) (hid_on H25 hb)
 have H127 : Hid (∀ w', Below w.heap.size w w' → Calls Tryz.prog 127 #[.agg #[.int .u64 (pl b 0), .int .u64 (pl b 1), .int .u64 (pl b 2), .int .u64 (pl b 3), .int .u64 (pl b 4), .int .u64 (pl b 5), .int .u64 (pl b 6), .int .u64 (pl b 7), .slice p0 n0 c0], .slice q0 k0 d0, .slice q1 k1 d1] w' fun e w'' => ∃ u v z, e = .returned (.tuple #[u, v, z]) ∧ (OwnA w'' w'.heap.size u (nrm l (beyA l g h).1) ∧ OwnA w'' w'.heap.size v (nrm l (beyA l g h).2.1) ∧ OwnA w'' w'.heap.size z (nrm l (beyA l g h).2.2)) ∧ Below w'.heap.size w' w'') := by
  rw [← CL.1, ← CL.2.1, ← CL.2.2]
  exact Lib.hid fun w' hb => common127_spec b p0 q0 q1 n0 c0 k0 d0 k1 d1 l g h w' F G (S0.mono hb) (A0.mono hb) (A1.mono hb) ⟨B0.1, B0.2, by omega⟩ ⟨B1.1, B1.2, by omega⟩
 have H125 := Lib.hid fun w' (hb : Below w.heap.size w w') => rest125_spec b p0 q0 q1 n0 c0 k0 d0 k1 d1 l g h w' G (S0.mono hb) (A0.1.mono hb) (A1.mono hb) ⟨B1.1, B1.2, by omega⟩ (by omega)
 have H61 := Lib.hid fun w' (hb : Below w.heap.size w w') => Begins_r R R2 w' (S0.mono hb) (A0.1.mono hb) (S1.mono hb) (A1.1.mono hb)
 have H62 := Lib.hid fun w' (hb : Below w.heap.size w w') => refBegins_yes b b p0 q0 p1 q1 n0 c0 k0 d0 n1 c1 k1 d1 w' (hid_on H124 hb) (hid_on H25 hb) l (restR l g h) (hid_on H125 hb)
 rw [RL.1] at H62
 have H63 := Lib.hid fun w' (hb : Below w.heap.size w w') => Rest_r R R2 w' (S0.mono hb) (A0.1.mono hb) (S1.mono hb) (A1.1.mono hb)
 have H64 := Lib.hid fun w' (hb : Below w.heap.size w w') => refRest_yes b b p0 q0 p1 q1 n0 c0 k0 d0 n1 c1 k1 d1 w' (hid_on H126 hb) l (restR l g h) (hid_on H125 hb)
 have e1 : restM l (restR l g h) = (if (beyA l g h).2.1.isEmpty then nrm l (beyA l g h).2.2 else []) := by
  rw [← RL.1]
  cases hr : restR l g h with
  | none => rfl
  | some r => exact RL.2 r hr
 have e2 : restE (restR l g h) = (if (beyA l g h).2.1.isEmpty then 0 else 44) := by
  rw [← RL.1]
  cases hr : restR l g h with
  | none => rfl
  | some r => rfl
 rw [e1, e2] at H64
 have H29 := Lib.hid fun w' (hb : Below w.heap.size w w') => Common_r R R2 w' (S0.mono hb) (A0.1.mono hb) (S1.mono hb) (A1.1.mono hb)
 have H65 := Lib.hid fun w' (hb : Below w.heap.size w w') => refCommon_yes b b p0 q0 p1 q1 n0 c0 k0 d0 n1 c1 k1 d1 w' (hid_on H126 hb) l _ _ _ (Lib.hid (S0.mono hb)) (hid_on H127 hb)
 obtain ⟨X, Y, r, hx⟩ : ∃ X Y r, confV (confA l g h) = (X, Y, r) := ⟨_, _, _, rfl⟩
 have H60 := Lib.hid fun w' (hb : Below w.heap.size w w') => Conflict_r R R2 X Y r hx w' (S0.mono hb) (A0.1.mono hb) (S1.mono hb) (A1.1.mono hb)
 have H67 := Lib.hid fun w' (hb : Below w.heap.size w w') => refConflict_yes b b p0 q0 p1 q1 n0 c0 k0 d0 n1 c1 k1 d1 w' (hid_on H126 hb) l _ _ _ (hid_on H127 hb) X Y r hx (Lib.hid fun x hx y hy w2 hb2 => refApart_spec b _ l x y w2 ((S0.mono hb).mono hb2) (BF.2.1.fit x ((mem_nrm _ x).1 hx)) (BF.2.2.fit y ((mem_nrm _ y).1 hy)))
 by_cases hf : Free2 l g h
 ·have hr : r = false := by
   have := (confA_none F G).2 hf
   rw [this] at hx
   unfold confV at hx
   simp only [Prod.mk.injEq] at hx
   exact hx.2.2.symm
  subst hr
  have hB : (nrm l (beyA l g h).2.2).length ≤ h.length := by
   rw [nrm_len]
   have := ((bey_A l g h).right).len (depA_refl l)
   rw [List.length_append] at this
   omega
  have FB : Fine l (g ++ nrm l (beyA l g h).2.2) := F.app (BF.2.2.eqv (nrm_eqv l _))
  have H26 := Lib.hid fun w' (hb : Below w.heap.size w w') => Merge_j R R2 hf (by omega) w' (S0.mono hb) (A0.1.mono hb) (S1.mono hb) (A1.1.mono hb)
  have H66 := Lib.hid fun w' (hb : Below w.heap.size w w') => refMerge_yes b b p0 q0 p1 q1 n0 c0 k0 d0 n1 c1 k1 d1 X Y l g _ _ _ w' FB (by omega) (Lib.hid (S0.mono hb)) (Lib.hid (A0.mono hb)) (hid_on H67 hb) (hid_on H127 hb)
  rw [mergeR_law F G hf] at H66
  exact TraceRests_main b b p0 p1 q0 q1 n0 n1 c0 c1 k0 k1 d0 d1 w hm _ false X Y b b l l _ _ _ 0 _ 0 0 0 H61 H62 H63 H64 H29 H65 H26 H66 H60 H67 HAL
 ·have hr : r = true := by
   cases hc : confA l g h with
   | none => exact absurd ((confA_none F G).1 hc) hf
   | some xy =>
    rw [hc] at hx
    unfold confV at hx
    simp only [Prod.mk.injEq] at hx
    exact hx.2.2.symm
  subst hr
  have H26 := Lib.hid fun w' (hb : Below w.heap.size w w') => Merge_c R R2 hf w' (S0.mono hb) (A0.1.mono hb) (S1.mono hb) (A1.1.mono hb)
  have H66 : Hid (∀ w', Below w.heap.size w w' → Calls Tryz.prog 66 #[.agg #[.int .u64 (pl b 0), .int .u64 (pl b 1), .int .u64 (pl b 2), .int .u64 (pl b 3), .int .u64 (pl b 4), .int .u64 (pl b 5), .int .u64 (pl b 6), .int .u64 (pl b 7), .slice p0 n0 c0, .slice q0 k0 d0], .agg #[.int .u64 (pl b 0), .int .u64 (pl b 1), .int .u64 (pl b 2), .int .u64 (pl b 3), .int .u64 (pl b 4), .int .u64 (pl b 5), .int .u64 (pl b 6), .int .u64 (pl b 7), .slice p1 n1 c1, .slice q1 k1 d1]] w' (HRes 0 [] [] 45 w')) := Lib.hid fun w' (hb : Below w.heap.size w w') => (refMerge_clash b b p0 q0 p1 q1 n0 c0 k0 d0 n1 c1 k1 d1 X Y w' (hid_on H67 hb)).mono fun e w2 h => by obtain ⟨rfl, h⟩ := h; exact hres_zero h
  exact TraceRests_main b b p0 p1 q0 q1 n0 n1 c0 c1 k0 k1 d0 d1 w hm _ true X Y b 0 l [] _ _ _ 0 _ 0 45 0 H61 H62 H63 H64 H29 H65 H26 H66 H60 H67 HAL
theorem TraceRests_walk (b0 : Sol) (u0 : Value) (l0 : List Sol) (av0 : Value) (g : List Ac) (b1 : Sol) (u1 : Value) (l1 : List Sol) (av1 : Value) (h : List Ac) (w : World)
  (S0 : SlS w u0 l0) (A0 : SlA w av0 g) (N0 : ∀ n c, av0 = .slice none n c → c = 0) (S1 : SlS w u1 l1) (A1 : SlA w av1 h) (N1 : ∀ n c, av1 = .slice none n c → c = 0) (hT : w.cell? ⟨5, 15, none⟩ = some (.int .u8 4)) :
  Calls Tryz.prog 13 #[.agg #[.int .u64 (pl b0 0), .int .u64 (pl b0 1), .int .u64 (pl b0 2), .int .u64 (pl b0 3), .int .u64 (pl b0 4), .int .u64 (pl b0 5), .int .u64 (pl b0 6), .int .u64 (pl b0 7), u0, av0], .agg #[.int .u64 (pl b1 0), .int .u64 (pl b1 1), .int .u64 (pl b1 2), .int .u64 (pl b1 3), .int .u64 (pl b1 4), .int .u64 (pl b1 5), .int .u64 (pl b1 6), .int .u64 (pl b1 7), u1, av1]] w fun e w' => e = .returned (.bool true) ∧ Below w.heap.size w w' := by
 have HAL := alive_h w hT
 have G0 : SlN w av0 g := ⟨A0, N0⟩
 have G1 : SlN w av1 h := ⟨A1, N1⟩
 have T0 := S0
 have T1 := S1
 have X0 := A0
 have X1 := A1
 obtain ⟨p0, c0, rfl, _, _⟩ := T0
 obtain ⟨p1, c1, rfl, _, _⟩ := T1
 obtain ⟨q0, d0, rfl, hkd0, hdM0⟩ := X0
 obtain ⟨q1, d1, rfl, hkd1, hdM1⟩ := X1
 generalize (g.map acL).length = k0 at *
 generalize (h.map acL).length = k1 at *
 generalize (l0.map solL).length = n0 at *
 generalize (l1.map solL).length = n1 at *
 cases hm : (many k0 n0 || many k1 n1) with
 | true => exact TraceRests_many b0 b1 p0 p1 q0 q1 n0 n1 c0 c1 k0 k1 d0 d1 w hm HAL
 | false =>
  have C0 := Lib.hid fun w' (hb : Below w.heap.size w w') => refCheck_spec b0 _ _ l0 g w' (S0.mono hb) (A0.mono hb)
  have C1 := Lib.hid fun w' (hb : Below w.heap.size w w') => refCheck_spec b1 _ _ l1 h w' (S1.mono hb) (A1.mono hb)
  have H124 := Lib.hid fun w' (hb : Below w.heap.size w w') => two124_spec b0 b1 p0 q0 p1 q1 n0 c0 k0 d0 n1 c1 k1 d1 _ _ _ _ w' (hid_on C0 hb) (hid_on C1 hb)
  have H25 := Lib.hid fun w' (hb : Below w.heap.size w w') => SamePattern_spec b0 b1 _ _ l0 l1 w' (S0.mono hb) (S1.mono hb)
  have H126 := Lib.hid fun w' (hb : Below w.heap.size w w') => one126_spec b0 b1 p0 q0 p1 q1 n0 c0 k0 d0 n1 c1 k1 d1 _ _ w' (hid_on H124 hb) (hid_on H25 hb)
  cases hg : begunM b0 l0 g with
  | inl x =>
   have hx := begunM_bad hg
   have hch : checkR b0 l0 g = x := by unfold checkR; rw [hg]
   have hx0 : (x.2 == 0) = false := by simpa using hx
   rw [hch, hx0] at H124 H126
   rw [if_neg Bool.false_ne_true] at H124 H126
   rw [hx0, Bool.false_and, if_neg Bool.false_ne_true] at H126
   exact TraceRests_err b0 b1 p0 p1 q0 q1 n0 n1 c0 c1 k0 k1 d0 d1 w hm x.2 x.2 hx
    (Lib.hid fun w' hb => (together_bad1 hg b1 _ _ w' (S0.mono hb) (A0.mono hb)).mono fun e w2 h => ⟨⟨_, _, h.1⟩, h.2⟩)
    (Lib.hid fun w' hb => (both_bad1 hg b1 _ _ w' (S0.mono hb) (A0.mono hb)).mono fun e w2 h => ⟨⟨_, _, h.1⟩, h.2⟩)
    H126 (Lib.hid fun w' hb => refBegins_no b0 b1 p0 q0 p1 q1 n0 c0 k0 d0 n1 c1 k1 d1 x.2 hx w' (hid_on H124 hb)) HAL
  | inr s =>
   have hch : checkR b0 l0 g = (0, 0) := by unfold checkR; rw [hg]
   rw [hch] at H124 H126
   rw [show ((((0, 0) : Nat × Int).2 == 0) : Bool) = true from rfl, if_pos rfl] at H124 H126
   cases hh : begunM b1 l1 h with
   | inl x =>
    have hx := begunM_bad hh
    have hch1 : checkR b1 l1 h = x := by unfold checkR; rw [hh]
    have hx0 : (x.2 == 0) = false := by simpa using hx
    rw [hch1] at H124 H126
    rw [hx0, Bool.false_and, if_neg Bool.false_ne_true] at H126
    exact TraceRests_err b0 b1 p0 p1 q0 q1 n0 n1 c0 c1 k0 k1 d0 d1 w hm x.2 x.2 hx
     (Lib.hid fun w' hb => (together_bad2 hg hh w' (S0.mono hb) (A0.mono hb) (S1.mono hb) (A1.mono hb)).mono fun e w2 h => ⟨⟨_, _, h.1⟩, h.2⟩)
     (Lib.hid fun w' hb => (both_bad2 hg hh w' (S0.mono hb) (A0.mono hb) (S1.mono hb) (A1.mono hb)).mono fun e w2 h => ⟨⟨_, _, h.1⟩, h.2⟩)
     H126 (Lib.hid fun w' hb => refBegins_no b0 b1 p0 q0 p1 q1 n0 c0 k0 d0 n1 c1 k1 d1 x.2 hx w' (hid_on H124 hb)) HAL
   | inr s2 =>
    have hch1 : checkR b1 l1 h = (0, 0) := by unfold checkR; rw [hh]
    rw [hch1] at H124 H126
    cases e1 : samePat b0 l0 b1 l1 with
    | false =>
     rw [e1] at H25 H126
     exact TraceRests_err b0 b1 p0 p1 q0 q1 n0 n1 c0 c1 k0 k1 d0 d1 w hm 43 0 rfl
      (Lib.hid fun w' hb => (together_good hg hh w' (S0.mono hb) (A0.mono hb) (S1.mono hb) (A1.mono hb) false e1).mono fun e w2 h => by obtain ⟨bp, bq, rfl, _, _, h⟩ := h; exact ⟨⟨_, _, rfl⟩, h⟩)
      (Lib.hid fun w' hb => (both_good hg hh w' (S0.mono hb) (A0.mono hb) (S1.mono hb) (A1.mono hb)).mono fun e w2 h => by obtain ⟨bp, bq, rfl, _, _, h⟩ := h; exact ⟨⟨_, _, by rw [e1]⟩, h⟩)
      H126 (Lib.hid fun w' hb => refBegins_other b0 b1 p0 q0 p1 q1 n0 c0 k0 d0 n1 c1 k1 d1 w' (hid_on H124 hb) (hid_on H25 hb)) HAL
    | true =>
     rw [e1] at H25
     obtain ⟨rfl, rfl⟩ := samePat_eq e1
     obtain ⟨t, R, _⟩ := Runs.of hg
     obtain ⟨t2, R2, _⟩ := Runs.of hh
     exact TraceRests_good b1 p0 p1 q0 q1 n0 n1 c0 c1 k0 k1 d0 d1 w hm R R2 S0 G0 S1 G1 ⟨hkd0, hdM0.1⟩ ⟨hkd1, hdM1.1⟩ H124 H25 HAL
end Go.Proofs.YtccnkebkgegohaaGreatDoor
end
