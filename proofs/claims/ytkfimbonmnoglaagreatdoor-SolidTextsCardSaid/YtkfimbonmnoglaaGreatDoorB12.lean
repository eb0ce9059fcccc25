import Derived.Test.YtkfimbonmnoglaaGreatDoorB10
import Derived.Test.YtkfimbonmnoglaaGreatDoorB11
import Derived.Deep.Cut
/-
  Given contracts of functions of the program, and laws for them, one behind the other.
-/
set_option linter.unusedVariables false
set_option linter.unusedSimpArgs false
set_option linter.unusedSectionVars false
section
namespace Go.Proofs.YtkfimbonmnoglaaGreatDoor
open Go.RowKit Go.Rel Go.Draw Go.Solid
set_option maxRecDepth 100000
abbrev zeroV : Value := .agg #[.int .u64 0, .int .u64 0, .int .u64 0, .int .u64 0, .int .u64 0, .int .u64 0, .int .u64 0, .int .u64 0]
theorem zeroV_eq : zeroV = solV 0 := by simp only [solV, pl_zero]
theorem moved_n (s : Sol) (d : Cl) (w : World) (hT : Tab w) : Calls Tryz.prog 73 #[solV s, .int .i64 d.1, .int .i64 d.2.1, .int .i64 d.2.2] w fun e w' => e = .returned (.tuple #[solV (movedM s d).1, .int .i64 (movedM s d).2]) ∧ Below w.heap.size w w' := by
 obtain ⟨x, y, z⟩ := d
 unfold movedM
 by_cases hs : s = 0
 ·rw [if_pos hs]
  have := moved_zero s hs x y z w
  rw [hs] at this ⊢; exact this
 ·rw [if_neg hs]
  by_cases hx : inB x (-7) 7 = true
  ·by_cases hy : inB y (-7) 7 = true
   ·by_cases hz : inB z (-7) 7 = true
    ·rw [if_pos (show shortB (x, y, z) = true by unfold shortB; rw [hx, hy, hz]; rfl)]
     by_cases hst : stays (movC (x, y, z)) s = true
     ·rw [if_pos hst]; exact moved_ok s hs (inB_iff.1 hx) (inB_iff.1 hy) (inB_iff.1 hz) hst w hT
     ·rw [if_neg hst]; exact moved_off s hs (inB_iff.1 hx) (inB_iff.1 hy) (inB_iff.1 hz) (Bool.eq_false_iff.2 hst) w hT
    ·rw [if_neg (show ¬ shortB (x, y, z) = true by unfold shortB; simp [hz])]
     have := moved_far2 s hs hx hy (Bool.eq_false_iff.2 hz) w
     rw [show (.agg #[.int .u64 0, .int .u64 0, .int .u64 0, .int .u64 0, .int .u64 0, .int .u64 0, .int .u64 0, .int .u64 0] : Value) = solV 0 from zeroV_eq] at this
     exact this
   ·rw [if_neg (show ¬ shortB (x, y, z) = true by unfold shortB; simp [hy])]
    have := moved_far1 s hs (dz := z) hx (Bool.eq_false_iff.2 hy) w
    rw [show (.agg #[.int .u64 0, .int .u64 0, .int .u64 0, .int .u64 0, .int .u64 0, .int .u64 0, .int .u64 0, .int .u64 0] : Value) = solV 0 from zeroV_eq] at this
    exact this
  ·rw [if_neg (show ¬ shortB (x, y, z) = true by unfold shortB; simp [hx])]
   have := moved_far0 s hs (dy := y) (dz := z) (Bool.eq_false_iff.2 hx) w
   rw [show (.agg #[.int .u64 0, .int .u64 0, .int .u64 0, .int .u64 0, .int .u64 0, .int .u64 0, .int .u64 0, .int .u64 0] : Value) = solV 0 from zeroV_eq] at this
   exact this
abbrev motV (t : Int) (d : Cl) : Value := .agg #[.int .i64 t, .int .i64 d.1, .int .i64 d.2.1, .int .i64 d.2.2]
theorem right_n (t : Int) (d : Cl) (w : World) : Calls Tryz.prog 88 #[motV t d] w fun e w' => e = .returned (.bool (rightB t d)) ∧ Below w.heap.size w w' := by
 obtain ⟨x, y, z⟩ := d
 have e : ∀ n a b, (decide (a ≤ n) && decide (n ≤ b)) = inB n a b := fun _ _ _ => rfl
 by_cases ht : inB t 0 23 = true
 ·by_cases hx : inB x (-7) 7 = true
  ·by_cases hy : inB y (-7) 7 = true
   ·by_cases hz : inB z (-7) 7 = true
    ·rw [show rightB t (x, y, z) = true by unfold rightB shortB; rw [ht, hx, hy, hz]; rfl]
     exact right_4 ht hx hy hz w
    ·rw [show rightB t (x, y, z) = false by unfold rightB shortB; simp [hz]]
     exact right_3 ht hx hy (Bool.eq_false_iff.2 hz) w
   ·rw [show rightB t (x, y, z) = false by unfold rightB shortB; simp [hy]]
    exact right_2 ht hx (Bool.eq_false_iff.2 hy) w
  ·rw [show rightB t (x, y, z) = false by unfold rightB shortB; simp [hx]]
   exact right_1 ht (Bool.eq_false_iff.2 hx) w
 ·rw [show rightB t (x, y, z) = false by unfold rightB shortB; simp [ht]]
  exact right_0 (Bool.eq_false_iff.2 ht) w
set_option maxHeartbeats 2000000 in
theorem placed_no (s : Sol) {t x y z : Int} (h : rightB t (x, y, z) = false) (w : World) : Calls Tryz.prog 24 #[solV s, motV t (x, y, z)] w fun e w' => e = .returned (.tuple #[zeroV, .int .i64 1]) ∧ Below w.heap.size w w' := by
 have HR : Hid (∀ W, Calls Tryz.prog 88 #[motV t (x, y, z)] W fun e w' => e = .returned (.bool false) ∧ Below W.heap.size W w') := Lib.hid fun W => by
  have := right_n t (x, y, z) W
  rw [h] at this; exact this
 clear h
 go_enter Tryz.func24, Tryz.ntmps24
 go_wp2_with fail
 refine (HR.out _).mono ?_
 rintro e w1 ⟨rfl, hb1⟩
 have hbw : Below w.heap.size w w1 := bel_trans (by repeat (first | with_reducible exact bel_refl _ | with_reducible assumption | with_reducible refine bel_drewN ?_ _ | with_reducible refine bel_drew ?_ | with_reducible refine bel_alloc ?_ _ | with_reducible refine bel_row ?_ ?_ _ | with_reducible refine bel_set ?_ ?_ _ | refine bel_trans ?_ (by with_reducible assumption) | (simp; done) | (simp; omega))) hb1
 have B2 : Blk w1 (w.heap.size + 1 + 1) #[.int .u64 0, .int .u64 0, .int .u64 0, .int .u64 0, .int .u64 0, .int .u64 0, .int .u64 0, .int .u64 0] 26 := Blk.grow (by repeat (first | with_reducible assumption | (refine Blk.at _ _ ?_; (simp; done)) | with_reducible refine Blk.alloc ?_ _ | with_reducible refine Blk.drew ?_ | with_reducible refine Blk.rowS ?_ _ | with_reducible refine Blk.rowO ?_ _ (by simp))) hb1
 have r2 := B2.row; have l2 := B2.lt
 have cF := (B2.rowS #[.int .u64 0, .int .u64 0, .int .u64 0, .int .u64 0, .int .u64 0, .int .u64 0, .int .u64 0, .int .u64 0]).cell
 have hb5 := bel_row hbw (g := w.heap.size + 1 + 1) (by omega) #[.int .u64 0, .int .u64 0, .int .u64 0, .int .u64 0, .int .u64 0, .int .u64 0, .int .u64 0, .int .u64 0]
 rw [← B2.rw]
 clear B2 hb1 hbw
 go_wp2_with fail
 exact bodyPost_ret (v := .tuple #[zeroV, .int .i64 1]) (by simp [results, Tryz.results24, go_sem, cF]) rfl ⟨rfl, hb5⟩
theorem placed_n (s : Sol) (t : Int) (d : Cl) (w : World) (hT : Tab w) : Calls Tryz.prog 24 #[solV s, motV t d] w fun e w' => e = .returned (.tuple #[solV (placedM s t d).1, .int .i64 (placedM s t d).2]) ∧ Below w.heap.size w w' := by
 obtain ⟨x, y, z⟩ := d
 unfold placedM
 by_cases h : rightB t (x, y, z) = true
 ·rw [if_pos h]
  have ht := (rightB_iff.1 h).1
  obtain ⟨T, rfl⟩ : ∃ T : Nat, t = T := ⟨t.toNat, by omega⟩
  exact placed_by s (t := T) (by omega) w hT (fun W => by have := right_n (T : Int) (x, y, z) W; rw [h] at this; exact this) (fun W hW => moved_n (imgS (turnC T) s) (x, y, z) W hW)
 ·rw [if_neg h]
  have := placed_no s (by simpa using h) w
  rw [zeroV_eq] at this
  exact this
end Go.Proofs.YtkfimbonmnoglaaGreatDoor
end
section
namespace Go.Proofs.YtkfimbonmnoglaaGreatDoor
open Go.RowKit Go.Rel Go.Draw Go.Solid
set_option maxRecDepth 100000
theorem ones_card (p : U) (w : World) : Calls Tryz.prog 123 #[.int .u64 (uI p)] w fun e w' => e = .returned (.int .i64 (cardU p : Int)) ∧ w' = w := by
 have := ones64_core p w
 rw [pop_all] at this; exact this
/-- the cells of the planes from z on -/
def cntFrom (s : Sol) : Nat → Nat
 | 0 => 0
 | n + 1 => cardU (plv s (7 - n)) + cntFrom s n
theorem cntFrom_all (s : Sol) : cntFrom s 8 = countS s := by
 rw [count_planes]; rfl
set_option maxHeartbeats 2000000 in
theorem count_spec (s : Sol) (w : World) : Calls Tryz.prog 64 #[solV s] w fun e w' => e = .returned (.int .i64 (countS s : Int)) ∧ Below w.heap.size w w' := by
 have HC := Lib.hid (cntFrom_all s)
 obtain ⟨n, hn⟩ : ∃ n, n = countS s := ⟨_, rfl⟩
 rw [← hn] at HC ⊢
 have hn5 : n ≤ 512 := by rw [hn]; exact count_512 s
 clear hn
 go_enter Tryz.func64, Tryz.ntmps64
 go_wp2_with fail
 obtain ⟨W0, hW0⟩ : ∃ W0, W0 = w.alloc (.cells #[.int .u64 (pl s 0), .int .u64 (pl s 1), .int .u64 (pl s 2), .int .u64 (pl s 3), .int .u64 (pl s 4), .int .u64 (pl s 5), .int .u64 (pl s 6), .int .u64 (pl s 7)] 26) := ⟨_, rfl⟩
 have hbel : Below w.heap.size w W0 := by subst hW0; exact (by repeat (first | with_reducible exact bel_refl _ | with_reducible assumption | with_reducible refine bel_drewN ?_ _ | with_reducible refine bel_drew ?_ | with_reducible refine bel_alloc ?_ _ | with_reducible refine bel_row ?_ ?_ _ | with_reducible refine bel_set ?_ ?_ _ | refine bel_trans ?_ (by with_reducible assumption) | (simp; done) | (simp; omega)))
 rw [← hW0]
 clear hW0
 go_loopw [3, 7] (fun nv zv wx => ∃ (z a : Nat), z ≤ 8 ∧ a + cntFrom s (8 - z) = n ∧ nv = .int .i64 a ∧ zv = .int .i64 z ∧ wx = W0) (fun _ zv _ => 8 - (intOf zv).toNat)
 case atStart => exact ⟨0, 0, by omega, by rw [HC.out]; omega, rfl, rfl, rfl⟩
 case round =>
  obtain ⟨z, a, hz, ha, rfl, rfl, rfl⟩ := hrel
  by_cases hlt : z < 8
  ·have hix := fun w => idxS s hlt w
   have hd8 : decide ((z : Int) < 8) = true := by simp; omega
   have hc : cntFrom s (8 - z) = cardU (plv s z) + cntFrom s (8 - (z + 1)) := by
    rw [show 8 - z = (7 - z) + 1 by omega]
    show cardU (plv s (7 - (7 - z))) + _ = _
    rw [show 7 - (7 - z) = z by omega, show 8 - (z + 1) = 7 - z by omega]
   obtain ⟨c, hcc⟩ : ∃ c, c = cardU (plv s z) := ⟨_, rfl⟩
   rw [← hcc] at hc
   have HO : Hid (∀ W, Calls Tryz.prog 123 #[.int .u64 (uI (plv s z))] W fun e w' => e = .returned (.int .i64 (c : Int)) ∧ w' = W) := Lib.hid fun W => by rw [hcc]; exact ones_card _ W
   have HA : Hid (a + (c + cntFrom s (8 - (z + 1))) = n) := Lib.hid (by rw [← hc]; exact ha)
   have hac : a + c ≤ 512 := by omega
   clear hc hcc ha
   go_wp2_with fail
   refine (HO.out _).mono ?_
   rintro e w1 ⟨rfl, rfl⟩
   go_wp2_with fail
   go_roundw
   case rel => exact ⟨z + 1, a + c, by omega, (by rw [Nat.add_assoc]; exact HA.out), by go_num, by go_num, trivial⟩
   case measure => simp [intOf]; omega
  ·obtain rfl : z = 8 := by omega
   have hd8 : decide (((8 : Nat) : Int) < 8) = false := by decide
   obtain rfl : a = n := by rw [← ha]; rfl
   go_wp2_with fail
   go_ret
   exact ⟨rfl, hbel⟩
end Go.Proofs.YtkfimbonmnoglaaGreatDoor
end
section
namespace Go.Proofs.YtkfimbonmnoglaaGreatDoor
open Go.RowKit Go.Rel Go.Draw Go.Solid
set_option maxRecDepth 100000
def outF (s : Sol) (lz : Int) (d : Cl) (i : Int) (j : Nat) : U := if lz ≤ (j : Int) - d.2.2 ∧ (j : Int) - d.2.2 < i then shiftP (plv s ((j : Int) - d.2.2).toNat) (8 * d.2.1 + d.1) else 0
abbrev outR (s : Sol) (lz : Int) (d : Cl) (i : Int) : Array Value := mixA fun j => uI (outF s lz d i j)
theorem outR_start (s : Sol) (lz : Int) (d : Cl) : outR s lz d lz = #[.int .u64 0, .int .u64 0, .int .u64 0, .int .u64 0, .int .u64 0, .int .u64 0, .int .u64 0, .int .u64 0] := by
 have h : ∀ j, uI (outF s lz d lz j) = 0 := fun j => by
  unfold outF
  rw [if_neg (by omega)]; unfold uI; rfl
 unfold outR
 rw [mixA_eq (g := fun _ => 0) fun i _ => h i]
theorem outR_end (s : Sol) (lz hz : Int) (d : Cl) : outR s lz d (hz + 1) = #[.int .u64 (pl (liftS s lz hz d) 0), .int .u64 (pl (liftS s lz hz d) 1), .int .u64 (pl (liftS s lz hz d) 2), .int .u64 (pl (liftS s lz hz d) 3), .int .u64 (pl (liftS s lz hz d) 4), .int .u64 (pl (liftS s lz hz d) 5), .int .u64 (pl (liftS s lz hz d) 6), .int .u64 (pl (liftS s lz hz d) 7)] := by
 refine mixA_eq (g := fun i => pl (liftS s lz hz d) i) fun j hj => ?_
 rw [pl_uI]
 unfold liftS outF
 rw [plv_mkS _ _ hj]
 congr 1
 by_cases h : lz ≤ (j : Int) - d.2.2 ∧ (j : Int) - d.2.2 ≤ hz
 ·rw [if_pos h, if_pos (by omega)]
 ·rw [if_neg h, if_neg (by omega)]
theorem outR_step (s : Sol) (lz : Int) (d : Cl) {i : Int} (hi : lz ≤ i) {J : Nat} (hJ : (J : Int) = i + d.2.2) (hJ8 : J < 8) : (outR s lz d i).setIfInBounds J (.int .u64 (uI (shiftP (plv s i.toNat) (8 * d.2.1 + d.1)))) = outR s lz d (i + 1) := by
 unfold outR
 rw [mixA_set _ hJ8]
 refine mixA_eq fun j _ => ?_
 by_cases e : j = J
 ·subst e
  rw [if_pos rfl]
  congr 1
  unfold outF
  rw [if_pos (by omega), show (j : Int) - d.2.2 = i by omega]
 ·rw [if_neg e]
  congr 1
  unfold outF
  by_cases h : lz ≤ (j : Int) - d.2.2 ∧ (j : Int) - d.2.2 < i
  ·rw [if_pos h, if_pos (by omega)]
  ·rw [if_neg h, if_neg (by omega)]
abbrev poseV (s : Sol) (l h : Cl) : Value := .agg #[.int .u64 (pl s 0), .int .u64 (pl s 1), .int .u64 (pl s 2), .int .u64 (pl s 3), .int .u64 (pl s 4), .int .u64 (pl s 5), .int .u64 (pl s 6), .int .u64 (pl s 7), .int .i64 l.1, .int .i64 l.2.1, .int .i64 l.2.2, .int .i64 h.1, .int .i64 h.2.1, .int .i64 h.2.2]
theorem shl_pos (p : U) {n : Nat} : shiftP p (n : Int) = p <<< n := by unfold shiftP; rw [if_pos (by omega), Int.toNat_natCast]
theorem shr_neg (p : U) {n : Nat} (h : 0 < n) : shiftP p (-(n : Int)) = p >>> n := by unfold shiftP; rw [if_neg (by omega), Int.neg_neg, Int.toNat_natCast]
set_option maxHeartbeats 4000000 in
theorem lifted_spec (s : Sol) (l h : Cl) (x y z : Int) (hx : -7 ≤ x ∧ x ≤ 7) (hy : -7 ≤ y ∧ y ≤ 7) (hl : 0 ≤ l.2.2) (hlh : l.2.2 ≤ h.2.2) (hh : h.2.2 ≤ 7) (hz1 : 0 ≤ l.2.2 + z) (hz2 : h.2.2 + z ≤ 7) (w : World) :
  Calls Tryz.prog 156 #[poseV s l h, .int .i64 x, .int .i64 y, .int .i64 z] w fun e w' => e = .returned (solV (liftS s l.2.2 h.2.2 (x, y, z))) ∧ Below w.heap.size w w' := by
 obtain ⟨l1, l2, l3⟩ := l
 obtain ⟨h1, h2, h3⟩ := h
 simp only at hl hlh hh hz1 hz2 ⊢
 obtain ⟨Y, hY⟩ : ∃ Y, Y = liftS s l3 h3 (x, y, z) := ⟨_, rfl⟩
 rw [← hY]
 have HE := Lib.hid (outR_end s l3 h3 (x, y, z))
 rw [← hY] at HE
 clear hY
 go_enter Tryz.func156, Tryz.ntmps156
 go_wp2_with fail
 obtain ⟨W0, hW0⟩ : ∃ W0, W0 = ((w.alloc (.cells #[.int .u64 (pl s 0), .int .u64 (pl s 1), .int .u64 (pl s 2), .int .u64 (pl s 3), .int .u64 (pl s 4), .int .u64 (pl s 5), .int .u64 (pl s 6), .int .u64 (pl s 7), .int .i64 l1, .int .i64 l2, .int .i64 l3, .int .i64 h1, .int .i64 h2, .int .i64 h3] 151)).alloc (.cells #[.int .u64 0, .int .u64 0, .int .u64 0, .int .u64 0, .int .u64 0, .int .u64 0, .int .u64 0, .int .u64 0] 26)).alloc (.cells #[.int .u64 0, .int .u64 0, .int .u64 0, .int .u64 0, .int .u64 0, .int .u64 0, .int .u64 0, .int .u64 0] 26) := ⟨_, rfl⟩
 have B0 : Blk W0 w.heap.size #[.int .u64 (pl s 0), .int .u64 (pl s 1), .int .u64 (pl s 2), .int .u64 (pl s 3), .int .u64 (pl s 4), .int .u64 (pl s 5), .int .u64 (pl s 6), .int .u64 (pl s 7), .int .i64 l1, .int .i64 l2, .int .i64 l3, .int .i64 h1, .int .i64 h2, .int .i64 h3] 151 := by subst hW0; exact (by repeat (first | with_reducible assumption | (refine Blk.at _ _ ?_; (simp; done)) | with_reducible refine Blk.alloc ?_ _ | with_reducible refine Blk.drew ?_ | with_reducible refine Blk.rowS ?_ _ | with_reducible refine Blk.rowO ?_ _ (by simp)))
 have B1 : Blk W0 (w.heap.size + 1) #[.int .u64 0, .int .u64 0, .int .u64 0, .int .u64 0, .int .u64 0, .int .u64 0, .int .u64 0, .int .u64 0] 26 := by subst hW0; exact (by repeat (first | with_reducible assumption | (refine Blk.at _ _ ?_; (simp; done)) | with_reducible refine Blk.alloc ?_ _ | with_reducible refine Blk.drew ?_ | with_reducible refine Blk.rowS ?_ _ | with_reducible refine Blk.rowO ?_ _ (by simp)))
 have B2 : Blk W0 (w.heap.size + 1 + 1) (outR s l3 (x, y, z) l3) 26 := by rw [outR_start]; subst hW0; exact Blk.at _ _ (by simp)
 have hbel : Below w.heap.size w W0 := by subst hW0; exact (by repeat (first | with_reducible exact bel_refl _ | with_reducible assumption | with_reducible refine bel_drewN ?_ _ | with_reducible refine bel_drew ?_ | with_reducible refine bel_alloc ?_ _ | with_reducible refine bel_row ?_ ?_ _ | with_reducible refine bel_set ?_ ?_ _ | refine bel_trans ?_ (by with_reducible assumption) | (simp; done) | (simp; omega)))
 rw [← hW0]
 clear hW0
 have HB := Lib.hid (And.intro B0 (And.intro B1 (And.intro B2 hbel))); clear B0 B1 B2 hbel
 go_loopw [10] (fun iv wx => ∃ i : Int, l3 ≤ i ∧ i ≤ h3 + 1 ∧ iv = .int .i64 i ∧ Hid (Blk wx (w.heap.size + 1 + 1) (outR s l3 (x, y, z) i) 26 ∧ W0.grownBy wx (some (w.heap.size + 1 + 1)))) (fun iv _ => (h3 + 1 - intOf iv).toNat)
 case atStart => exact ⟨l3, by omega, by omega, rfl, Lib.hid ⟨HB.out.2.2.1, gb_refl _ _⟩⟩
 case round =>
  obtain ⟨i, hi1, hi2, rfl, HM⟩ := hrel
  have B0 := HB.out.1.gb HM.out.2 (by simp; omega)
  have c0 := B0.cell; have l0 := B0.lt
  clear B0
  by_cases hle : i ≤ h3
  ·have hd : decide (i ≤ h3) = true := decide_eq_true hle
   obtain ⟨I, hI⟩ : ∃ I : Nat, i = I := ⟨i.toNat, by omega⟩
   obtain ⟨J, hJ⟩ : ∃ J : Nat, i + z = J := ⟨(i + z).toNat, by omega⟩
   subst hI
   have hI8 : (I : Int) < 8 := by omega
   have hJ8 : (J : Int) < 8 := by omega
   have hj8 : J < 8 := by omega
   have cI : (#[.int .u64 (pl s 0), .int .u64 (pl s 1), .int .u64 (pl s 2), .int .u64 (pl s 3), .int .u64 (pl s 4), .int .u64 (pl s 5), .int .u64 (pl s 6), .int .u64 (pl s 7), .int .i64 l1, .int .i64 l2, .int .i64 l3, .int .i64 h1, .int .i64 h2, .int .i64 h3] : Array Value)[I]? = some (.int .u64 (uI (plv s I))) := by
    rw [← pl_uI]
    obtain rfl | rfl | rfl | rfl | rfl | rfl | rfl | rfl : I = 0 ∨ I = 1 ∨ I = 2 ∨ I = 3 ∨ I = 4 ∨ I = 5 ∨ I = 6 ∨ I = 7 := by omega
    all_goals rfl
   have hst := outR_step s l3 (x, y, z) hi1 (J := J) (by simp only; omega) hj8
   simp only [Int.toNat_natCast] at hst
   obtain ⟨Bx, hgx⟩ := HM.out
   have lx := Bx.lt; have fx := Bx.free J
   have eX : (outR s l3 (x, y, z) (I : Int))[J]? = some (.int .u64 (uI (outF s l3 (x, y, z) I J))) := mixA_get _ hj8
   have cX : wr.cell? ⟨w.heap.size + 1 + 1, J, none⟩ = some (.int .u64 (uI (outF s l3 (x, y, z) I J))) := by rw [Bx.cell, eX]
   have HS := Lib.hid hst
   have HBX := Lib.hid (And.intro Bx hgx)
   clear hst Bx hgx HM eX
   obtain ⟨k, hk⟩ : ∃ k, k = 8 * y + x := ⟨_, rfl⟩
   by_cases hk0 : 0 ≤ k
   ·obtain ⟨n, hn⟩ : ∃ n : Nat, k = n := ⟨k.toNat, by omega⟩
    have hn64 : n < 64 := by omega
    have hdk : decide (0 ≤ 8 * y + x) = true := decide_eq_true (by omega)
    have hk2 : 8 * y + x = (n : Int) := by omega
    rw [hk2, shl_pos] at HS
    have esh : IntKind.u64.wrap (uI (plv s I) * 2 ^ n) = uI (plv s I <<< n) := by have := shl_u (plv s I) n; rwa [Int.natCast_pow] at this
    clear hk
    go_wp2_with fail
    go_roundw
    case rel =>
     refine ⟨(I : Int) + 1, by omega, by omega, rfl, Lib.hid ⟨?_, gb_set HBX.out.2 _ rfl _⟩⟩
     rw [← HS.out]
     exact HBX.out.1.set J _
    case measure => simp [intOf]; omega
   ·obtain ⟨n, hn⟩ : ∃ n : Nat, k = -(n : Int) := ⟨(-k).toNat, by omega⟩
    have hn64 : n < 64 := by omega
    have hn0 : 0 < n := by omega
    have hdk : decide (0 ≤ 8 * y + x) = false := decide_eq_false (by omega)
    have hk2 : 8 * y + x = -(n : Int) := by omega
    rw [hk2, shr_neg _ hn0] at HS
    have esh : uI (plv s I) / 2 ^ n = uI (plv s I >>> n) := by have := shr_u (plv s I) n; rwa [Int.natCast_pow] at this
    clear hk
    go_wp2_with fail
    go_roundw
    case rel =>
     refine ⟨(I : Int) + 1, by omega, by omega, rfl, Lib.hid ⟨?_, gb_set HBX.out.2 _ rfl _⟩⟩
     rw [← HS.out]
     exact HBX.out.1.set J _
    case measure => simp [intOf]; omega
  ·obtain rfl : i = h3 + 1 := by omega
   have hd : decide (h3 + 1 ≤ h3) = false := decide_eq_false (by omega)
   have Bx := HM.out.1
   rw [HE.out] at Bx
   have cX := Bx.cell; have lX := Bx.lt
   have B1 := HB.out.2.1.gb HM.out.2 (by simp)
   have r1 := B1.row; have l1' := B1.lt
   have cF := (B1.rowS #[.int .u64 (pl Y 0), .int .u64 (pl Y 1), .int .u64 (pl Y 2), .int .u64 (pl Y 3), .int .u64 (pl Y 4), .int .u64 (pl Y 5), .int .u64 (pl Y 6), .int .u64 (pl Y 7)]).cell
   have hb := bel_row (gb_bel HB.out.2.2.2 HM.out.2 (by omega)) (g := w.heap.size + 1) (by omega) #[.int .u64 (pl Y 0), .int .u64 (pl Y 1), .int .u64 (pl Y 2), .int .u64 (pl Y 3), .int .u64 (pl Y 4), .int .u64 (pl Y 5), .int .u64 (pl Y 6), .int .u64 (pl Y 7)]
   rw [← B1.rw]
   clear B1 Bx HM
   go_wp2_with fail
   exact bodyPost_ret (v := solV Y) (by simp [results, Tryz.results156, go_sem, cF]) rfl ⟨rfl, hb⟩
end Go.Proofs.YtkfimbonmnoglaaGreatDoor
end
section
namespace Go.Proofs.YtkfimbonmnoglaaGreatDoor
open Go.RowKit Go.Rel Go.Draw Go.Solid
set_option maxRecDepth 100000
set_option maxHeartbeats 4000000 in
theorem cornered_zero (s : Sol) (hs : s = 0) (w : World) : Calls Tryz.prog 141 #[solV s] w fun e w' => e = .returned (solV s) ∧ Below w.heap.size w w' := by
 have HB := Lib.hid fun W => bounds_zero hs W
 clear hs
 go_enter Tryz.func141, Tryz.ntmps141
 go_wp2_with fail
 refine (HB.out _).mono ?_
 rintro e w1 ⟨rfl, hb1⟩
 have hbw : Below w.heap.size w w1 := bel_trans (by repeat (first | with_reducible exact bel_refl _ | with_reducible assumption | with_reducible refine bel_drewN ?_ _ | with_reducible refine bel_drew ?_ | with_reducible refine bel_alloc ?_ _ | with_reducible refine bel_row ?_ ?_ _ | with_reducible refine bel_set ?_ ?_ _ | refine bel_trans ?_ (by with_reducible assumption) | (simp; done) | (simp; omega))) hb1
 have B0 : Blk w1 w.heap.size #[.int .u64 (pl s 0), .int .u64 (pl s 1), .int .u64 (pl s 2), .int .u64 (pl s 3), .int .u64 (pl s 4), .int .u64 (pl s 5), .int .u64 (pl s 6), .int .u64 (pl s 7)] 26 := Blk.grow (by repeat (first | with_reducible assumption | (refine Blk.at _ _ ?_; (simp; done)) | with_reducible refine Blk.alloc ?_ _ | with_reducible refine Blk.drew ?_ | with_reducible refine Blk.rowS ?_ _ | with_reducible refine Blk.rowO ?_ _ (by simp))) hb1
 have B1 : Blk w1 (w.heap.size + 1) #[.int .u64 0, .int .u64 0, .int .u64 0, .int .u64 0, .int .u64 0, .int .u64 0, .int .u64 0, .int .u64 0] 26 := Blk.grow (by repeat (first | with_reducible assumption | (refine Blk.at _ _ ?_; (simp; done)) | with_reducible refine Blk.alloc ?_ _ | with_reducible refine Blk.drew ?_ | with_reducible refine Blk.rowS ?_ _ | with_reducible refine Blk.rowO ?_ _ (by simp))) hb1
 obtain ⟨w2, hw2⟩ : ∃ w2, w2 = w1.alloc (.cells #[.int .i64 0, .int .i64 0, .int .i64 0, .int .i64 0, .int .i64 0, .int .i64 0] 62) := ⟨_, rfl⟩
 have C0 : Blk w2 w.heap.size #[.int .u64 (pl s 0), .int .u64 (pl s 1), .int .u64 (pl s 2), .int .u64 (pl s 3), .int .u64 (pl s 4), .int .u64 (pl s 5), .int .u64 (pl s 6), .int .u64 (pl s 7)] 26 := by rw [hw2]; exact B0.alloc _
 have C1 := B1.alloc (.cells #[.int .i64 0, .int .i64 0, .int .i64 0, .int .i64 0, .int .i64 0, .int .i64 0] 62)
 rw [← hw2] at C1
 have hbw2 : Below w.heap.size w w2 := by rw [hw2]; exact bel_alloc hbw _
 have c0 := C0.cell; have l0 := C0.lt
 have r1 := C1.row; have l1 := C1.lt
 have cF := (C1.rowS #[.int .u64 (pl s 0), .int .u64 (pl s 1), .int .u64 (pl s 2), .int .u64 (pl s 3), .int .u64 (pl s 4), .int .u64 (pl s 5), .int .u64 (pl s 6), .int .u64 (pl s 7)]).cell
 have d0 := (C0.rowO (g := w.heap.size + 1) #[.int .u64 0, .int .u64 0, .int .u64 0, .int .u64 0, .int .u64 0, .int .u64 0, .int .u64 0, .int .u64 0] (by omega)).cell
 have hb5 := bel_row hbw2 (g := w.heap.size + 1) (by omega) #[.int .u64 (pl s 0), .int .u64 (pl s 1), .int .u64 (pl s 2), .int .u64 (pl s 3), .int .u64 (pl s 4), .int .u64 (pl s 5), .int .u64 (pl s 6), .int .u64 (pl s 7)]
 have HC := Lib.hid (And.intro C1 hw2)
 clear B0 B1 hb1 hbw C0 C1 hbw2 hw2
 go_upto_region 2 with fail
 rw [show w1.alloc (.cells #[.int .i64 0, .int .i64 0, .int .i64 0, .int .i64 0, .int .i64 0, .int .i64 0] 62) = w2 from HC.out.2.symm]
 rw [← HC.out.1.rw]
 go_wp2_with fail
 exact bodyPost_ret (v := solV s) (by simp [results, Tryz.results141, go_sem, cF]) rfl ⟨rfl, hb5⟩
set_option maxHeartbeats 4000000 in
theorem cornered_some (s : Sol) (hs : s ≠ 0) (w : World) (hT : Tab w) : Calls Tryz.prog 141 #[solV s] w fun e w' => e = .returned (solV (cornS s)) ∧ Below w.heap.size w w' := by
 have hlo := co_in (loS_in hs); have hhi := co_in (hiS_in hs)
 have hle : (loS s).2.2 ≤ (hiS s).2.2 := by
  obtain ⟨c, hc⟩ := has_some hs
  have h1 : (loS s).2.2 ≤ c.2.2 := loS_le hc 2
  have h2 : c.2.2 ≤ (hiS s).2.2 := le_hiS hc 2
  omega
 have hst := corn_stays hs
 have hL := lift_img hst
 rw [show imgS (movC (negC (loS s))) s = cornS s by unfold cornS; rw [if_neg hs]] at hL
 obtain ⟨Y, hY⟩ : ∃ Y, Y = cornS s := ⟨_, rfl⟩
 rw [← hY] at hL ⊢
 have HB := Lib.hid fun W (h : Tab W) => bounds_some hs W h
 have hx : 0 ≤ (loS s).1 ∧ (loS s).1 ≤ 7 := hlo 0
 have hy : 0 ≤ (loS s).2.1 ∧ (loS s).2.1 ≤ 7 := hlo 1
 have hz : 0 ≤ (loS s).2.2 ∧ (loS s).2.2 ≤ 7 := hlo 2
 have hh : 0 ≤ (hiS s).2.2 ∧ (hiS s).2.2 ≤ 7 := hhi 2
 obtain ⟨l, hl⟩ : ∃ l, l = loS s := ⟨_, rfl⟩
 obtain ⟨h, hh'⟩ : ∃ l, l = hiS s := ⟨_, rfl⟩
 rw [← hl] at hx hy hz hle hL
 rw [← hh'] at hh hle hL
 rw [← hl, ← hh'] at HB
 have HT := Lib.hid hT
 clear hlo hhi hl hh' hst hY hs hT
 obtain ⟨l1, l2, l3⟩ := l
 obtain ⟨h1, h2, h3⟩ := h
 simp only at hx hy hz hh hle
 have HL := Lib.hid fun W => lifted_spec s (l1, l2, l3) (h1, h2, h3) (-l1) (-l2) (-l3) (by omega) (by omega) hz.1 hle hh.2 (by simp only; omega) (by simp only; omega) W
 rw [show ((-l1, -l2, -l3) : Cl) = negC (l1, l2, l3) from rfl, hL] at HL
 clear hL
 go_enter Tryz.func141, Tryz.ntmps141
 go_wp2_with fail
 refine (HB.out _ (HT.out.grow (by repeat (first | with_reducible exact bel_refl _ | with_reducible assumption | with_reducible refine bel_drewN ?_ _ | with_reducible refine bel_drew ?_ | with_reducible refine bel_alloc ?_ _ | with_reducible refine bel_row ?_ ?_ _ | with_reducible refine bel_set ?_ ?_ _ | refine bel_trans ?_ (by with_reducible assumption) | (simp; done) | (simp; omega))))).mono ?_
 rintro e w1 ⟨rfl, hb1⟩
 have hbw : Below w.heap.size w w1 := bel_trans (by repeat (first | with_reducible exact bel_refl _ | with_reducible assumption | with_reducible refine bel_drewN ?_ _ | with_reducible refine bel_drew ?_ | with_reducible refine bel_alloc ?_ _ | with_reducible refine bel_row ?_ ?_ _ | with_reducible refine bel_set ?_ ?_ _ | refine bel_trans ?_ (by with_reducible assumption) | (simp; done) | (simp; omega))) hb1
 have B0 : Blk w1 w.heap.size #[.int .u64 (pl s 0), .int .u64 (pl s 1), .int .u64 (pl s 2), .int .u64 (pl s 3), .int .u64 (pl s 4), .int .u64 (pl s 5), .int .u64 (pl s 6), .int .u64 (pl s 7)] 26 := Blk.grow (by repeat (first | with_reducible assumption | (refine Blk.at _ _ ?_; (simp; done)) | with_reducible refine Blk.alloc ?_ _ | with_reducible refine Blk.drew ?_ | with_reducible refine Blk.rowS ?_ _ | with_reducible refine Blk.rowO ?_ _ (by simp))) hb1
 have B1 : Blk w1 (w.heap.size + 1) #[.int .u64 0, .int .u64 0, .int .u64 0, .int .u64 0, .int .u64 0, .int .u64 0, .int .u64 0, .int .u64 0] 26 := Blk.grow (by repeat (first | with_reducible assumption | (refine Blk.at _ _ ?_; (simp; done)) | with_reducible refine Blk.alloc ?_ _ | with_reducible refine Blk.drew ?_ | with_reducible refine Blk.rowS ?_ _ | with_reducible refine Blk.rowO ?_ _ (by simp))) hb1
 have c0 := B0.cell; have l0 := B0.lt
 have HZ := Lib.hid (And.intro hbw B1)
 clear B0 B1 hb1 hbw
 go_wp2_with fail
 refine (HL.out _).mono ?_
 rintro e w2 ⟨rfl, hb2⟩
 have hbw : Below w.heap.size w w2 := bel_trans (bel_trans HZ.out.1 (by repeat (first | with_reducible exact bel_refl _ | with_reducible assumption | with_reducible refine bel_drewN ?_ _ | with_reducible refine bel_drew ?_ | with_reducible refine bel_alloc ?_ _ | with_reducible refine bel_row ?_ ?_ _ | with_reducible refine bel_set ?_ ?_ _ | refine bel_trans ?_ (by with_reducible assumption) | (simp; done) | (simp; omega)))) hb2
 have B1 : Blk w2 (w.heap.size + 1) #[.int .u64 0, .int .u64 0, .int .u64 0, .int .u64 0, .int .u64 0, .int .u64 0, .int .u64 0, .int .u64 0] 26 := Blk.grow (HZ.out.2.alloc _) hb2
 have r1 := B1.row; have l1 := B1.lt
 have cF := (B1.rowS #[.int .u64 (pl Y 0), .int .u64 (pl Y 1), .int .u64 (pl Y 2), .int .u64 (pl Y 3), .int .u64 (pl Y 4), .int .u64 (pl Y 5), .int .u64 (pl Y 6), .int .u64 (pl Y 7)]).cell
 have hb5 := bel_row hbw (g := w.heap.size + 1) (by omega) #[.int .u64 (pl Y 0), .int .u64 (pl Y 1), .int .u64 (pl Y 2), .int .u64 (pl Y 3), .int .u64 (pl Y 4), .int .u64 (pl Y 5), .int .u64 (pl Y 6), .int .u64 (pl Y 7)]
 rw [← B1.rw]
 clear B1 hb2 hbw c0 l0
 go_wp2_with fail
 exact bodyPost_ret (v := solV Y) (by simp [results, Tryz.results141, go_sem, cF]) rfl ⟨rfl, hb5⟩
theorem cornered_spec (s : Sol) (w : World) (hT : Tab w) : Calls Tryz.prog 141 #[solV s] w fun e w' => e = .returned (solV (cornS s)) ∧ Below w.heap.size w w' := by
 by_cases hs : s = 0
 ·have := cornered_zero s hs w
  rw [show cornS s = s by unfold cornS; rw [if_pos hs, hs]]
  exact this
 ·exact cornered_some s hs w hT
end Go.Proofs.YtkfimbonmnoglaaGreatDoor
end
section
namespace Go.Proofs.YtkfimbonmnoglaaGreatDoor
open Go.RowKit Go.Rel Go.Draw Go.Solid
set_option maxRecDepth 100000
def cmpW (a b : Int) : Int := if a < b then -1 else if b < a then 1 else 0
set_option maxHeartbeats 4000000 in
theorem nan_u (x : Int) (w : World) : Calls Tryz.prog 173 #[.int .u64 x] w fun e w' => e = .returned (.bool false) ∧ w' = w := by
 go_enter Tryz.func173, Tryz.ntmps173
 go_wp2_with fail
 go_ret
 exact ⟨ret_bool (by simp), rfl⟩
set_option maxHeartbeats 4000000 in
theorem cmp_u (a b : Int) (w : World) : Calls Tryz.prog 159 #[.int .u64 a, .int .u64 b] w fun e w' => e = .returned (.int .i64 (cmpW a b)) ∧ w' = w := by
 have HA := Lib.hid (nan_u a w)
 have HB := Lib.hid (nan_u b w)
 obtain ⟨c, hc⟩ : ∃ c, c = cmpW a b := ⟨_, rfl⟩
 rw [← hc]
 have HC := Lib.hid hc; clear hc
 go_enter Tryz.func159, Tryz.ntmps159
 go_wp2_with fail
 refine HA.out.mono ?_
 rintro e w2 ⟨rfl, hw2⟩
 have hw3 := hw2.symm
 subst hw3
 clear hw2
 go_wp2_with fail
 refine HB.out.mono ?_
 rintro e w2 ⟨rfl, hw2⟩
 have hw3 := hw2.symm
 subst hw3
 clear hw2
 by_cases h1 : a < b
 ·go_wp2_with fail
  go_ret
  exact ⟨ret_int (by rw [HC.out]; unfold cmpW; rw [if_pos h1]), rfl⟩
 ·have h2 : ¬ (a < b) := h1
  by_cases h3 : b < a
  ·go_wp2_with fail
   go_ret
   exact ⟨ret_int (by rw [HC.out]; unfold cmpW; rw [if_neg (by omega), if_pos (by omega)]), rfl⟩
  ·go_wp2_with fail
   go_ret
   exact ⟨ret_int (by rw [HC.out]; unfold cmpW; rw [if_neg (by omega), if_neg (by omega)]), rfl⟩
def cmpF (a b : Sol) : Nat → Int
 | 0 => 0
 | n + 1 => if cmpW (pl a (7 - n)) (pl b (7 - n)) = 0 then cmpF a b n else cmpW (pl a (7 - n)) (pl b (7 - n))
def cmpS (a b : Sol) : Int := if rank a < rank b then -1 else if rank b < rank a then 1 else 0
theorem cmpW_n (a b : Nat) : cmpW (a : Int) (b : Int) = if a < b then -1 else if b < a then 1 else 0 := by
 unfold cmpW
 by_cases h1 : a < b
 ·rw [if_pos h1, if_pos (by omega)]
 ·rw [if_neg h1, if_neg (by omega)]
  by_cases h2 : b < a
  ·rw [if_pos h2, if_pos (by omega)]
  ·rw [if_neg h2, if_neg (by omega)]
theorem cmpF_all (a b : Sol) : cmpF a b 8 = cmpS a b := by
 unfold cmpS
 rw [← cmpS_rank]
 have hp : ∀ (s : Sol) k, pl s k = ((plv s k).toNat : Int) := fun s k => by rw [pl_uI]; unfold uI; rfl
 have st : ∀ (x y : Nat) (l m : List Nat) (r : Int), r = Go.Solid.cmpN l m → (if cmpW (x : Int) (y : Int) = 0 then r else cmpW (x : Int) (y : Int)) = Go.Solid.cmpN (x :: l) (y :: m) := by
  intro x y l m r hr
  rw [cmpW_n, Go.Solid.cmpN, hr]
  by_cases h1 : x < y
  ·rw [if_pos h1, if_pos h1]; simp
  ·rw [if_neg h1, if_neg h1]
   by_cases h2 : y < x
   ·rw [if_pos h2, if_pos h2]; simp
   ·rw [if_neg h2, if_neg h2]; simp
 show cmpF a b 8 = Go.Solid.cmpN (digs a) (digs b)
 unfold digs
 simp only [cmpF, hp]
 exact st _ _ _ _ _ (st _ _ _ _ _ (st _ _ _ _ _ (st _ _ _ _ _ (st _ _ _ _ _ (st _ _ _ _ _ (st _ _ _ _ _ (st _ _ _ _ _ rfl)))))))
set_option maxHeartbeats 4000000 in
theorem cmpU_spec {w : World} {b1 b2 : Nat} {a b : Sol} {ta tb : TypeId} (ha : Blk w b1 #[.int .u64 (pl a 0), .int .u64 (pl a 1), .int .u64 (pl a 2), .int .u64 (pl a 3), .int .u64 (pl a 4), .int .u64 (pl a 5), .int .u64 (pl a 6), .int .u64 (pl a 7)] ta) (hb : Blk w b2 #[.int .u64 (pl b 0), .int .u64 (pl b 1), .int .u64 (pl b 2), .int .u64 (pl b 3), .int .u64 (pl b 4), .int .u64 (pl b 5), .int .u64 (pl b 6), .int .u64 (pl b 7)] tb) : Calls Tryz.prog 142 #[.slice (some ⟨b1, 0, none⟩) 8 8, .slice (some ⟨b2, 0, none⟩) 8 8] w fun e w' => e = .returned (.int .i64 (cmpS a b)) ∧ w' = w := by
 have HB := Lib.hid (And.intro ha hb)
 have HA := Lib.hid (cmpF_all a b)
 obtain ⟨R, hR⟩ : ∃ R, R = cmpS a b := ⟨_, rfl⟩
 rw [← hR] at HA ⊢
 have l1 := ha.lt; have l2 := hb.lt
 clear ha hb hR
 go_enter Tryz.func142, Tryz.ntmps142
 go_wp2_with fail
 go_loopw [11] (fun iv wx => ∃ (k : Nat), k ≤ 8 ∧ iv = .int .i64 k ∧ Hid (R = cmpF a b (8 - k)) ∧ wx = w) (fun iv _ => 8 - (intOf iv).toNat)
 case atStart => exact ⟨0, Nat.zero_le _, rfl, Lib.hid HA.out.symm, rfl⟩
 case round =>
  obtain ⟨k, hk, rfl, HI, hwr⟩ := hrel
  subst hwr
  by_cases hlt : k < 8
  ·have c1 : wr.cell? ⟨b1, k, none⟩ = some (.int .u64 (pl a k)) := by rw [HB.out.1.cell]; exact getZ a hlt
   have c2 : wr.cell? ⟨b2, k, none⟩ = some (.int .u64 (pl b k)) := by rw [HB.out.2.cell]; exact getZ b hlt
   have HC := Lib.hid (cmp_u (pl a k) (pl b k) wr)
   have he : cmpF a b (8 - k) = if cmpW (pl a k) (pl b k) = 0 then cmpF a b (8 - (k + 1)) else cmpW (pl a k) (pl b k) := by
    rw [show 8 - k = (7 - k) + 1 by omega]
    show (if cmpW (pl a (7 - (7 - k))) (pl b (7 - (7 - k))) = 0 then cmpF a b (7 - k) else cmpW (pl a (7 - (7 - k))) (pl b (7 - (7 - k)))) = _
    rw [show 7 - (7 - k) = k by omega, show 8 - (k + 1) = 7 - k by omega]
   obtain ⟨c, hc⟩ : ∃ c, c = cmpW (pl a k) (pl b k) := ⟨_, rfl⟩
   rw [← hc] at HC he
   have HE := Lib.hid he
   have hk8 : (k : Int) < 8 := by omega
   clear he hc
   go_wp2_with fail
   refine HC.out.mono ?_
   rintro e w2 ⟨rfl, hw2⟩
   have hw3 := hw2.symm
   subst hw3
   clear hw2
   by_cases h3 : c = 0
   ·subst h3
    go_wp2_with fail
    refine ⟨⟨k + 1, by omega, by simp, Lib.hid ?_, trivial⟩, by simp [intOf]; omega⟩
    rw [HI.out, HE.out]; simp
   ·go_wp2_with fail
    go_ret
    refine ⟨ret_int ?_, rfl⟩
    rw [HI.out, HE.out, if_neg h3]
  ·obtain rfl : k = 8 := by omega
   go_wp2_with fail
   go_ret
   exact ⟨ret_int (by rw [HI.out]; rfl), rfl⟩
set_option maxHeartbeats 4000000 in
theorem less_cmp (a b : Sol) (w : World) : Calls Tryz.prog 102 #[solV a, solV b] w fun e w' => e = .returned (.int .i64 (cmpS a b)) ∧ Below w.heap.size w w' := by
 obtain ⟨R, hR⟩ : ∃ R, R = cmpS a b := ⟨_, rfl⟩
 obtain ⟨W0, hW0⟩ : ∃ W0, W0 = (w.alloc (.cells #[.int .u64 (pl a 0), .int .u64 (pl a 1), .int .u64 (pl a 2), .int .u64 (pl a 3), .int .u64 (pl a 4), .int .u64 (pl a 5), .int .u64 (pl a 6), .int .u64 (pl a 7)] 26)).alloc (.cells #[.int .u64 (pl b 0), .int .u64 (pl b 1), .int .u64 (pl b 2), .int .u64 (pl b 3), .int .u64 (pl b 4), .int .u64 (pl b 5), .int .u64 (pl b 6), .int .u64 (pl b 7)] 26) := ⟨_, rfl⟩
 have B0 : Blk W0 w.heap.size #[.int .u64 (pl a 0), .int .u64 (pl a 1), .int .u64 (pl a 2), .int .u64 (pl a 3), .int .u64 (pl a 4), .int .u64 (pl a 5), .int .u64 (pl a 6), .int .u64 (pl a 7)] 26 := by subst hW0; exact (by repeat (first | with_reducible assumption | (refine Blk.at _ _ ?_; (simp; done)) | with_reducible refine Blk.alloc ?_ _ | with_reducible refine Blk.drew ?_ | with_reducible refine Blk.rowS ?_ _ | with_reducible refine Blk.rowO ?_ _ (by simp)))
 have B1 : Blk W0 (w.heap.size + 1) #[.int .u64 (pl b 0), .int .u64 (pl b 1), .int .u64 (pl b 2), .int .u64 (pl b 3), .int .u64 (pl b 4), .int .u64 (pl b 5), .int .u64 (pl b 6), .int .u64 (pl b 7)] 26 := by subst hW0; exact Blk.at _ _ (by simp)
 have hbel : Below w.heap.size w W0 := by subst hW0; exact (by repeat (first | with_reducible exact bel_refl _ | with_reducible assumption | with_reducible refine bel_drewN ?_ _ | with_reducible refine bel_drew ?_ | with_reducible refine bel_alloc ?_ _ | with_reducible refine bel_row ?_ ?_ _ | with_reducible refine bel_set ?_ ?_ _ | refine bel_trans ?_ (by with_reducible assumption) | (simp; done) | (simp; omega)))
 have HC : Hid (∀ W, Below W0.heap.size W0 W → Calls Tryz.prog 142 #[.slice (some ⟨w.heap.size, 0, none⟩) 8 8, .slice (some ⟨w.heap.size + 1, 0, none⟩) 8 8] W fun e w' => e = .returned (.int .i64 R) ∧ w' = W) := Lib.hid fun W h => by rw [hR]; exact cmpU_spec (B0.grow h) (B1.grow h)
 have l0 := B0.lt; have l1 := B1.lt
 rw [← hR]
 have HW := Lib.hid hW0
 clear hR hW0 B0 B1
 go_enter Tryz.func102, Tryz.ntmps102
 go_wp2_with fail
 rw [← HW.out]
 refine wp_region_val Grows (fun _ _ _ => True) [Is (.slice (some ⟨w.heap.size, 0, none⟩) 8 8), Is (.slice (some ⟨w.heap.size + 1, 0, none⟩) 8 8), Is (.int .i64 R), Is (.int .i64 R)] (by kernel_rfl) (by kernel_rfl) rfl Grows.refl (fun _ _ _ => Grows.trans) (stable_mem ⟨fun _ _ _ h _ => h, fun _ _ _ h _ => h, fun _ _ _ h _ => h, fun _ _ _ h _ => h, trivial⟩) W0 (Below.drew (Below.refl _ _)) trivial ?_
 refine val_cons ?_ (fun v0 => ?_)
 ·intro L vs w1 hvs hat hb hI hF; try simp [factsI, Region.binds, Is] at hF
  have hc := (Grows.cells hb).1
  clear hI
  go_simp
  try simp [upd]
  try first | exact Grows.refl _ | exact trivial | exact ⟨Grows.refl _, trivial⟩
 refine val_cons ?_ (fun v1 => ?_)
 ·intro L vs w1 hvs hat hb hI hF; try simp [factsI, Region.binds, Is] at hF
  have hc := (Grows.cells hb).1
  clear hI
  go_simp
  try simp [upd]
  try first | exact Grows.refl _ | exact trivial | exact ⟨Grows.refl _, trivial⟩
 refine val_cons ?_ (fun v2 => ?_)
 ·intro L vs w1 hvs hat hb hI hF; try simp [factsI, Region.binds, Is] at hF
  have hb0 : Below W0.heap.size W0 w1 := hb
  go_simp
  refine (HC.out _ hb0).mono ?_
  rintro e w2 ⟨rfl, rfl⟩
  exact ⟨rfl, Below.refl _ _⟩
 refine val_cons ?_ (fun v3 => ?_)
 ·intro L vs w1 hvs hat hb hI hF; try simp [factsI, Region.binds, Is] at hF
  have hc := (Grows.cells hb).1
  clear hI
  go_simp
  try simp [upd]
  try first | exact Grows.refl _ | exact trivial | exact ⟨Grows.refl _, trivial⟩
 refine val_nil ?_
 intro vs w1 hvs hb hI hF
 simp [Is, Nat.forall_lt_succ_right] at hF
 simp only [Act.put, List.setIfInBounds_toArray, List.set_cons_succ, List.set_cons_zero, hF]
 clear hF
 have hb1 : Below w.heap.size w w1 := bel_trans hbel hb
 go_wp2_with fail
 go_ret
 exact ⟨rfl, hb1⟩
end Go.Proofs.YtkfimbonmnoglaaGreatDoor
end
