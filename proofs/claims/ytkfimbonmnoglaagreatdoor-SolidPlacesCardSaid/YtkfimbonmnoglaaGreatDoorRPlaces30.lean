import Derived.Test.YtkfimbonmnoglaaGreatDoorRPlaces29
import Derived.Deep.Cut
/-
  Given contracts of functions of the program, and laws for them, one behind the other.
-/
set_option linter.unusedVariables false
set_option linter.unusedSimpArgs false
set_option linter.unusedSectionVars false
section
namespace Go.Proofs.YtkfimbonmnoglaaGreatDoor
open Go.RowKit Go.Rel Go.Draw Go.Solid
set_option maxRecDepth 100000
theorem refShort_spec (n : Int) (w : World) : Calls Tryz.prog 132 #[.int .i64 n] w fun e w' => e = .returned (.bool (inB n (-7) 7)) ∧ w' = w := by
 obtain ⟨R, hR⟩ : ∃ R, R = inB n (-7) 7 := ⟨_, rfl⟩
 rw [← hR]
 have h : inB n (-7) 7 = (decide (-7 ≤ n) && decide (n ≤ 7)) := rfl
 rw [h] at hR
 clear h
 have HR := Lib.hid hR
 clear hR
 go_enter Tryz.func132, Tryz.ntmps132
 go_wp2_with fail
 all_goals (go_ret; exact ⟨ret_bool (by rw [HR.out]; first | (simp [*]; done) | (simp [*]; omega)), rfl⟩)
theorem w64 {n : Int} (h : -1000000 ≤ n ∧ n ≤ 1000000) : IntKind.i64.wrap n = n := IntWalk.i64_in _ ⟨by omega, by omega⟩
theorem refMoved_spec (c d : Cl) (h0 : -1000000 ≤ c.1 + d.1 ∧ c.1 + d.1 ≤ 1000000) (h1 : -1000000 ≤ c.2.1 + d.2.1 ∧ c.2.1 + d.2.1 ≤ 1000000) (h2 : -1000000 ≤ c.2.2 + d.2.2 ∧ c.2.2 + d.2.2 ≤ 1000000) (w : World) :
  Calls Tryz.prog 113 #[clV c, .int .i64 d.1, .int .i64 d.2.1, .int .i64 d.2.2] w fun e w' => e = .returned (clV (addC c d)) ∧ Below w.heap.size w w' := by
 have x0 := w64 h0; have x1 := w64 h1; have x2 := w64 h2
 clear h0 h1 h2
 have hd : addC c d = (c.1 + d.1, c.2.1 + d.2.1, c.2.2 + d.2.2) := rfl
 rw [hd]
 clear hd
 obtain ⟨x, y, z⟩ := c
 obtain ⟨a, b, e⟩ := d
 simp only at x0 x1 x2
 go_enter Tryz.func113, Tryz.ntmps113
 go_upto_region 1 with fail
 obtain ⟨W0, hW0⟩ : ∃ W0, W0 = (w.alloc (.cells #[.int .i64 x, .int .i64 y, .int .i64 z] 60)).alloc (.cells #[.int .i64 0, .int .i64 0, .int .i64 0] 60) := ⟨_, rfl⟩
 have b1 : Blk W0 w.heap.size #[.int .i64 x, .int .i64 y, .int .i64 z] 60 := by rw [hW0]; exact (by repeat (first | with_reducible assumption | (refine Blk.at _ _ ?_; (simp; done)) | with_reducible refine Blk.alloc ?_ _ | with_reducible refine Blk.drew ?_ | with_reducible refine Blk.rowS ?_ _ | with_reducible refine Blk.rowO ?_ _ (by simp)))
 have B1 : Blk W0 (w.heap.size + 1) #[.int .i64 0, .int .i64 0, .int .i64 0] 60 := by rw [hW0]; exact Blk.at _ _ (by simp)
 have hbw : Below w.heap.size w W0 := by rw [hW0]; exact (by repeat (first | with_reducible exact bel_refl _ | with_reducible assumption | with_reducible refine bel_drewN ?_ _ | with_reducible refine bel_drew ?_ | with_reducible refine bel_alloc ?_ _ | with_reducible refine bel_row ?_ ?_ _ | with_reducible refine bel_set ?_ ?_ _ | refine bel_trans ?_ (by with_reducible assumption) | (simp; done) | (simp; omega)))
 rw [← hW0]
 clear hW0
 have c0 := (b1.rowO (g := w.heap.size + 1) #[.int .i64 0, .int .i64 0, .int .i64 0] (by omega)).cell
 have l0 := b1.lt
 have r1 := B1.row; have l1 := B1.lt
 have cF := (B1.rowS #[.int .i64 (x + a), .int .i64 (y + b), .int .i64 (z + e)]).cell
 have hb5 := bel_row hbw (g := w.heap.size + 1) (by omega) #[.int .i64 (x + a), .int .i64 (y + b), .int .i64 (z + e)]
 have c00 := b1.cell
 rw [← B1.rw]
 clear B1 b1 hbw
 go_wp2_with fail
 exact bodyPost_ret (v := clV (x + a, y + b, z + e)) (by simp [results, Tryz.results113, go_sem, cF]) rfl ⟨rfl, hb5⟩
theorem refRoll0 (x y z : Int) (hx : -7 ≤ x ∧ x ≤ 14) (hy : -7 ≤ y ∧ y ≤ 14) (hz : -7 ≤ z ∧ z ≤ 14) (w : World) : Calls Tryz.prog 157 #[clV (x, y, z), .int .i64 0] w fun e w' => e = .returned (clV (x, y, z)) ∧ Below w.heap.size w w' := by
 have x0 : IntKind.i64.wrap (7 - x) = 7 - x := w64 ⟨by omega, by omega⟩
 have x1 : IntKind.i64.wrap (7 - y) = 7 - y := w64 ⟨by omega, by omega⟩
 have x2 : IntKind.i64.wrap (7 - z) = 7 - z := w64 ⟨by omega, by omega⟩
 clear hx hy hz
 go_enter Tryz.func157, Tryz.ntmps157
 go_upto_region 1 with fail
 obtain ⟨W0, hW0⟩ : ∃ W0, W0 = (w.alloc (.cells #[.int .i64 x, .int .i64 y, .int .i64 z] 60)).alloc (.cells #[.int .i64 0, .int .i64 0, .int .i64 0] 60) := ⟨_, rfl⟩
 have b1 : Blk W0 w.heap.size #[.int .i64 x, .int .i64 y, .int .i64 z] 60 := by rw [hW0]; exact (by repeat (first | with_reducible assumption | (refine Blk.at _ _ ?_; (simp; done)) | with_reducible refine Blk.alloc ?_ _ | with_reducible refine Blk.drew ?_ | with_reducible refine Blk.rowS ?_ _ | with_reducible refine Blk.rowO ?_ _ (by simp)))
 have B1 : Blk W0 (w.heap.size + 1) #[.int .i64 0, .int .i64 0, .int .i64 0] 60 := by rw [hW0]; exact Blk.at _ _ (by simp)
 have hbw : Below w.heap.size w W0 := by rw [hW0]; exact (by repeat (first | with_reducible exact bel_refl _ | with_reducible assumption | with_reducible refine bel_drewN ?_ _ | with_reducible refine bel_drew ?_ | with_reducible refine bel_alloc ?_ _ | with_reducible refine bel_row ?_ ?_ _ | with_reducible refine bel_set ?_ ?_ _ | refine bel_trans ?_ (by with_reducible assumption) | (simp; done) | (simp; omega)))
 rw [← hW0]
 clear hW0
 have c0 := (b1.rowO (g := w.heap.size + 1) #[.int .i64 0, .int .i64 0, .int .i64 0] (by omega)).cell
 have l0 := b1.lt
 have r1 := B1.row; have l1 := B1.lt
 have cF := (B1.rowS #[.int .i64 (x), .int .i64 (y), .int .i64 (z)]).cell
 have hb5 := bel_row hbw (g := w.heap.size + 1) (by omega) #[.int .i64 (x), .int .i64 (y), .int .i64 (z)]
 have c00 := b1.cell
 rw [← B1.rw]
 clear B1 b1 hbw
 go_wp2_with fail
 exact bodyPost_ret (v := clV (x, y, z)) (by simp [results, Tryz.results157, go_sem, cF]) rfl ⟨rfl, hb5⟩
theorem refRoll1 (x y z : Int) (hx : -7 ≤ x ∧ x ≤ 14) (hy : -7 ≤ y ∧ y ≤ 14) (hz : -7 ≤ z ∧ z ≤ 14) (w : World) : Calls Tryz.prog 157 #[clV (x, y, z), .int .i64 1] w fun e w' => e = .returned (clV (x, 7 - z, y)) ∧ Below w.heap.size w w' := by
 have x0 : IntKind.i64.wrap (7 - x) = 7 - x := w64 ⟨by omega, by omega⟩
 have x1 : IntKind.i64.wrap (7 - y) = 7 - y := w64 ⟨by omega, by omega⟩
 have x2 : IntKind.i64.wrap (7 - z) = 7 - z := w64 ⟨by omega, by omega⟩
 clear hx hy hz
 go_enter Tryz.func157, Tryz.ntmps157
 go_upto_region 1 with fail
 obtain ⟨W0, hW0⟩ : ∃ W0, W0 = (w.alloc (.cells #[.int .i64 x, .int .i64 y, .int .i64 z] 60)).alloc (.cells #[.int .i64 0, .int .i64 0, .int .i64 0] 60) := ⟨_, rfl⟩
 have b1 : Blk W0 w.heap.size #[.int .i64 x, .int .i64 y, .int .i64 z] 60 := by rw [hW0]; exact (by repeat (first | with_reducible assumption | (refine Blk.at _ _ ?_; (simp; done)) | with_reducible refine Blk.alloc ?_ _ | with_reducible refine Blk.drew ?_ | with_reducible refine Blk.rowS ?_ _ | with_reducible refine Blk.rowO ?_ _ (by simp)))
 have B1 : Blk W0 (w.heap.size + 1) #[.int .i64 0, .int .i64 0, .int .i64 0] 60 := by rw [hW0]; exact Blk.at _ _ (by simp)
 have hbw : Below w.heap.size w W0 := by rw [hW0]; exact (by repeat (first | with_reducible exact bel_refl _ | with_reducible assumption | with_reducible refine bel_drewN ?_ _ | with_reducible refine bel_drew ?_ | with_reducible refine bel_alloc ?_ _ | with_reducible refine bel_row ?_ ?_ _ | with_reducible refine bel_set ?_ ?_ _ | refine bel_trans ?_ (by with_reducible assumption) | (simp; done) | (simp; omega)))
 rw [← hW0]
 clear hW0
 have c0 := (b1.rowO (g := w.heap.size + 1) #[.int .i64 0, .int .i64 0, .int .i64 0] (by omega)).cell
 have l0 := b1.lt
 have r1 := B1.row; have l1 := B1.lt
 have cF := (B1.rowS #[.int .i64 (x), .int .i64 (7 - z), .int .i64 (y)]).cell
 have hb5 := bel_row hbw (g := w.heap.size + 1) (by omega) #[.int .i64 (x), .int .i64 (7 - z), .int .i64 (y)]
 have c00 := b1.cell
 rw [← B1.rw]
 clear B1 b1 hbw
 go_wp2_with fail
 exact bodyPost_ret (v := clV (x, 7 - z, y)) (by simp [results, Tryz.results157, go_sem, cF]) rfl ⟨rfl, hb5⟩
theorem refRoll2 (x y z : Int) (hx : -7 ≤ x ∧ x ≤ 14) (hy : -7 ≤ y ∧ y ≤ 14) (hz : -7 ≤ z ∧ z ≤ 14) (w : World) : Calls Tryz.prog 157 #[clV (x, y, z), .int .i64 2] w fun e w' => e = .returned (clV (x, 7 - y, 7 - z)) ∧ Below w.heap.size w w' := by
 have x0 : IntKind.i64.wrap (7 - x) = 7 - x := w64 ⟨by omega, by omega⟩
 have x1 : IntKind.i64.wrap (7 - y) = 7 - y := w64 ⟨by omega, by omega⟩
 have x2 : IntKind.i64.wrap (7 - z) = 7 - z := w64 ⟨by omega, by omega⟩
 clear hx hy hz
 go_enter Tryz.func157, Tryz.ntmps157
 go_upto_region 1 with fail
 obtain ⟨W0, hW0⟩ : ∃ W0, W0 = (w.alloc (.cells #[.int .i64 x, .int .i64 y, .int .i64 z] 60)).alloc (.cells #[.int .i64 0, .int .i64 0, .int .i64 0] 60) := ⟨_, rfl⟩
 have b1 : Blk W0 w.heap.size #[.int .i64 x, .int .i64 y, .int .i64 z] 60 := by rw [hW0]; exact (by repeat (first | with_reducible assumption | (refine Blk.at _ _ ?_; (simp; done)) | with_reducible refine Blk.alloc ?_ _ | with_reducible refine Blk.drew ?_ | with_reducible refine Blk.rowS ?_ _ | with_reducible refine Blk.rowO ?_ _ (by simp)))
 have B1 : Blk W0 (w.heap.size + 1) #[.int .i64 0, .int .i64 0, .int .i64 0] 60 := by rw [hW0]; exact Blk.at _ _ (by simp)
 have hbw : Below w.heap.size w W0 := by rw [hW0]; exact (by repeat (first | with_reducible exact bel_refl _ | with_reducible assumption | with_reducible refine bel_drewN ?_ _ | with_reducible refine bel_drew ?_ | with_reducible refine bel_alloc ?_ _ | with_reducible refine bel_row ?_ ?_ _ | with_reducible refine bel_set ?_ ?_ _ | refine bel_trans ?_ (by with_reducible assumption) | (simp; done) | (simp; omega)))
 rw [← hW0]
 clear hW0
 have c0 := (b1.rowO (g := w.heap.size + 1) #[.int .i64 0, .int .i64 0, .int .i64 0] (by omega)).cell
 have l0 := b1.lt
 have r1 := B1.row; have l1 := B1.lt
 have cF := (B1.rowS #[.int .i64 (x), .int .i64 (7 - y), .int .i64 (7 - z)]).cell
 have hb5 := bel_row hbw (g := w.heap.size + 1) (by omega) #[.int .i64 (x), .int .i64 (7 - y), .int .i64 (7 - z)]
 have c00 := b1.cell
 rw [← B1.rw]
 clear B1 b1 hbw
 go_wp2_with fail
 exact bodyPost_ret (v := clV (x, 7 - y, 7 - z)) (by simp [results, Tryz.results157, go_sem, cF]) rfl ⟨rfl, hb5⟩
theorem refRoll3 (x y z : Int) (hx : -7 ≤ x ∧ x ≤ 14) (hy : -7 ≤ y ∧ y ≤ 14) (hz : -7 ≤ z ∧ z ≤ 14) (w : World) : Calls Tryz.prog 157 #[clV (x, y, z), .int .i64 3] w fun e w' => e = .returned (clV (x, z, 7 - y)) ∧ Below w.heap.size w w' := by
 have x0 : IntKind.i64.wrap (7 - x) = 7 - x := w64 ⟨by omega, by omega⟩
 have x1 : IntKind.i64.wrap (7 - y) = 7 - y := w64 ⟨by omega, by omega⟩
 have x2 : IntKind.i64.wrap (7 - z) = 7 - z := w64 ⟨by omega, by omega⟩
 clear hx hy hz
 go_enter Tryz.func157, Tryz.ntmps157
 go_upto_region 1 with fail
 obtain ⟨W0, hW0⟩ : ∃ W0, W0 = (w.alloc (.cells #[.int .i64 x, .int .i64 y, .int .i64 z] 60)).alloc (.cells #[.int .i64 0, .int .i64 0, .int .i64 0] 60) := ⟨_, rfl⟩
 have b1 : Blk W0 w.heap.size #[.int .i64 x, .int .i64 y, .int .i64 z] 60 := by rw [hW0]; exact (by repeat (first | with_reducible assumption | (refine Blk.at _ _ ?_; (simp; done)) | with_reducible refine Blk.alloc ?_ _ | with_reducible refine Blk.drew ?_ | with_reducible refine Blk.rowS ?_ _ | with_reducible refine Blk.rowO ?_ _ (by simp)))
 have B1 : Blk W0 (w.heap.size + 1) #[.int .i64 0, .int .i64 0, .int .i64 0] 60 := by rw [hW0]; exact Blk.at _ _ (by simp)
 have hbw : Below w.heap.size w W0 := by rw [hW0]; exact (by repeat (first | with_reducible exact bel_refl _ | with_reducible assumption | with_reducible refine bel_drewN ?_ _ | with_reducible refine bel_drew ?_ | with_reducible refine bel_alloc ?_ _ | with_reducible refine bel_row ?_ ?_ _ | with_reducible refine bel_set ?_ ?_ _ | refine bel_trans ?_ (by with_reducible assumption) | (simp; done) | (simp; omega)))
 rw [← hW0]
 clear hW0
 have c0 := (b1.rowO (g := w.heap.size + 1) #[.int .i64 0, .int .i64 0, .int .i64 0] (by omega)).cell
 have l0 := b1.lt
 have r1 := B1.row; have l1 := B1.lt
 have cF := (B1.rowS #[.int .i64 (x), .int .i64 (z), .int .i64 (7 - y)]).cell
 have hb5 := bel_row hbw (g := w.heap.size + 1) (by omega) #[.int .i64 (x), .int .i64 (z), .int .i64 (7 - y)]
 have c00 := b1.cell
 rw [← B1.rw]
 clear B1 b1 hbw
 go_wp2_with fail
 exact bodyPost_ret (v := clV (x, z, 7 - y)) (by simp [results, Tryz.results157, go_sem, cF]) rfl ⟨rfl, hb5⟩
theorem refRoll4 (x y z : Int) (hx : -7 ≤ x ∧ x ≤ 14) (hy : -7 ≤ y ∧ y ≤ 14) (hz : -7 ≤ z ∧ z ≤ 14) (w : World) : Calls Tryz.prog 157 #[clV (x, y, z), .int .i64 4] w fun e w' => e = .returned (clV (z, y, 7 - x)) ∧ Below w.heap.size w w' := by
 have x0 : IntKind.i64.wrap (7 - x) = 7 - x := w64 ⟨by omega, by omega⟩
 have x1 : IntKind.i64.wrap (7 - y) = 7 - y := w64 ⟨by omega, by omega⟩
 have x2 : IntKind.i64.wrap (7 - z) = 7 - z := w64 ⟨by omega, by omega⟩
 clear hx hy hz
 go_enter Tryz.func157, Tryz.ntmps157
 go_upto_region 1 with fail
 obtain ⟨W0, hW0⟩ : ∃ W0, W0 = (w.alloc (.cells #[.int .i64 x, .int .i64 y, .int .i64 z] 60)).alloc (.cells #[.int .i64 0, .int .i64 0, .int .i64 0] 60) := ⟨_, rfl⟩
 have b1 : Blk W0 w.heap.size #[.int .i64 x, .int .i64 y, .int .i64 z] 60 := by rw [hW0]; exact (by repeat (first | with_reducible assumption | (refine Blk.at _ _ ?_; (simp; done)) | with_reducible refine Blk.alloc ?_ _ | with_reducible refine Blk.drew ?_ | with_reducible refine Blk.rowS ?_ _ | with_reducible refine Blk.rowO ?_ _ (by simp)))
 have B1 : Blk W0 (w.heap.size + 1) #[.int .i64 0, .int .i64 0, .int .i64 0] 60 := by rw [hW0]; exact Blk.at _ _ (by simp)
 have hbw : Below w.heap.size w W0 := by rw [hW0]; exact (by repeat (first | with_reducible exact bel_refl _ | with_reducible assumption | with_reducible refine bel_drewN ?_ _ | with_reducible refine bel_drew ?_ | with_reducible refine bel_alloc ?_ _ | with_reducible refine bel_row ?_ ?_ _ | with_reducible refine bel_set ?_ ?_ _ | refine bel_trans ?_ (by with_reducible assumption) | (simp; done) | (simp; omega)))
 rw [← hW0]
 clear hW0
 have c0 := (b1.rowO (g := w.heap.size + 1) #[.int .i64 0, .int .i64 0, .int .i64 0] (by omega)).cell
 have l0 := b1.lt
 have r1 := B1.row; have l1 := B1.lt
 have cF := (B1.rowS #[.int .i64 (z), .int .i64 (y), .int .i64 (7 - x)]).cell
 have hb5 := bel_row hbw (g := w.heap.size + 1) (by omega) #[.int .i64 (z), .int .i64 (y), .int .i64 (7 - x)]
 have c00 := b1.cell
 rw [← B1.rw]
 clear B1 b1 hbw
 go_wp2_with fail
 exact bodyPost_ret (v := clV (z, y, 7 - x)) (by simp [results, Tryz.results157, go_sem, cF]) rfl ⟨rfl, hb5⟩
theorem refRoll5 (x y z : Int) (hx : -7 ≤ x ∧ x ≤ 14) (hy : -7 ≤ y ∧ y ≤ 14) (hz : -7 ≤ z ∧ z ≤ 14) (w : World) : Calls Tryz.prog 157 #[clV (x, y, z), .int .i64 5] w fun e w' => e = .returned (clV (7 - z, y, x)) ∧ Below w.heap.size w w' := by
 have x0 : IntKind.i64.wrap (7 - x) = 7 - x := w64 ⟨by omega, by omega⟩
 have x1 : IntKind.i64.wrap (7 - y) = 7 - y := w64 ⟨by omega, by omega⟩
 have x2 : IntKind.i64.wrap (7 - z) = 7 - z := w64 ⟨by omega, by omega⟩
 clear hx hy hz
 go_enter Tryz.func157, Tryz.ntmps157
 go_upto_region 1 with fail
 obtain ⟨W0, hW0⟩ : ∃ W0, W0 = (w.alloc (.cells #[.int .i64 x, .int .i64 y, .int .i64 z] 60)).alloc (.cells #[.int .i64 0, .int .i64 0, .int .i64 0] 60) := ⟨_, rfl⟩
 have b1 : Blk W0 w.heap.size #[.int .i64 x, .int .i64 y, .int .i64 z] 60 := by rw [hW0]; exact (by repeat (first | with_reducible assumption | (refine Blk.at _ _ ?_; (simp; done)) | with_reducible refine Blk.alloc ?_ _ | with_reducible refine Blk.drew ?_ | with_reducible refine Blk.rowS ?_ _ | with_reducible refine Blk.rowO ?_ _ (by simp)))
 have B1 : Blk W0 (w.heap.size + 1) #[.int .i64 0, .int .i64 0, .int .i64 0] 60 := by rw [hW0]; exact Blk.at _ _ (by simp)
 have hbw : Below w.heap.size w W0 := by rw [hW0]; exact (by repeat (first | with_reducible exact bel_refl _ | with_reducible assumption | with_reducible refine bel_drewN ?_ _ | with_reducible refine bel_drew ?_ | with_reducible refine bel_alloc ?_ _ | with_reducible refine bel_row ?_ ?_ _ | with_reducible refine bel_set ?_ ?_ _ | refine bel_trans ?_ (by with_reducible assumption) | (simp; done) | (simp; omega)))
 rw [← hW0]
 clear hW0
 have c0 := (b1.rowO (g := w.heap.size + 1) #[.int .i64 0, .int .i64 0, .int .i64 0] (by omega)).cell
 have l0 := b1.lt
 have r1 := B1.row; have l1 := B1.lt
 have cF := (B1.rowS #[.int .i64 (7 - z), .int .i64 (y), .int .i64 (x)]).cell
 have hb5 := bel_row hbw (g := w.heap.size + 1) (by omega) #[.int .i64 (7 - z), .int .i64 (y), .int .i64 (x)]
 have c00 := b1.cell
 rw [← B1.rw]
 clear B1 b1 hbw
 go_wp2_with fail
 exact bodyPost_ret (v := clV (7 - z, y, x)) (by simp [results, Tryz.results157, go_sem, cF]) rfl ⟨rfl, hb5⟩
end Go.Proofs.YtkfimbonmnoglaaGreatDoor
end
section
namespace Go.Proofs.YtkfimbonmnoglaaGreatDoor
open Go.RowKit Go.Rel Go.Draw Go.Solid
set_option maxRecDepth 100000
def near14 (c : Cl) : Prop := (-7 ≤ c.1 ∧ c.1 ≤ 14) ∧ (-7 ≤ c.2.1 ∧ c.2.1 ≤ 14) ∧ (-7 ≤ c.2.2 ∧ c.2.2 ≤ 14)
theorem near14_roll (h : Nat) {c : Cl} (hc : near14 c) : near14 (rollC h c) := by
 obtain ⟨x, y, z⟩ := c
 unfold near14 at hc ⊢
 simp only at hc
 unfold rollC
 split <;> (simp only; omega)
theorem refRolled_spec (h : Nat) (hh : h < 6) (c : Cl) (hc : near14 c) (w : World) : Calls Tryz.prog 157 #[clV c, .int .i64 (h : Nat)] w fun e w' => e = .returned (clV (rollC h c)) ∧ Below w.heap.size w w' := by
 obtain ⟨x, y, z⟩ := c
 obtain ⟨h1, h2, h3⟩ := hc
 obtain rfl | rfl | rfl | rfl | rfl | rfl : h = 0 ∨ h = 1 ∨ h = 2 ∨ h = 3 ∨ h = 4 ∨ h = 5 := by omega
 ·exact refRoll0 x y z h1 h2 h3 w
 ·exact refRoll1 x y z h1 h2 h3 w
 ·exact refRoll2 x y z h1 h2 h3 w
 ·exact refRoll3 x y z h1 h2 h3 w
 ·exact refRoll4 x y z h1 h2 h3 w
 ·exact refRoll5 x y z h1 h2 h3 w
set_option maxHeartbeats 8000000 in
theorem refTurnedC_spec (t : Nat) (ht : t < 24) (c : Cl) (hc : near14 c) (w : World) : Calls Tryz.prog 130 #[clV c, .int .i64 (t : Nat)] w fun e w' => e = .returned (clV (turnC t c)) ∧ Below w.heap.size w w' := by
 obtain ⟨r, hr⟩ : ∃ r, r = t % 4 := ⟨_, rfl⟩
 have hm : (t : Int) % 4 = (r : Int) := by omega
 have ht1 : (0 : Int) ≤ (t : Int) := by omega
 obtain ⟨RV, hRV⟩ : ∃ RV : Cl, RV = turnC t c := ⟨_, rfl⟩
 rw [← hRV]
 have HR := Lib.hid fun W => refRolled_spec (t / 4) (by omega) c hc W
 have hG := near14_roll (t / 4) hc
 have hRV2 : RV = spinC r (rollC (t / 4) c) := by rw [hRV, hr]; rfl
 obtain ⟨h4, hh4⟩ : ∃ h4, h4 = t / 4 := ⟨_, rfl⟩
 have hq : (t : Int) / 4 = (h4 : Int) := by omega
 rw [← hh4] at HR hG hRV2
 have hw4 : wrap64 (h4 : Int) = (h4 : Int) := IntWalk.wrap64_in _ ⟨by omega, by omega⟩
 obtain ⟨o, ho⟩ : ∃ o, o = rollC h4 c := ⟨_, rfl⟩
 rw [← ho] at HR hG hRV2
 obtain ⟨p, q, s⟩ := o
 have HG := Lib.hid hG
 have HRV := Lib.hid hRV2
 obtain ⟨x, y, z⟩ := c
 clear hRV hRV2 hG ho hc hr ht hh4
 go_enter Tryz.func130, Tryz.ntmps130
 go_wp2_with fail
 refine (HR.out _).mono ?_
 rintro e w1 ⟨rfl, hb⟩
 have hb1 : Below _ _ w1 := hb
 have B0 : Blk w1 w.heap.size #[.int .i64 x, .int .i64 y, .int .i64 z] 60 := Blk.grow (by repeat (first | with_reducible assumption | (refine Blk.at _ _ ?_; (simp; done)) | with_reducible refine Blk.alloc ?_ _ | with_reducible refine Blk.drew ?_ | with_reducible refine Blk.rowS ?_ _ | with_reducible refine Blk.rowO ?_ _ (by simp))) hb1
 have B1 : Blk w1 (w.heap.size + 1) #[.int .i64 0, .int .i64 0, .int .i64 0] 60 := Blk.grow (by repeat (first | with_reducible assumption | (refine Blk.at _ _ ?_; (simp; done)) | with_reducible refine Blk.alloc ?_ _ | with_reducible refine Blk.drew ?_ | with_reducible refine Blk.rowS ?_ _ | with_reducible refine Blk.rowO ?_ _ (by simp))) hb1
 have hbw : Below w.heap.size w w1 := bel_trans (by repeat (first | with_reducible exact bel_refl _ | with_reducible assumption | with_reducible refine bel_drewN ?_ _ | with_reducible refine bel_drew ?_ | with_reducible refine bel_alloc ?_ _ | with_reducible refine bel_row ?_ ?_ _ | with_reducible refine bel_set ?_ ?_ _ | refine bel_trans ?_ (by with_reducible assumption) | (simp; done) | (simp; omega))) hb1
 have HB := Lib.hid (And.intro B1 (And.intro (B0.rowS #[.int .i64 p, .int .i64 q, .int .i64 s]) hbw))
 have l0 := B0.lt
 have r0 := B0.row
 rw [← B0.rw]
 clear B0 B1 hb hb1 hbw
 go_wp2_with fail
 obtain ⟨w3, hw3⟩ : ∃ x, w1.setRow w.heap.size #[.int .i64 p, .int .i64 q, .int .i64 s] = x := ⟨_, rfl⟩
 rw [hw3] at HB ⊢
 have hbw3 : Below w.heap.size w w3 := by rw [← hw3]; exact bel_row HB.out.2.2 (Nat.le_refl _) _
 have B13 : Blk w3 (w.heap.size + 1) #[.int .i64 0, .int .i64 0, .int .i64 0] 60 := by rw [← hw3]; exact (HB.out.1).rowO _ (by omega)
 have B03 := HB.out.2.1
 have HC := Lib.hid (And.intro hbw3 (And.intro B13 B03))
 clear hw3 r0 l0 hbw3 B13 B03
 have hm := Lib.hid hm
 go_loopw [5] (fun iv wx => ∃ (k : Nat) (c1 c2 c3 : Int), k ≤ r ∧ iv = .int .i64 k ∧ Hid (((-7 ≤ c1 ∧ c1 ≤ 14) ∧ (-7 ≤ c2 ∧ c2 ≤ 14) ∧ (-7 ≤ c3 ∧ c3 ≤ 14)) ∧ RV = spinC (r - k) (c1, c2, c3) ∧ Blk wx w.heap.size #[.int .i64 c1, .int .i64 c2, .int .i64 c3] 60 ∧ Blk wx (w.heap.size + 1) #[.int .i64 0, .int .i64 0, .int .i64 0] 60 ∧ Below w.heap.size w wx)) (fun iv _ => r - (intOf iv).toNat)
 case atStart => exact ⟨0, p, q, s, by omega, rfl, Lib.hid ⟨HG.out, HRV.out, HC.out.2.2, HC.out.2.1, HC.out.1⟩⟩
 case round =>
  clear hq
  obtain ⟨k, c1, c2, c3, hk, rfl, HI⟩ := hrel
  have B := HI.out.2.2.1
  have cB := B.cell; have lB := B.lt; have rB := B.row
  by_cases hlt : k < r
  ·have hd : decide ((k : Int) < (t : Int) % 4) = true := by rw [hm.out]; simp; omega
   have hc := HI.out.1
   have x1 : IntKind.i64.wrap (7 - c2) = 7 - c2 := w64 ⟨by omega, by omega⟩
   rw [← B.rw]
   clear B
   go_wp2_with fail
   go_roundw
   case rel =>
    refine ⟨k + 1, 7 - c2, c1, c3, by omega, by go_num, Lib.hid ⟨by omega, ?_, HI.out.2.2.1.rowS _, HI.out.2.2.2.1.rowO _ (by omega), bel_row HI.out.2.2.2.2 (Nat.le_refl _) _⟩⟩
    rw [HI.out.2.1, show r - k = (r - (k + 1)) + 1 by omega]; rfl
   case measure => simp [intOf]; omega
  ·obtain rfl : k = r := by omega
   have hd : decide ((k : Int) < (t : Int) % 4) = false := by rw [hm.out]; simp
   have B1 := HI.out.2.2.2.1
   have r1 := B1.row; have l1 := B1.lt
   have cF := (B1.rowS #[.int .i64 c1, .int .i64 c2, .int .i64 c3]).cell
   have hb := HI.out.2.2.2.2
   have hRV : RV = (c1, c2, c3) := by rw [HI.out.2.1, Nat.sub_self]; rfl
   have HV := Lib.hid hRV
   have cB2 := (B.rowO (g := w.heap.size + 1) #[.int .i64 0, .int .i64 0, .int .i64 0] (by omega)).cell
   clear hRV B
   rw [← B1.rw]
   clear B1
   go_wp2_with fail
   exact bodyPost_ret (v := clV (c1, c2, c3)) (by simp [results, Tryz.results130, go_sem, cF]) rfl ⟨by rw [HV.out], bel_row hb (by omega) _⟩
end Go.Proofs.YtkfimbonmnoglaaGreatDoor
end
section
namespace Go.Proofs.YtkfimbonmnoglaaGreatDoor
open Go.RowKit Go.Rel Go.Draw Go.Solid
set_option maxRecDepth 100000
/-- a list of cells in memory, opened -/
def ClO (base : Nat) (W : World) (a : Option Addr) (l : List Cl) : Prop := l = [] ∨ ∃ b off, a = some ⟨b, off, none⟩ ∧ Cells W b off 3 (l.map clL) ∧ base ≤ b
theorem Cells.rowC {W : World} {b off k : Nat} {xs : List (List Value)} (h : Cells W b off k xs) {g : Nat} (hne : b ≠ g) (cs : Array Value) : Cells (W.setRow g cs) b off k xs :=
 ⟨by rw [setRow_size]; exact h.1, fun i j u hu => (cell_row_other _ _ _ _ _ hne).trans (h.2 i j u hu)⟩
theorem ClO.mono {base : Nat} {W W' : World} {a : Option Addr} {l : List Cl} (h : ClO base W a l) (hb : Below W.heap.size W W') : ClO base W' a l := by
 rcases h with h | ⟨b, off, h1, h2, h3⟩
 ·exact .inl h
 ·exact .inr ⟨b, off, h1, h2.mono hb h2.1, h3⟩
theorem ClO.row {base : Nat} {W : World} {a : Option Addr} {l : List Cl} (h : ClO base W a l) {g : Nat} (hg : g < base) (cs : Array Value) : ClO base (W.setRow g cs) a l := by
 rcases h with h | ⟨b, off, h1, h2, h3⟩
 ·exact .inl h
 ·exact .inr ⟨b, off, h1, h2.rowC (by omega) cs, h3⟩
theorem ClO.at {base : Nat} {W : World} {a : Option Addr} {l : List Cl} (h : ClO base W a l) {k : Nat} {x : Cl} (hx : l[k]? = some x) : ∃ b off, a = some ⟨b, off, none⟩ ∧ Cells W b off 3 (l.map clL) ∧ base ≤ b := by
 rcases h with rfl | h
 ·cases hx
 ·exact h
theorem cl_cells {w : World} {b off : Nat} {l : List Cl} (h : Cells w b off 3 (l.map clL)) {k : Nat} {x : Cl} (hx : l[k]? = some x) :
  w.cell? ⟨b, off + k * 3, none⟩ = some (.int .i64 x.1) ∧ w.cell? ⟨b, off + k * 3 + 1, none⟩ = some (.int .i64 x.2.1) ∧ w.cell? ⟨b, off + k * 3 + 2, none⟩ = some (.int .i64 x.2.2) :=
 ⟨h.2 k 0 _ (by simp [hx]), h.2 k 1 _ (by simp [hx]), h.2 k 2 _ (by simp [hx])⟩
theorem OwnCl.opened {W : World} {base : Nat} {v : Value} {l : List Cl} (h : OwnCl W base v l) : ∃ a c, v = .slice a l.length c ∧ ClO base W a l := by
 obtain ⟨a, c, hv, _, _, hc⟩ := h.sl
 rw [List.length_map] at hv
 refine ⟨a, c, hv, ?_⟩
 rcases hc with hc | ⟨b, off, ha, hc⟩
 ·exact .inl (List.map_eq_nil_iff.1 hc)
 ·refine .inr ⟨b, off, ha, hc, (h.lt b ?_).1⟩
  rw [hv, ha]; rfl
theorem refCells_open (s : Sol) (w : World) : Calls Tryz.prog 83 #[solV s] w fun e w' => (∃ a c, e = .returned (.slice a (cellsS s).length c) ∧ ClO w.heap.size w' a (cellsS s)) ∧ Below w.heap.size w w' := (refCells_spec s w).mono fun e w' he => by
 obtain ⟨u, h1, h2, h3⟩ := he
 obtain ⟨a, c, hv, ho⟩ := OwnCl.opened h2
 exact ⟨⟨a, c, by rw [h1, hv], ho⟩, h3⟩
theorem refCount_spec (s : Sol) (w : World) : Calls Tryz.prog 69 #[solV s] w fun e w' => e = .returned (.int .i64 (countS s : Int)) ∧ Below w.heap.size w w' := by
 have HC := Lib.hid fun W => refCells_open s W
 have hc := countS_cells s
 obtain ⟨n, hn⟩ : ∃ n, n = (cellsS s).length := ⟨_, rfl⟩
 rw [← hn] at HC hc
 rw [hc]
 clear hc hn
 go_enter Tryz.func69, Tryz.ntmps69
 go_wp2_with fail
 refine (HC.out _).mono ?_
 rintro e w1 ⟨⟨a, c, rfl, _⟩, hb⟩
 have hb2 := Lib.hid (bel_trans ((by repeat (first | with_reducible exact bel_refl _ | with_reducible assumption | with_reducible refine bel_drewN ?_ _ | with_reducible refine bel_drew ?_ | with_reducible refine bel_alloc ?_ _ | with_reducible refine bel_row ?_ ?_ _ | with_reducible refine bel_set ?_ ?_ _ | refine bel_trans ?_ (by with_reducible assumption) | (simp; done) | (simp; omega))) : Below w.heap.size w (w.alloc (.cells #[.int .u64 (pl s 0), .int .u64 (pl s 1), .int .u64 (pl s 2), .int .u64 (pl s 3), .int .u64 (pl s 4), .int .u64 (pl s 5), .int .u64 (pl s 6), .int .u64 (pl s 7)] 26))) hb)
 clear hb
 go_wp2_with fail
 go_ret
 exact ⟨rfl, hb2.out⟩
/-- what some cells, mapped, make -/
def accP (f : Cl → Cl) (L : List Cl) (i : Nat) : Sol := (L.take i).foldl (fun a c => withS a (f c)) 0
theorem accP_step {f : Cl → Cl} {L : List Cl} {i : Nat} {c : Cl} (h : L[i]? = some c) : withS (accP f L i) (f c) = accP f L (i + 1) := by
 unfold accP
 rw [List.take_add_one, h, List.foldl_append]; rfl
theorem accP_end (f : Cl → Cl) (s : Sol) : accP f (cellsS s) (cellsS s).length = imgS f s := by
 unfold accP imgS orL orF
 rw [List.take_length, List.foldl_map]; rfl
theorem zero_sols : (#[.int .u64 (pl (0 : Sol) 0), .int .u64 (pl (0 : Sol) 1), .int .u64 (pl (0 : Sol) 2), .int .u64 (pl (0 : Sol) 3), .int .u64 (pl (0 : Sol) 4), .int .u64 (pl (0 : Sol) 5), .int .u64 (pl (0 : Sol) 6), .int .u64 (pl (0 : Sol) 7)] : Array Value) = #[.int .u64 0, .int .u64 0, .int .u64 0, .int .u64 0, .int .u64 0, .int .u64 0, .int .u64 0, .int .u64 0] := by
 have h : ∀ i, i < 8 → pl (0 : Sol) i = 0 := fun i hi => by
  obtain rfl | rfl | rfl | rfl | rfl | rfl | rfl | rfl : i = 0 ∨ i = 1 ∨ i = 2 ∨ i = 3 ∨ i = 4 ∨ i = 5 ∨ i = 6 ∨ i = 7 := by omega
  all_goals decide +kernel
 rw [h 0 (by decide), h 1 (by decide), h 2 (by decide), h 3 (by decide), h 4 (by decide), h 5 (by decide), h 6 (by decide), h 7 (by decide)]
theorem zero_solV : solV (0 : Sol) = .agg #[.int .u64 0, .int .u64 0, .int .u64 0, .int .u64 0, .int .u64 0, .int .u64 0, .int .u64 0, .int .u64 0] := congrArg Value.agg zero_sols
attribute [local irreducible] accP turnC
set_option maxHeartbeats 8000000 in
theorem refTurned_n (s : Sol) (tt : Int) (w : World) : Calls Tryz.prog 72 #[solV s, .int .i64 tt] w fun e w' => e = .returned (.tuple #[solV (turnedM s tt).1, .int .i64 (turnedM s tt).2]) ∧ Below w.heap.size w w' := by
 by_cases hin : inB tt 0 23 = true
 ·have ht := inB_iff.1 hin
  have hM : turnedM s tt = (spunS s tt.toNat, 0) := by unfold turnedM; rw [if_pos hin]
  rw [hM]
  clear hM hin
  obtain ⟨t, rfl⟩ : ∃ t : Nat, tt = t := ⟨tt.toNat, by omega⟩
  rw [show ((t : Int)).toNat = t by omega]
  have ht24 : t < 24 := by omega
  have HC := Lib.hid fun W => refCells_open s W
  have hE := accP_end (turnC t) s
  have hin7 : ∀ c ∈ cellsS s, inG c = true := fun c hc => has_in (mem_cellsS.1 hc)
  have hlen := cells512 s
  obtain ⟨L, hL⟩ : ∃ L, L = cellsS s := ⟨_, rfl⟩
  rw [← hL] at HC hE hin7 hlen
  clear hL
  obtain ⟨R, hR⟩ : ∃ R, R = spunS s t := ⟨_, rfl⟩
  have hE2 : accP (turnC t) L L.length = R := by rw [hE, hR]; rfl
  rw [← hR]
  clear hE hR
  obtain ⟨n, hn⟩ : ∃ n, n = L.length := ⟨_, rfl⟩
  rw [← hn] at HC hE2 hlen
  have h0 : accP (turnC t) L 0 = 0 := by unfold accP; rfl
  have hst : ∀ i c, L[i]? = some c → withS (accP (turnC t) L i) (turnC t c) = accP (turnC t) L (i + 1) := fun i c h => accP_step h
  obtain ⟨A, hA⟩ : ∃ A, A = accP (turnC t) L := ⟨_, rfl⟩
  rw [← hA] at hE2 h0 hst
  have H0 := Lib.hid h0
  have HE := Lib.hid hE2
  have HST := Lib.hid hst
  have HI := Lib.hid hin7
  have HN := Lib.hid hn
  clear hA h0 hE2 hst hin7 hn
  have hA1 : ¬ ((t : Int) < 0) := by omega
  have hA2 : ¬ (23 < (t : Int)) := by omega
  have HTu := Lib.hid fun c (hc : near14 c) W => refTurnedC_spec t ht24 c hc W
  clear ht ht24
  have HZ := Lib.hid zero_sols
  go_enter Tryz.func72, Tryz.ntmps72
  go_wp2_with fail
  obtain ⟨W0, hW0⟩ : ∃ W0, W0 = ((w.alloc (.cells #[.int .u64 (pl s 0), .int .u64 (pl s 1), .int .u64 (pl s 2), .int .u64 (pl s 3), .int .u64 (pl s 4), .int .u64 (pl s 5), .int .u64 (pl s 6), .int .u64 (pl s 7)] 26)).alloc (.cells #[.int .u64 0, .int .u64 0, .int .u64 0, .int .u64 0, .int .u64 0, .int .u64 0, .int .u64 0, .int .u64 0] 26)).alloc (.cells #[.int .u64 0, .int .u64 0, .int .u64 0, .int .u64 0, .int .u64 0, .int .u64 0, .int .u64 0, .int .u64 0] 26) := ⟨_, rfl⟩
  have b0 : Blk W0 (w.heap.size + 1) #[.int .u64 0, .int .u64 0, .int .u64 0, .int .u64 0, .int .u64 0, .int .u64 0, .int .u64 0, .int .u64 0] 26 ∧ Blk W0 (w.heap.size + 1 + 1) #[.int .u64 0, .int .u64 0, .int .u64 0, .int .u64 0, .int .u64 0, .int .u64 0, .int .u64 0, .int .u64 0] 26 ∧ Below w.heap.size w W0 ∧ W0.heap.size = w.heap.size + 1 + 1 + 1 := by
   rw [hW0]
   exact ⟨(by repeat (first | with_reducible assumption | (refine Blk.at _ _ ?_; (simp; done)) | with_reducible refine Blk.alloc ?_ _ | with_reducible refine Blk.drew ?_ | with_reducible refine Blk.rowS ?_ _ | with_reducible refine Blk.rowO ?_ _ (by simp))), Blk.at _ _ (by simp), (by repeat (first | with_reducible exact bel_refl _ | with_reducible assumption | with_reducible refine bel_drewN ?_ _ | with_reducible refine bel_drew ?_ | with_reducible refine bel_alloc ?_ _ | with_reducible refine bel_row ?_ ?_ _ | with_reducible refine bel_set ?_ ?_ _ | refine bel_trans ?_ (by with_reducible assumption) | (simp; done) | (simp; omega))), by simp⟩
  rw [← hW0]
  clear hW0
  have HB := Lib.hid b0
  clear b0
  refine (HC.out _).mono ?_
  rintro e w1 ⟨⟨a, c, rfl, hcl⟩, hb⟩
  have HB1 := Lib.hid (And.intro (by rw [H0.out, HZ.out]; exact HB.out.2.1.grow hb : Blk w1 (w.heap.size + 1 + 1) #[.int .u64 (pl (A 0) 0), .int .u64 (pl (A 0) 1), .int .u64 (pl (A 0) 2), .int .u64 (pl (A 0) 3), .int .u64 (pl (A 0) 4), .int .u64 (pl (A 0) 5), .int .u64 (pl (A 0) 6), .int .u64 (pl (A 0) 7)] 26) (And.intro (HB.out.1.grow hb) (And.intro (bel_trans HB.out.2.2.1 hb) hcl)))
  have HB0 := Lib.hid HB.out.2.2.2
  clear hb hcl HB
  obtain ⟨gr, hgr⟩ : ∃ g, g = w.heap.size + 1 := ⟨_, rfl⟩
  obtain ⟨ga, hga⟩ : ∃ g, g = w.heap.size + 1 + 1 := ⟨_, rfl⟩
  obtain ⟨N0, hN0⟩ : ∃ g, g = W0.heap.size := ⟨_, rfl⟩
  have hs0 := HB0.out
  rw [← hN0] at HB1 hs0
  rw [← hga, ← hgr] at HB1
  rw [← hga, ← hgr]
  have HO : Hid (gr = w.heap.size + 1 ∧ ga = w.heap.size + 1 + 1 ∧ N0 = w.heap.size + 1 + 1 + 1) := Lib.hid ⟨hgr, hga, hs0⟩
  clear hgr hga hN0 hs0 HB0
  go_wp2_with fail
  go_loopw [8] (fun iv wx => ∃ i : Nat, i ≤ n ∧ iv = .int .i64 i ∧ Hid (Blk wx ga #[.int .u64 (pl (A i) 0), .int .u64 (pl (A i) 1), .int .u64 (pl (A i) 2), .int .u64 (pl (A i) 3), .int .u64 (pl (A i) 4), .int .u64 (pl (A i) 5), .int .u64 (pl (A i) 6), .int .u64 (pl (A i) 7)] 26 ∧ Blk wx gr #[.int .u64 0, .int .u64 0, .int .u64 0, .int .u64 0, .int .u64 0, .int .u64 0, .int .u64 0, .int .u64 0] 26 ∧ Below w.heap.size w wx ∧ ClO N0 wx a L)) (fun iv _ => n - (intOf iv).toNat)
  case atStart => exact ⟨0, by omega, rfl, HB1⟩
  case round =>
   clear HB1
   obtain ⟨i, hi, rfl, HM⟩ := hrel
   by_cases hin : i < n
   ·have hx : ∃ x, L[i]? = some x := ⟨L[i]'(by rw [← HN.out]; exact hin), by simp [← HN.out, hin]⟩
    obtain ⟨x, hx⟩ := hx
    have h1 := HST.out i x hx
    have hxg := HI.out x (List.mem_of_getElem? hx)
    have hxt : inG (turnC t x) = true := by rw [Go.Solid.turn_in]; exact hxg
    have hxn : near14 x := by
     have := inG_iff.1 hxg
     unfold near14; omega
    obtain ⟨P, hP⟩ : ∃ P, P = A i := ⟨_, rfl⟩
    obtain ⟨Q, hQ⟩ : ∃ P, P = A (i + 1) := ⟨_, rfl⟩
    obtain ⟨y, hy⟩ : ∃ y, y = turnC t x := ⟨_, rfl⟩
    rw [← hP] at HM h1
    rw [← hQ, ← hy] at h1
    rw [← hy] at hxt
    have HT1 := Lib.hid fun W => HTu.out x hxn W
    have HW1 := Lib.hid fun W => refWith_spec P y hxt W
    rw [← hy] at HT1
    rw [h1] at HW1
    have HQ := Lib.hid hQ
    have HX := Lib.hid hx
    obtain ⟨b, off, rfl, hcs, hNb⟩ := HM.out.2.2.2.at hx
    have HCs := Lib.hid (And.intro hcs hNb)
    clear h1 hxg hxt hxn hP hQ hy hx hcs hNb
    obtain ⟨wR, hwR⟩ : ∃ x, x = wr := ⟨_, rfl⟩
    go_wp2_with fail
    rw [← hwR]
    rw [← hwR] at HM HCs
    clear hwR
    refine wp_region_grow 8 [Is (solV P), Is (.slice (some ⟨b, off, none⟩) n c), Is (.int .i64 (i : Nat)), Is (.pointer (some ⟨b, off + i * 3, none⟩)), Is (clV x), Is (.int .i64 (t : Nat)), Is (clV y), Is (solV Q)] (by kernel_rfl) (by kernel_rfl) rfl ⟨fun _ _ _ h _ => h, fun _ _ _ h _ => h, fun _ _ _ h _ => h, fun _ _ _ h _ => h, fun _ _ _ h _ => h, fun _ _ _ h _ => h, fun _ _ _ h _ => h, fun _ _ _ h _ => h, trivial⟩ ?_
    simp only [List.take_succ_cons, List.take_zero, List.drop_succ_cons, List.drop_zero]
    refine rel_cons ?_ (fun v0 => ?_)
    ·intro w1 hb hF; have hc := (Grows.cells hb).1; have hf := (Grows.cells hb).2; try simp [facts, Is] at hF
     have D := HM.out.1.grow (show Below _ _ _ from hb); have cD := D.cell; have lD := D.lt; clear D
     go_simp
     first | exact Grows.refl _ | exact ⟨Grows.refl _, trivial⟩
    iterate 3 (refine rel_cons ?_ (fun _ => ?_); · intro w1 hb hF; have hc := (Grows.cells hb).1; have hf := (Grows.cells hb).2; (try simp [facts, Is] at hF); go_simp; exact Grows.refl _)
    refine rel_cons ?_ (fun v4 => ?_)
    ·intro w1 hb hF; have hc := (Grows.cells hb).1; have hf := (Grows.cells hb).2; try simp [facts, Is] at hF
     have hCw := Cells.mono HCs.out.1 (show Below _ _ _ from hb) HCs.out.1.1
     obtain ⟨z0, z1, z2⟩ := cl_cells hCw HX.out
     have lz := hCw.1
     clear hCw
     go_simp
     first | exact Grows.refl _ | exact ⟨Grows.refl _, trivial⟩
    refine rel_cons ?_ (fun v5 => ?_)
    ·intro w1 hb hF; have hc := (Grows.cells hb).1; have hf := (Grows.cells hb).2; try simp [facts, Is] at hF
     go_simp
     exact Grows.refl _
    refine rel_cons ?_ (fun v6 => ?_)
    ·intro w1 hb hF; have hc := (Grows.cells hb).1; have hf := (Grows.cells hb).2; try simp [facts, Is] at hF
     go_simp
     refine (HT1.out _).mono ?_
     rintro e w2 ⟨rfl, hb2⟩
     first | exact ⟨rfl, hb2⟩ | exact ⟨_, rfl, hb2, trivial, rfl⟩
    refine rel_cons ?_ (fun v7 => ?_)
    ·intro w1 hb hF; have hc := (Grows.cells hb).1; have hf := (Grows.cells hb).2; try simp [facts, Is] at hF
     go_simp
     refine (HW1.out _).mono ?_
     rintro e w2 ⟨rfl, hb2⟩
     first | exact ⟨rfl, hb2⟩ | exact ⟨_, rfl, hb2, trivial, rfl⟩
    refine rel_nil ?_
    intro w1 hb hF
    simp [Is, Nat.forall_lt_succ_right] at hF
    simp only [Act.put, List.setIfInBounds_toArray, List.set_cons_succ, List.set_cons_zero, hF]
    clear hF
    have hbw : Below wR.heap.size wR w1 := hb
    have hM1 := HM.out.1.grow hbw
    have ho := HO.out
    have HE : Hid (Blk (w1.setRow ga #[.int .u64 (pl Q 0), .int .u64 (pl Q 1), .int .u64 (pl Q 2), .int .u64 (pl Q 3), .int .u64 (pl Q 4), .int .u64 (pl Q 5), .int .u64 (pl Q 6), .int .u64 (pl Q 7)]) ga #[.int .u64 (pl Q 0), .int .u64 (pl Q 1), .int .u64 (pl Q 2), .int .u64 (pl Q 3), .int .u64 (pl Q 4), .int .u64 (pl Q 5), .int .u64 (pl Q 6), .int .u64 (pl Q 7)] 26 ∧ Blk (w1.setRow ga #[.int .u64 (pl Q 0), .int .u64 (pl Q 1), .int .u64 (pl Q 2), .int .u64 (pl Q 3), .int .u64 (pl Q 4), .int .u64 (pl Q 5), .int .u64 (pl Q 6), .int .u64 (pl Q 7)]) gr #[.int .u64 0, .int .u64 0, .int .u64 0, .int .u64 0, .int .u64 0, .int .u64 0, .int .u64 0, .int .u64 0] 26 ∧ Below w.heap.size w (w1.setRow ga #[.int .u64 (pl Q 0), .int .u64 (pl Q 1), .int .u64 (pl Q 2), .int .u64 (pl Q 3), .int .u64 (pl Q 4), .int .u64 (pl Q 5), .int .u64 (pl Q 6), .int .u64 (pl Q 7)]) ∧ ClO N0 (w1.setRow ga #[.int .u64 (pl Q 0), .int .u64 (pl Q 1), .int .u64 (pl Q 2), .int .u64 (pl Q 3), .int .u64 (pl Q 4), .int .u64 (pl Q 5), .int .u64 (pl Q 6), .int .u64 (pl Q 7)]) (some ⟨b, off, none⟩) L) := Lib.hid ⟨hM1.rowS _, (HM.out.2.1.grow hbw).rowO _ (by omega), bel_row (bel_trans HM.out.2.2.1 hbw) (by omega) _, (HM.out.2.2.2.mono hbw).row (by omega) _⟩
    have rg := hM1.row; have lg2 := hM1.lt
    rw [← hM1.rw]
    clear hM1 hbw hb ho
    go_wp2_with fail
    go_roundw
    case rel =>
     refine ⟨i + 1, by omega, by go_num, Lib.hid ?_⟩
     rw [← HQ.out]
     exact HE.out
    case measure => simp [intOf]; omega
   ·obtain rfl : i = n := by omega
    have hM := HM.out
    rw [HE.out] at hM
    obtain ⟨k1, k2, k3, _⟩ := hM
    have ho := HO.out
    have c1 := (k1.rowO (g := gr) #[.int .u64 0, .int .u64 0, .int .u64 0, .int .u64 0, .int .u64 0, .int .u64 0, .int .u64 0, .int .u64 0] (by omega)).cell
    have l1 := k1.lt
    have r2 := k2.row; have l2 := k2.lt
    have cF := (k2.rowS #[.int .u64 (pl R 0), .int .u64 (pl R 1), .int .u64 (pl R 2), .int .u64 (pl R 3), .int .u64 (pl R 4), .int .u64 (pl R 5), .int .u64 (pl R 6), .int .u64 (pl R 7)]).cell
    have hb5 := bel_row k3 (g := gr) (by omega) #[.int .u64 (pl R 0), .int .u64 (pl R 1), .int .u64 (pl R 2), .int .u64 (pl R 3), .int .u64 (pl R 4), .int .u64 (pl R 5), .int .u64 (pl R 6), .int .u64 (pl R 7)]
    rw [← k2.rw]
    clear k1 k2 k3 HM ho
    go_wp2_with fail
    exact bodyPost_ret (v := .tuple #[solV R, .int .i64 0]) (by simp [results, Tryz.results72, go_sem, cF]) rfl ⟨rfl, hb5⟩
 ·have hM : turnedM s tt = (0, 1) := by unfold turnedM; rw [if_neg hin]
  rw [hM]
  have hno : tt < 0 ∨ 23 < tt := by
   have hh : ¬ (0 ≤ tt ∧ tt ≤ 23) := fun h => hin (inB_iff.2 h)
   omega
  clear hin hM
  have HZ := Lib.hid zero_solV
  rcases hno with h1 | h1
  all_goals
   have h2 : ¬ (0 ≤ tt ∧ tt ≤ 23) := by omega
   go_enter Tryz.func72, Tryz.ntmps72
   go_upto_region 1 with fail
   obtain ⟨W0, hW0⟩ : ∃ W0, W0 = (w.alloc (.cells #[.int .u64 (pl s 0), .int .u64 (pl s 1), .int .u64 (pl s 2), .int .u64 (pl s 3), .int .u64 (pl s 4), .int .u64 (pl s 5), .int .u64 (pl s 6), .int .u64 (pl s 7)] 26)).alloc (.cells #[.int .u64 0, .int .u64 0, .int .u64 0, .int .u64 0, .int .u64 0, .int .u64 0, .int .u64 0, .int .u64 0] 26) := ⟨_, rfl⟩
   have b1 : Blk W0 (w.heap.size + 1) #[.int .u64 0, .int .u64 0, .int .u64 0, .int .u64 0, .int .u64 0, .int .u64 0, .int .u64 0, .int .u64 0] 26 := by rw [hW0]; exact Blk.at _ _ (by simp)
   have hbw : Below w.heap.size w W0 := by rw [hW0]; exact (by repeat (first | with_reducible exact bel_refl _ | with_reducible assumption | with_reducible refine bel_drewN ?_ _ | with_reducible refine bel_drew ?_ | with_reducible refine bel_alloc ?_ _ | with_reducible refine bel_row ?_ ?_ _ | with_reducible refine bel_set ?_ ?_ _ | refine bel_trans ?_ (by with_reducible assumption) | (simp; done) | (simp; omega)))
   rw [← hW0]
   clear hW0
   have r1 := b1.row; have l1 := b1.lt
   have cF := (b1.rowS #[.int .u64 0, .int .u64 0, .int .u64 0, .int .u64 0, .int .u64 0, .int .u64 0, .int .u64 0, .int .u64 0]).cell
   have hb5 := bel_row hbw (g := w.heap.size + 1) (by omega) #[.int .u64 0, .int .u64 0, .int .u64 0, .int .u64 0, .int .u64 0, .int .u64 0, .int .u64 0, .int .u64 0]
   rw [← b1.rw]
   clear b1 hbw
   go_wp2_with fail
   exact bodyPost_ret (v := .tuple #[solV 0, .int .i64 1]) (by rw [HZ.out]; simp [results, Tryz.results72, go_sem, cF]) rfl ⟨rfl, hb5⟩
end Go.Proofs.YtkfimbonmnoglaaGreatDoor
end
