import Derived.Test.YtkfimbonmnoglaaGreatDoorRMotions32
import Derived.Deep.Cut
/-
  Given contracts of functions of the program, and laws for them, one behind the other.
-/
set_option linter.unusedVariables false
set_option linter.unusedSimpArgs false
set_option linter.unusedSectionVars false
section
namespace Go.Proofs.YtkfimbonmnoglaaGreatDoor
open Go.RowKit Go.Rel Go.Draw Go.Solid
set_option maxRecDepth 100000
attribute [local go_sem] Oper.semAt_some
attribute [local irreducible] turnedM placedM movedM mirroredM
set_option maxHeartbeats 16000000 in
theorem SolidMotions_walk (s : Sol) (tu ax x y z : Int) (tt : Int) (d : Cl) (w : World) (hT : Tab w) (hC : ∀ W, Below w.heap.size w W → Calls Tryz.prog 25 #[] W fun e w' => e = .returned (.bool true) ∧ Below W.heap.size W w') :
  Calls Tryz.prog 18 #[solV s, .int .i64 tu, .int .i64 ax, .int .i64 x, .int .i64 y, .int .i64 z, motV tt d] w fun e w' => e = .returned (.bool true) ∧ Below w.heap.size w w' := by
 have HT := Lib.hid (fun W (hb : Below w.heap.size w W) => hT.grow hb)
 have HC := Lib.hid hC
 clear hT hC
 have HT1 := Lib.hid fun W (hb : Below w.heap.size w W) => turned_n s tu W (HT.out W hb)
 have HT2 := Lib.hid fun W (hb : Below w.heap.size w W) => refTurned_n s tu W
 obtain ⟨pT, eT, hpe⟩ : ∃ p e, turnedM s tu = (p, e) := ⟨_, _, rfl⟩
 rw [hpe] at HT1 HT2
 clear hpe
 have HM1 := Lib.hid fun W (hb : Below w.heap.size w W) => moved_n s (x, y, z) W (HT.out W hb)
 have HM2 := Lib.hid fun W (hb : Below w.heap.size w W) => refMoved_n s (x, y, z) W
 obtain ⟨pM, eM, hpe⟩ : ∃ p e, movedM s (x, y, z) = (p, e) := ⟨_, _, rfl⟩
 rw [hpe] at HM1 HM2
 clear hpe
 have HI1 := Lib.hid fun W (hb : Below w.heap.size w W) => mirrored_n s ax W (HT.out W hb)
 have HI2 := Lib.hid fun W (hb : Below w.heap.size w W) => refMirrored_n s ax W
 obtain ⟨pI, eI, hpe⟩ : ∃ p e, mirroredM s ax = (p, e) := ⟨_, _, rfl⟩
 rw [hpe] at HI1 HI2
 clear hpe
 have HP1 := Lib.hid fun W (hb : Below w.heap.size w W) => placed_n s tt d W (HT.out W hb)
 have HP2 := Lib.hid fun W (hb : Below w.heap.size w W) => refPlaced_n s tt d W
 obtain ⟨pP, eP, hpe⟩ : ∃ p e, placedM s tt d = (p, e) := ⟨_, _, rfl⟩
 rw [hpe] at HP1 HP2
 clear hpe
 go_enter Tryz.func18, Tryz.ntmps18
 go_wp2_with fail
 obtain ⟨wS0, hwS⟩ : ∃ x, x = (w.alloc (.cells #[.int .u64 (pl s 0), .int .u64 (pl s 1), .int .u64 (pl s 2), .int .u64 (pl s 3), .int .u64 (pl s 4), .int .u64 (pl s 5), .int .u64 (pl s 6), .int .u64 (pl s 7)] 26)).alloc (.cells #[.int .i64 tt, .int .i64 d.1, .int .i64 d.2.1, .int .i64 d.2.2] 23) := ⟨_, rfl⟩
 have HS0 : Hid (Blk wS0 (w.heap.size) #[.int .u64 (pl s 0), .int .u64 (pl s 1), .int .u64 (pl s 2), .int .u64 (pl s 3), .int .u64 (pl s 4), .int .u64 (pl s 5), .int .u64 (pl s 6), .int .u64 (pl s 7)] 26 ∧ Blk wS0 (w.heap.size + 1) #[.int .i64 tt, .int .i64 d.1, .int .i64 d.2.1, .int .i64 d.2.2] 23 ∧ Below w.heap.size w wS0) := Lib.hid (by rw [hwS]; exact ⟨(by repeat (first | with_reducible assumption | (refine Blk.at _ _ ?_; (simp; done)) | with_reducible refine Blk.alloc ?_ _ | with_reducible refine Blk.drew ?_ | with_reducible refine Blk.rowS ?_ _ | with_reducible refine Blk.rowO ?_ _ (by simp))), Blk.at _ _ (by simp), (by repeat (first | with_reducible exact bel_refl _ | with_reducible assumption | with_reducible refine bel_drewN ?_ _ | with_reducible refine bel_drew ?_ | with_reducible refine bel_alloc ?_ _ | with_reducible refine bel_row ?_ ?_ _ | with_reducible refine bel_set ?_ ?_ _ | refine bel_trans ?_ (by with_reducible assumption) | (simp; done) | (simp; omega)))⟩)
 have HO0 : Hid True := Lib.hid trivial
 rw [← hwS]
 clear hwS
 refine (HT1.out _ HS0.out.2.2).mono ?_
 rintro e1 wX1 ⟨rfl, hb⟩
 obtain ⟨wS1, hwS⟩ : ∃ x, x = wX1.alloc (.cells #[.int .u64 (pl pT 0), .int .u64 (pl pT 1), .int .u64 (pl pT 2), .int .u64 (pl pT 3), .int .u64 (pl pT 4), .int .u64 (pl pT 5), .int .u64 (pl pT 6), .int .u64 (pl pT 7)] 26) := ⟨_, rfl⟩
 obtain ⟨gN1, hgN⟩ : ∃ x, x = wX1.heap.size := ⟨_, rfl⟩
 have HS1 : Hid (Blk wS1 (w.heap.size) #[.int .u64 (pl s 0), .int .u64 (pl s 1), .int .u64 (pl s 2), .int .u64 (pl s 3), .int .u64 (pl s 4), .int .u64 (pl s 5), .int .u64 (pl s 6), .int .u64 (pl s 7)] 26 ∧ Blk wS1 (w.heap.size + 1) #[.int .i64 tt, .int .i64 d.1, .int .i64 d.2.1, .int .i64 d.2.2] 23 ∧ Blk wS1 (gN1) #[.int .u64 (pl pT 0), .int .u64 (pl pT 1), .int .u64 (pl pT 2), .int .u64 (pl pT 3), .int .u64 (pl pT 4), .int .u64 (pl pT 5), .int .u64 (pl pT 6), .int .u64 (pl pT 7)] 26 ∧ Below w.heap.size w wS1) := Lib.hid (by
  rw [hwS, hgN]
  exact ⟨(HS0.out.1.grow hb).alloc _, (HS0.out.2.1.grow hb).alloc _, Blk.new _ _ _, bel_alloc (bel_trans HS0.out.2.2 hb) _⟩)
 have HO1 := Lib.hid (And.intro HO0.out (show w.heap.size + 1 < gN1 by rw [hgN]; exact (HS0.out.2.1.grow hb).lt))
 go_upto_region 2 with fail
 rw [← hwS, ← hgN]
 clear hwS hgN hb HS0
 have c0 := HS1.out.1.cell; have l0 := HS1.out.1.lt
 go_wp2_with fail
 clear c0 l0
 refine (HT2.out _ HS1.out.2.2.2).mono ?_
 rintro e1 wX2 ⟨rfl, hb⟩
 obtain ⟨wS2, hwS⟩ : ∃ x, x = wX2.alloc (.cells #[.int .u64 (pl pT 0), .int .u64 (pl pT 1), .int .u64 (pl pT 2), .int .u64 (pl pT 3), .int .u64 (pl pT 4), .int .u64 (pl pT 5), .int .u64 (pl pT 6), .int .u64 (pl pT 7)] 26) := ⟨_, rfl⟩
 obtain ⟨gN2, hgN⟩ : ∃ x, x = wX2.heap.size := ⟨_, rfl⟩
 have HS2 : Hid (Blk wS2 (w.heap.size) #[.int .u64 (pl s 0), .int .u64 (pl s 1), .int .u64 (pl s 2), .int .u64 (pl s 3), .int .u64 (pl s 4), .int .u64 (pl s 5), .int .u64 (pl s 6), .int .u64 (pl s 7)] 26 ∧ Blk wS2 (w.heap.size + 1) #[.int .i64 tt, .int .i64 d.1, .int .i64 d.2.1, .int .i64 d.2.2] 23 ∧ Blk wS2 (gN1) #[.int .u64 (pl pT 0), .int .u64 (pl pT 1), .int .u64 (pl pT 2), .int .u64 (pl pT 3), .int .u64 (pl pT 4), .int .u64 (pl pT 5), .int .u64 (pl pT 6), .int .u64 (pl pT 7)] 26 ∧ Blk wS2 (gN2) #[.int .u64 (pl pT 0), .int .u64 (pl pT 1), .int .u64 (pl pT 2), .int .u64 (pl pT 3), .int .u64 (pl pT 4), .int .u64 (pl pT 5), .int .u64 (pl pT 6), .int .u64 (pl pT 7)] 26 ∧ Below w.heap.size w wS2) := Lib.hid (by
  rw [hwS, hgN]
  exact ⟨(HS1.out.1.grow hb).alloc _, (HS1.out.2.1.grow hb).alloc _, (HS1.out.2.2.1.grow hb).alloc _, Blk.new _ _ _, bel_alloc (bel_trans HS1.out.2.2.2 hb) _⟩)
 have HO2 := Lib.hid (And.intro HO1.out (show gN1 < gN2 by rw [hgN]; exact (HS1.out.2.2.1.grow hb).lt))
 go_upto_region 3 with fail
 rw [← hwS, ← hgN]
 clear hwS hgN hb HS1
 have c0 := HS2.out.1.cell; have l0 := HS2.out.1.lt
 go_wp2_with fail
 clear c0 l0
 refine (HM1.out _ HS2.out.2.2.2.2).mono ?_
 rintro e1 wX3 ⟨rfl, hb⟩
 obtain ⟨wS3, hwS⟩ : ∃ x, x = wX3.alloc (.cells #[.int .u64 (pl pM 0), .int .u64 (pl pM 1), .int .u64 (pl pM 2), .int .u64 (pl pM 3), .int .u64 (pl pM 4), .int .u64 (pl pM 5), .int .u64 (pl pM 6), .int .u64 (pl pM 7)] 26) := ⟨_, rfl⟩
 obtain ⟨gN3, hgN⟩ : ∃ x, x = wX3.heap.size := ⟨_, rfl⟩
 have HS3 : Hid (Blk wS3 (w.heap.size) #[.int .u64 (pl s 0), .int .u64 (pl s 1), .int .u64 (pl s 2), .int .u64 (pl s 3), .int .u64 (pl s 4), .int .u64 (pl s 5), .int .u64 (pl s 6), .int .u64 (pl s 7)] 26 ∧ Blk wS3 (w.heap.size + 1) #[.int .i64 tt, .int .i64 d.1, .int .i64 d.2.1, .int .i64 d.2.2] 23 ∧ Blk wS3 (gN1) #[.int .u64 (pl pT 0), .int .u64 (pl pT 1), .int .u64 (pl pT 2), .int .u64 (pl pT 3), .int .u64 (pl pT 4), .int .u64 (pl pT 5), .int .u64 (pl pT 6), .int .u64 (pl pT 7)] 26 ∧ Blk wS3 (gN2) #[.int .u64 (pl pT 0), .int .u64 (pl pT 1), .int .u64 (pl pT 2), .int .u64 (pl pT 3), .int .u64 (pl pT 4), .int .u64 (pl pT 5), .int .u64 (pl pT 6), .int .u64 (pl pT 7)] 26 ∧ Blk wS3 (gN3) #[.int .u64 (pl pM 0), .int .u64 (pl pM 1), .int .u64 (pl pM 2), .int .u64 (pl pM 3), .int .u64 (pl pM 4), .int .u64 (pl pM 5), .int .u64 (pl pM 6), .int .u64 (pl pM 7)] 26 ∧ Below w.heap.size w wS3) := Lib.hid (by
  rw [hwS, hgN]
  exact ⟨(HS2.out.1.grow hb).alloc _, (HS2.out.2.1.grow hb).alloc _, (HS2.out.2.2.1.grow hb).alloc _, (HS2.out.2.2.2.1.grow hb).alloc _, Blk.new _ _ _, bel_alloc (bel_trans HS2.out.2.2.2.2 hb) _⟩)
 have HO3 := Lib.hid (And.intro HO2.out (show gN2 < gN3 by rw [hgN]; exact (HS2.out.2.2.2.1.grow hb).lt))
 go_upto_region 4 with fail
 rw [← hwS, ← hgN]
 clear hwS hgN hb HS2
 have c0 := HS3.out.1.cell; have l0 := HS3.out.1.lt
 go_wp2_with fail
 clear c0 l0
 refine (HM2.out _ HS3.out.2.2.2.2.2).mono ?_
 rintro e1 wX4 ⟨rfl, hb⟩
 obtain ⟨wS4, hwS⟩ : ∃ x, x = wX4.alloc (.cells #[.int .u64 (pl pM 0), .int .u64 (pl pM 1), .int .u64 (pl pM 2), .int .u64 (pl pM 3), .int .u64 (pl pM 4), .int .u64 (pl pM 5), .int .u64 (pl pM 6), .int .u64 (pl pM 7)] 26) := ⟨_, rfl⟩
 obtain ⟨gN4, hgN⟩ : ∃ x, x = wX4.heap.size := ⟨_, rfl⟩
 have HS4 : Hid (Blk wS4 (w.heap.size) #[.int .u64 (pl s 0), .int .u64 (pl s 1), .int .u64 (pl s 2), .int .u64 (pl s 3), .int .u64 (pl s 4), .int .u64 (pl s 5), .int .u64 (pl s 6), .int .u64 (pl s 7)] 26 ∧ Blk wS4 (w.heap.size + 1) #[.int .i64 tt, .int .i64 d.1, .int .i64 d.2.1, .int .i64 d.2.2] 23 ∧ Blk wS4 (gN1) #[.int .u64 (pl pT 0), .int .u64 (pl pT 1), .int .u64 (pl pT 2), .int .u64 (pl pT 3), .int .u64 (pl pT 4), .int .u64 (pl pT 5), .int .u64 (pl pT 6), .int .u64 (pl pT 7)] 26 ∧ Blk wS4 (gN2) #[.int .u64 (pl pT 0), .int .u64 (pl pT 1), .int .u64 (pl pT 2), .int .u64 (pl pT 3), .int .u64 (pl pT 4), .int .u64 (pl pT 5), .int .u64 (pl pT 6), .int .u64 (pl pT 7)] 26 ∧ Blk wS4 (gN3) #[.int .u64 (pl pM 0), .int .u64 (pl pM 1), .int .u64 (pl pM 2), .int .u64 (pl pM 3), .int .u64 (pl pM 4), .int .u64 (pl pM 5), .int .u64 (pl pM 6), .int .u64 (pl pM 7)] 26 ∧ Blk wS4 (gN4) #[.int .u64 (pl pM 0), .int .u64 (pl pM 1), .int .u64 (pl pM 2), .int .u64 (pl pM 3), .int .u64 (pl pM 4), .int .u64 (pl pM 5), .int .u64 (pl pM 6), .int .u64 (pl pM 7)] 26 ∧ Below w.heap.size w wS4) := Lib.hid (by
  rw [hwS, hgN]
  exact ⟨(HS3.out.1.grow hb).alloc _, (HS3.out.2.1.grow hb).alloc _, (HS3.out.2.2.1.grow hb).alloc _, (HS3.out.2.2.2.1.grow hb).alloc _, (HS3.out.2.2.2.2.1.grow hb).alloc _, Blk.new _ _ _, bel_alloc (bel_trans HS3.out.2.2.2.2.2 hb) _⟩)
 have HO4 := Lib.hid (And.intro HO3.out (show gN3 < gN4 by rw [hgN]; exact (HS3.out.2.2.2.2.1.grow hb).lt))
 go_upto_region 5 with fail
 rw [← hwS, ← hgN]
 clear hwS hgN hb HS3
 have c0 := HS4.out.1.cell; have l0 := HS4.out.1.lt
 have c2 := HS4.out.2.2.1.cell; have l2 := HS4.out.2.2.1.lt
 have c3 := HS4.out.2.2.2.1.cell; have l3 := HS4.out.2.2.2.1.lt
 have c4 := HS4.out.2.2.2.2.1.cell; have l4 := HS4.out.2.2.2.2.1.lt
 have c5 := HS4.out.2.2.2.2.2.1.cell; have l5 := HS4.out.2.2.2.2.2.1.lt
 go_wp2_with fail
 clear c0 l0 c2 l2 c3 l3 c4 l4 c5 l5
 refine (HI1.out _ HS4.out.2.2.2.2.2.2).mono ?_
 rintro e1 wX5 ⟨rfl, hb⟩
 have kk := HS4.out.2.2.1.grow hb
 have rr := kk.row; have ll := kk.lt
 have hord := HO4.out
 have HS5 : Hid (Blk (wX5.setRow (gN1) #[.int .u64 (pl pI 0), .int .u64 (pl pI 1), .int .u64 (pl pI 2), .int .u64 (pl pI 3), .int .u64 (pl pI 4), .int .u64 (pl pI 5), .int .u64 (pl pI 6), .int .u64 (pl pI 7)]) (w.heap.size) #[.int .u64 (pl s 0), .int .u64 (pl s 1), .int .u64 (pl s 2), .int .u64 (pl s 3), .int .u64 (pl s 4), .int .u64 (pl s 5), .int .u64 (pl s 6), .int .u64 (pl s 7)] 26 ∧ Blk (wX5.setRow (gN1) #[.int .u64 (pl pI 0), .int .u64 (pl pI 1), .int .u64 (pl pI 2), .int .u64 (pl pI 3), .int .u64 (pl pI 4), .int .u64 (pl pI 5), .int .u64 (pl pI 6), .int .u64 (pl pI 7)]) (w.heap.size + 1) #[.int .i64 tt, .int .i64 d.1, .int .i64 d.2.1, .int .i64 d.2.2] 23 ∧ Blk (wX5.setRow (gN1) #[.int .u64 (pl pI 0), .int .u64 (pl pI 1), .int .u64 (pl pI 2), .int .u64 (pl pI 3), .int .u64 (pl pI 4), .int .u64 (pl pI 5), .int .u64 (pl pI 6), .int .u64 (pl pI 7)]) (gN1) #[.int .u64 (pl pI 0), .int .u64 (pl pI 1), .int .u64 (pl pI 2), .int .u64 (pl pI 3), .int .u64 (pl pI 4), .int .u64 (pl pI 5), .int .u64 (pl pI 6), .int .u64 (pl pI 7)] 26 ∧ Blk (wX5.setRow (gN1) #[.int .u64 (pl pI 0), .int .u64 (pl pI 1), .int .u64 (pl pI 2), .int .u64 (pl pI 3), .int .u64 (pl pI 4), .int .u64 (pl pI 5), .int .u64 (pl pI 6), .int .u64 (pl pI 7)]) (gN2) #[.int .u64 (pl pT 0), .int .u64 (pl pT 1), .int .u64 (pl pT 2), .int .u64 (pl pT 3), .int .u64 (pl pT 4), .int .u64 (pl pT 5), .int .u64 (pl pT 6), .int .u64 (pl pT 7)] 26 ∧ Blk (wX5.setRow (gN1) #[.int .u64 (pl pI 0), .int .u64 (pl pI 1), .int .u64 (pl pI 2), .int .u64 (pl pI 3), .int .u64 (pl pI 4), .int .u64 (pl pI 5), .int .u64 (pl pI 6), .int .u64 (pl pI 7)]) (gN3) #[.int .u64 (pl pM 0), .int .u64 (pl pM 1), .int .u64 (pl pM 2), .int .u64 (pl pM 3), .int .u64 (pl pM 4), .int .u64 (pl pM 5), .int .u64 (pl pM 6), .int .u64 (pl pM 7)] 26 ∧ Blk (wX5.setRow (gN1) #[.int .u64 (pl pI 0), .int .u64 (pl pI 1), .int .u64 (pl pI 2), .int .u64 (pl pI 3), .int .u64 (pl pI 4), .int .u64 (pl pI 5), .int .u64 (pl pI 6), .int .u64 (pl pI 7)]) (gN4) #[.int .u64 (pl pM 0), .int .u64 (pl pM 1), .int .u64 (pl pM 2), .int .u64 (pl pM 3), .int .u64 (pl pM 4), .int .u64 (pl pM 5), .int .u64 (pl pM 6), .int .u64 (pl pM 7)] 26 ∧ Below w.heap.size w (wX5.setRow (gN1) #[.int .u64 (pl pI 0), .int .u64 (pl pI 1), .int .u64 (pl pI 2), .int .u64 (pl pI 3), .int .u64 (pl pI 4), .int .u64 (pl pI 5), .int .u64 (pl pI 6), .int .u64 (pl pI 7)])) := Lib.hid ⟨(HS4.out.1.grow hb).rowO _ (by omega), (HS4.out.2.1.grow hb).rowO _ (by omega), kk.rowS _, (HS4.out.2.2.2.1.grow hb).rowO _ (by omega), (HS4.out.2.2.2.2.1.grow hb).rowO _ (by omega), (HS4.out.2.2.2.2.2.1.grow hb).rowO _ (by omega), bel_row (bel_trans HS4.out.2.2.2.2.2.2 hb) (by omega) _⟩
 rw [← kk.rw]
 clear kk hb HS4 hord
 go_upto_region 8 with fail
 obtain ⟨wS5, hwS⟩ : ∃ x, x = wX5.setRow (gN1) #[.int .u64 (pl pI 0), .int .u64 (pl pI 1), .int .u64 (pl pI 2), .int .u64 (pl pI 3), .int .u64 (pl pI 4), .int .u64 (pl pI 5), .int .u64 (pl pI 6), .int .u64 (pl pI 7)] := ⟨_, rfl⟩
 rw [← hwS] at HS5 ⊢
 clear hwS rr ll
 have c0 := HS5.out.1.cell; have l0 := HS5.out.1.lt
 go_wp2_with fail
 clear c0 l0
 refine (HI2.out _ HS5.out.2.2.2.2.2.2).mono ?_
 rintro e1 wX6 ⟨rfl, hb⟩
 have kk := HS5.out.2.2.2.1.grow hb
 have rr := kk.row; have ll := kk.lt
 have hord := HO4.out
 have HS6 : Hid (Blk (wX6.setRow (gN2) #[.int .u64 (pl pI 0), .int .u64 (pl pI 1), .int .u64 (pl pI 2), .int .u64 (pl pI 3), .int .u64 (pl pI 4), .int .u64 (pl pI 5), .int .u64 (pl pI 6), .int .u64 (pl pI 7)]) (w.heap.size) #[.int .u64 (pl s 0), .int .u64 (pl s 1), .int .u64 (pl s 2), .int .u64 (pl s 3), .int .u64 (pl s 4), .int .u64 (pl s 5), .int .u64 (pl s 6), .int .u64 (pl s 7)] 26 ∧ Blk (wX6.setRow (gN2) #[.int .u64 (pl pI 0), .int .u64 (pl pI 1), .int .u64 (pl pI 2), .int .u64 (pl pI 3), .int .u64 (pl pI 4), .int .u64 (pl pI 5), .int .u64 (pl pI 6), .int .u64 (pl pI 7)]) (w.heap.size + 1) #[.int .i64 tt, .int .i64 d.1, .int .i64 d.2.1, .int .i64 d.2.2] 23 ∧ Blk (wX6.setRow (gN2) #[.int .u64 (pl pI 0), .int .u64 (pl pI 1), .int .u64 (pl pI 2), .int .u64 (pl pI 3), .int .u64 (pl pI 4), .int .u64 (pl pI 5), .int .u64 (pl pI 6), .int .u64 (pl pI 7)]) (gN1) #[.int .u64 (pl pI 0), .int .u64 (pl pI 1), .int .u64 (pl pI 2), .int .u64 (pl pI 3), .int .u64 (pl pI 4), .int .u64 (pl pI 5), .int .u64 (pl pI 6), .int .u64 (pl pI 7)] 26 ∧ Blk (wX6.setRow (gN2) #[.int .u64 (pl pI 0), .int .u64 (pl pI 1), .int .u64 (pl pI 2), .int .u64 (pl pI 3), .int .u64 (pl pI 4), .int .u64 (pl pI 5), .int .u64 (pl pI 6), .int .u64 (pl pI 7)]) (gN2) #[.int .u64 (pl pI 0), .int .u64 (pl pI 1), .int .u64 (pl pI 2), .int .u64 (pl pI 3), .int .u64 (pl pI 4), .int .u64 (pl pI 5), .int .u64 (pl pI 6), .int .u64 (pl pI 7)] 26 ∧ Blk (wX6.setRow (gN2) #[.int .u64 (pl pI 0), .int .u64 (pl pI 1), .int .u64 (pl pI 2), .int .u64 (pl pI 3), .int .u64 (pl pI 4), .int .u64 (pl pI 5), .int .u64 (pl pI 6), .int .u64 (pl pI 7)]) (gN3) #[.int .u64 (pl pM 0), .int .u64 (pl pM 1), .int .u64 (pl pM 2), .int .u64 (pl pM 3), .int .u64 (pl pM 4), .int .u64 (pl pM 5), .int .u64 (pl pM 6), .int .u64 (pl pM 7)] 26 ∧ Blk (wX6.setRow (gN2) #[.int .u64 (pl pI 0), .int .u64 (pl pI 1), .int .u64 (pl pI 2), .int .u64 (pl pI 3), .int .u64 (pl pI 4), .int .u64 (pl pI 5), .int .u64 (pl pI 6), .int .u64 (pl pI 7)]) (gN4) #[.int .u64 (pl pM 0), .int .u64 (pl pM 1), .int .u64 (pl pM 2), .int .u64 (pl pM 3), .int .u64 (pl pM 4), .int .u64 (pl pM 5), .int .u64 (pl pM 6), .int .u64 (pl pM 7)] 26 ∧ Below w.heap.size w (wX6.setRow (gN2) #[.int .u64 (pl pI 0), .int .u64 (pl pI 1), .int .u64 (pl pI 2), .int .u64 (pl pI 3), .int .u64 (pl pI 4), .int .u64 (pl pI 5), .int .u64 (pl pI 6), .int .u64 (pl pI 7)])) := Lib.hid ⟨(HS5.out.1.grow hb).rowO _ (by omega), (HS5.out.2.1.grow hb).rowO _ (by omega), (HS5.out.2.2.1.grow hb).rowO _ (by omega), kk.rowS _, (HS5.out.2.2.2.2.1.grow hb).rowO _ (by omega), (HS5.out.2.2.2.2.2.1.grow hb).rowO _ (by omega), bel_row (bel_trans HS5.out.2.2.2.2.2.2 hb) (by omega) _⟩
 rw [← kk.rw]
 clear kk hb HS5 hord
 go_upto_region 9 with fail
 obtain ⟨wS6, hwS⟩ : ∃ x, x = wX6.setRow (gN2) #[.int .u64 (pl pI 0), .int .u64 (pl pI 1), .int .u64 (pl pI 2), .int .u64 (pl pI 3), .int .u64 (pl pI 4), .int .u64 (pl pI 5), .int .u64 (pl pI 6), .int .u64 (pl pI 7)] := ⟨_, rfl⟩
 rw [← hwS] at HS6 ⊢
 clear hwS rr ll
 have c0 := HS6.out.1.cell; have l0 := HS6.out.1.lt
 have c1 := HS6.out.2.1.cell; have l1 := HS6.out.2.1.lt
 go_wp2_with fail
 clear c0 l0 c1 l1
 refine (HP1.out _ HS6.out.2.2.2.2.2.2).mono ?_
 rintro e1 wX7 ⟨rfl, hb⟩
 have kk := HS6.out.2.2.2.2.1.grow hb
 have rr := kk.row; have ll := kk.lt
 have hord := HO4.out
 have HS7 : Hid (Blk (wX7.setRow (gN3) #[.int .u64 (pl pP 0), .int .u64 (pl pP 1), .int .u64 (pl pP 2), .int .u64 (pl pP 3), .int .u64 (pl pP 4), .int .u64 (pl pP 5), .int .u64 (pl pP 6), .int .u64 (pl pP 7)]) (w.heap.size) #[.int .u64 (pl s 0), .int .u64 (pl s 1), .int .u64 (pl s 2), .int .u64 (pl s 3), .int .u64 (pl s 4), .int .u64 (pl s 5), .int .u64 (pl s 6), .int .u64 (pl s 7)] 26 ∧ Blk (wX7.setRow (gN3) #[.int .u64 (pl pP 0), .int .u64 (pl pP 1), .int .u64 (pl pP 2), .int .u64 (pl pP 3), .int .u64 (pl pP 4), .int .u64 (pl pP 5), .int .u64 (pl pP 6), .int .u64 (pl pP 7)]) (w.heap.size + 1) #[.int .i64 tt, .int .i64 d.1, .int .i64 d.2.1, .int .i64 d.2.2] 23 ∧ Blk (wX7.setRow (gN3) #[.int .u64 (pl pP 0), .int .u64 (pl pP 1), .int .u64 (pl pP 2), .int .u64 (pl pP 3), .int .u64 (pl pP 4), .int .u64 (pl pP 5), .int .u64 (pl pP 6), .int .u64 (pl pP 7)]) (gN1) #[.int .u64 (pl pI 0), .int .u64 (pl pI 1), .int .u64 (pl pI 2), .int .u64 (pl pI 3), .int .u64 (pl pI 4), .int .u64 (pl pI 5), .int .u64 (pl pI 6), .int .u64 (pl pI 7)] 26 ∧ Blk (wX7.setRow (gN3) #[.int .u64 (pl pP 0), .int .u64 (pl pP 1), .int .u64 (pl pP 2), .int .u64 (pl pP 3), .int .u64 (pl pP 4), .int .u64 (pl pP 5), .int .u64 (pl pP 6), .int .u64 (pl pP 7)]) (gN2) #[.int .u64 (pl pI 0), .int .u64 (pl pI 1), .int .u64 (pl pI 2), .int .u64 (pl pI 3), .int .u64 (pl pI 4), .int .u64 (pl pI 5), .int .u64 (pl pI 6), .int .u64 (pl pI 7)] 26 ∧ Blk (wX7.setRow (gN3) #[.int .u64 (pl pP 0), .int .u64 (pl pP 1), .int .u64 (pl pP 2), .int .u64 (pl pP 3), .int .u64 (pl pP 4), .int .u64 (pl pP 5), .int .u64 (pl pP 6), .int .u64 (pl pP 7)]) (gN3) #[.int .u64 (pl pP 0), .int .u64 (pl pP 1), .int .u64 (pl pP 2), .int .u64 (pl pP 3), .int .u64 (pl pP 4), .int .u64 (pl pP 5), .int .u64 (pl pP 6), .int .u64 (pl pP 7)] 26 ∧ Blk (wX7.setRow (gN3) #[.int .u64 (pl pP 0), .int .u64 (pl pP 1), .int .u64 (pl pP 2), .int .u64 (pl pP 3), .int .u64 (pl pP 4), .int .u64 (pl pP 5), .int .u64 (pl pP 6), .int .u64 (pl pP 7)]) (gN4) #[.int .u64 (pl pM 0), .int .u64 (pl pM 1), .int .u64 (pl pM 2), .int .u64 (pl pM 3), .int .u64 (pl pM 4), .int .u64 (pl pM 5), .int .u64 (pl pM 6), .int .u64 (pl pM 7)] 26 ∧ Below w.heap.size w (wX7.setRow (gN3) #[.int .u64 (pl pP 0), .int .u64 (pl pP 1), .int .u64 (pl pP 2), .int .u64 (pl pP 3), .int .u64 (pl pP 4), .int .u64 (pl pP 5), .int .u64 (pl pP 6), .int .u64 (pl pP 7)])) := Lib.hid ⟨(HS6.out.1.grow hb).rowO _ (by omega), (HS6.out.2.1.grow hb).rowO _ (by omega), (HS6.out.2.2.1.grow hb).rowO _ (by omega), (HS6.out.2.2.2.1.grow hb).rowO _ (by omega), kk.rowS _, (HS6.out.2.2.2.2.2.1.grow hb).rowO _ (by omega), bel_row (bel_trans HS6.out.2.2.2.2.2.2 hb) (by omega) _⟩
 rw [← kk.rw]
 clear kk hb HS6 hord
 go_upto_region 10 with fail
 obtain ⟨wS7, hwS⟩ : ∃ x, x = wX7.setRow (gN3) #[.int .u64 (pl pP 0), .int .u64 (pl pP 1), .int .u64 (pl pP 2), .int .u64 (pl pP 3), .int .u64 (pl pP 4), .int .u64 (pl pP 5), .int .u64 (pl pP 6), .int .u64 (pl pP 7)] := ⟨_, rfl⟩
 rw [← hwS] at HS7 ⊢
 clear hwS rr ll
 have c0 := HS7.out.1.cell; have l0 := HS7.out.1.lt
 have c1 := HS7.out.2.1.cell; have l1 := HS7.out.2.1.lt
 go_wp2_with fail
 clear c0 l0 c1 l1
 refine (HP2.out _ HS7.out.2.2.2.2.2.2).mono ?_
 rintro e1 wX8 ⟨rfl, hb⟩
 have kk := HS7.out.2.2.2.2.2.1.grow hb
 have rr := kk.row; have ll := kk.lt
 have hord := HO4.out
 have HS8 : Hid (Blk (wX8.setRow (gN4) #[.int .u64 (pl pP 0), .int .u64 (pl pP 1), .int .u64 (pl pP 2), .int .u64 (pl pP 3), .int .u64 (pl pP 4), .int .u64 (pl pP 5), .int .u64 (pl pP 6), .int .u64 (pl pP 7)]) (w.heap.size) #[.int .u64 (pl s 0), .int .u64 (pl s 1), .int .u64 (pl s 2), .int .u64 (pl s 3), .int .u64 (pl s 4), .int .u64 (pl s 5), .int .u64 (pl s 6), .int .u64 (pl s 7)] 26 ∧ Blk (wX8.setRow (gN4) #[.int .u64 (pl pP 0), .int .u64 (pl pP 1), .int .u64 (pl pP 2), .int .u64 (pl pP 3), .int .u64 (pl pP 4), .int .u64 (pl pP 5), .int .u64 (pl pP 6), .int .u64 (pl pP 7)]) (w.heap.size + 1) #[.int .i64 tt, .int .i64 d.1, .int .i64 d.2.1, .int .i64 d.2.2] 23 ∧ Blk (wX8.setRow (gN4) #[.int .u64 (pl pP 0), .int .u64 (pl pP 1), .int .u64 (pl pP 2), .int .u64 (pl pP 3), .int .u64 (pl pP 4), .int .u64 (pl pP 5), .int .u64 (pl pP 6), .int .u64 (pl pP 7)]) (gN1) #[.int .u64 (pl pI 0), .int .u64 (pl pI 1), .int .u64 (pl pI 2), .int .u64 (pl pI 3), .int .u64 (pl pI 4), .int .u64 (pl pI 5), .int .u64 (pl pI 6), .int .u64 (pl pI 7)] 26 ∧ Blk (wX8.setRow (gN4) #[.int .u64 (pl pP 0), .int .u64 (pl pP 1), .int .u64 (pl pP 2), .int .u64 (pl pP 3), .int .u64 (pl pP 4), .int .u64 (pl pP 5), .int .u64 (pl pP 6), .int .u64 (pl pP 7)]) (gN2) #[.int .u64 (pl pI 0), .int .u64 (pl pI 1), .int .u64 (pl pI 2), .int .u64 (pl pI 3), .int .u64 (pl pI 4), .int .u64 (pl pI 5), .int .u64 (pl pI 6), .int .u64 (pl pI 7)] 26 ∧ Blk (wX8.setRow (gN4) #[.int .u64 (pl pP 0), .int .u64 (pl pP 1), .int .u64 (pl pP 2), .int .u64 (pl pP 3), .int .u64 (pl pP 4), .int .u64 (pl pP 5), .int .u64 (pl pP 6), .int .u64 (pl pP 7)]) (gN3) #[.int .u64 (pl pP 0), .int .u64 (pl pP 1), .int .u64 (pl pP 2), .int .u64 (pl pP 3), .int .u64 (pl pP 4), .int .u64 (pl pP 5), .int .u64 (pl pP 6), .int .u64 (pl pP 7)] 26 ∧ Blk (wX8.setRow (gN4) #[.int .u64 (pl pP 0), .int .u64 (pl pP 1), .int .u64 (pl pP 2), .int .u64 (pl pP 3), .int .u64 (pl pP 4), .int .u64 (pl pP 5), .int .u64 (pl pP 6), .int .u64 (pl pP 7)]) (gN4) #[.int .u64 (pl pP 0), .int .u64 (pl pP 1), .int .u64 (pl pP 2), .int .u64 (pl pP 3), .int .u64 (pl pP 4), .int .u64 (pl pP 5), .int .u64 (pl pP 6), .int .u64 (pl pP 7)] 26 ∧ Below w.heap.size w (wX8.setRow (gN4) #[.int .u64 (pl pP 0), .int .u64 (pl pP 1), .int .u64 (pl pP 2), .int .u64 (pl pP 3), .int .u64 (pl pP 4), .int .u64 (pl pP 5), .int .u64 (pl pP 6), .int .u64 (pl pP 7)])) := Lib.hid ⟨(HS7.out.1.grow hb).rowO _ (by omega), (HS7.out.2.1.grow hb).rowO _ (by omega), (HS7.out.2.2.1.grow hb).rowO _ (by omega), (HS7.out.2.2.2.1.grow hb).rowO _ (by omega), (HS7.out.2.2.2.2.1.grow hb).rowO _ (by omega), kk.rowS _, bel_row (bel_trans HS7.out.2.2.2.2.2.2 hb) (by omega) _⟩
 rw [← kk.rw]
 clear kk hb HS7 hord
 go_upto_region 11 with fail
 obtain ⟨wS8, hwS⟩ : ∃ x, x = wX8.setRow (gN4) #[.int .u64 (pl pP 0), .int .u64 (pl pP 1), .int .u64 (pl pP 2), .int .u64 (pl pP 3), .int .u64 (pl pP 4), .int .u64 (pl pP 5), .int .u64 (pl pP 6), .int .u64 (pl pP 7)] := ⟨_, rfl⟩
 rw [← hwS] at HS8 ⊢
 clear hwS rr ll
 go_wp2_with fail
 refine (HC.out _ HS8.out.2.2.2.2.2.2).mono ?_
 rintro e1 w90 ⟨rfl, hb⟩
 have HE90 := Lib.hid (bel_trans HS8.out.2.2.2.2.2.2 hb)
 have c2 := (HS8.out.2.2.1.grow hb).cell; have l2 := (HS8.out.2.2.1.grow hb).lt
 have c3 := (HS8.out.2.2.2.1.grow hb).cell; have l3 := (HS8.out.2.2.2.1.grow hb).lt
 have c4 := (HS8.out.2.2.2.2.1.grow hb).cell; have l4 := (HS8.out.2.2.2.2.1.grow hb).lt
 have c5 := (HS8.out.2.2.2.2.2.1.grow hb).cell; have l5 := (HS8.out.2.2.2.2.2.1.grow hb).lt
 clear hb
 go_wp2_with fail
 go_ret
 exact ⟨rfl, HE90.out⟩
end Go.Proofs.YtkfimbonmnoglaaGreatDoor
end
