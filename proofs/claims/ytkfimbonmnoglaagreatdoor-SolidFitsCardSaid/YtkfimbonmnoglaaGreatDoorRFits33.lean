import Derived.Test.YtkfimbonmnoglaaGreatDoorRFits31
import Derived.Test.YtkfimbonmnoglaaGreatDoorRFits32
import Derived.Deep.Cut
/-
  Given contracts of functions of the program, and laws for them, one behind the other.
-/
set_option linter.unusedVariables false
set_option linter.unusedSimpArgs false
set_option linter.unusedSectionVars false
section
namespace Go.Proofs.YtkfimbonmnoglaaGreatDoor
open Go.RowKit Go.Rel Go.Draw Go.Solid
set_option maxRecDepth 100000
def chkM (a b : Sol) (tt : Int) (d : Cl) : Bool := decide ((placedM b tt d).2 = 0) && subS (placedM b tt d).1 a
theorem sub_beq (a b : Sol) : (a &&& b == a) = subS a b := rfl
attribute [local irreducible] placedM movedM turnedM
set_option maxHeartbeats 4000000 in
theorem checkFit_n (a b : Sol) (tt : Int) (d : Cl) (w : World) (hT : Tab w) : Calls Tryz.prog 53 #[solV a, solV b, motV tt d] w fun e w' => e = .returned (.bool (chkM a b tt d)) ∧ Below w.heap.size w w' := by
 have HT := Lib.hid (fun W (hb : Below w.heap.size w W) => hT.grow hb)
 clear hT
 have HP := Lib.hid fun W (hb : Below w.heap.size w W) => placed_n b tt d W (HT.out W hb)
 have hM : chkM a b tt d = (decide ((placedM b tt d).2 = 0) && subS (placedM b tt d).1 a) := rfl
 obtain ⟨p, e, hpe⟩ : ∃ p e, placedM b tt d = (p, e) := ⟨_, _, rfl⟩
 rw [hpe] at HP hM
 have HI := Lib.hid fun W => (sin_spec p a W)
 simp only [sub_beq] at HI
 rw [hM]
 obtain ⟨q, hq⟩ : ∃ q, q = subS p a := ⟨_, rfl⟩
 have hq2 : subS (p, e).1 a = q := hq.symm
 rw [hq2]
 rw [← hq] at HI
 clear hpe hM hq hq2
 go_enter Tryz.func53, Tryz.ntmps53
 go_wp2_with fail
 obtain ⟨wS0, hwS⟩ : ∃ x, x = ((w.alloc (.cells #[.int .u64 (pl a 0), .int .u64 (pl a 1), .int .u64 (pl a 2), .int .u64 (pl a 3), .int .u64 (pl a 4), .int .u64 (pl a 5), .int .u64 (pl a 6), .int .u64 (pl a 7)] 26)).alloc (.cells #[.int .u64 (pl b 0), .int .u64 (pl b 1), .int .u64 (pl b 2), .int .u64 (pl b 3), .int .u64 (pl b 4), .int .u64 (pl b 5), .int .u64 (pl b 6), .int .u64 (pl b 7)] 26)).alloc (.cells #[.int .i64 tt, .int .i64 d.1, .int .i64 d.2.1, .int .i64 d.2.2] 23) := ⟨_, rfl⟩
 have HS0 : Hid (Blk wS0 (w.heap.size) #[.int .u64 (pl a 0), .int .u64 (pl a 1), .int .u64 (pl a 2), .int .u64 (pl a 3), .int .u64 (pl a 4), .int .u64 (pl a 5), .int .u64 (pl a 6), .int .u64 (pl a 7)] 26 ∧ Blk wS0 (w.heap.size + 1) #[.int .u64 (pl b 0), .int .u64 (pl b 1), .int .u64 (pl b 2), .int .u64 (pl b 3), .int .u64 (pl b 4), .int .u64 (pl b 5), .int .u64 (pl b 6), .int .u64 (pl b 7)] 26 ∧ Blk wS0 (w.heap.size + 1 + 1) #[.int .i64 tt, .int .i64 d.1, .int .i64 d.2.1, .int .i64 d.2.2] 23 ∧ Below w.heap.size w wS0) := Lib.hid (by rw [hwS]; exact ⟨(by repeat (first | with_reducible assumption | (refine Blk.at _ _ ?_; (simp; done)) | with_reducible refine Blk.alloc ?_ _ | with_reducible refine Blk.drew ?_ | with_reducible refine Blk.rowS ?_ _ | with_reducible refine Blk.rowO ?_ _ (by simp))), (by repeat (first | with_reducible assumption | (refine Blk.at _ _ ?_; (simp; done)) | with_reducible refine Blk.alloc ?_ _ | with_reducible refine Blk.drew ?_ | with_reducible refine Blk.rowS ?_ _ | with_reducible refine Blk.rowO ?_ _ (by simp))), Blk.at _ _ (by simp), (by repeat (first | with_reducible exact bel_refl _ | with_reducible assumption | with_reducible refine bel_drewN ?_ _ | with_reducible refine bel_drew ?_ | with_reducible refine bel_alloc ?_ _ | with_reducible refine bel_row ?_ ?_ _ | with_reducible refine bel_set ?_ ?_ _ | refine bel_trans ?_ (by with_reducible assumption) | (simp; done) | (simp; omega)))⟩)
 have HO0 : Hid True := Lib.hid trivial
 rw [← hwS]
 clear hwS
 refine (HP.out _ HS0.out.2.2.2).mono ?_
 rintro e1 wX1 ⟨rfl, hb⟩
 obtain ⟨wS1, hwS⟩ : ∃ x, x = wX1.alloc (.cells #[.int .u64 (pl p 0), .int .u64 (pl p 1), .int .u64 (pl p 2), .int .u64 (pl p 3), .int .u64 (pl p 4), .int .u64 (pl p 5), .int .u64 (pl p 6), .int .u64 (pl p 7)] 26) := ⟨_, rfl⟩
 obtain ⟨gN1, hgN⟩ : ∃ x, x = wX1.heap.size := ⟨_, rfl⟩
 have HS1 : Hid (Blk wS1 (w.heap.size) #[.int .u64 (pl a 0), .int .u64 (pl a 1), .int .u64 (pl a 2), .int .u64 (pl a 3), .int .u64 (pl a 4), .int .u64 (pl a 5), .int .u64 (pl a 6), .int .u64 (pl a 7)] 26 ∧ Blk wS1 (w.heap.size + 1) #[.int .u64 (pl b 0), .int .u64 (pl b 1), .int .u64 (pl b 2), .int .u64 (pl b 3), .int .u64 (pl b 4), .int .u64 (pl b 5), .int .u64 (pl b 6), .int .u64 (pl b 7)] 26 ∧ Blk wS1 (w.heap.size + 1 + 1) #[.int .i64 tt, .int .i64 d.1, .int .i64 d.2.1, .int .i64 d.2.2] 23 ∧ Blk wS1 (gN1) #[.int .u64 (pl p 0), .int .u64 (pl p 1), .int .u64 (pl p 2), .int .u64 (pl p 3), .int .u64 (pl p 4), .int .u64 (pl p 5), .int .u64 (pl p 6), .int .u64 (pl p 7)] 26 ∧ Below w.heap.size w wS1) := Lib.hid (by
  rw [hwS, hgN]
  exact ⟨(HS0.out.1.grow hb).alloc _, (HS0.out.2.1.grow hb).alloc _, (HS0.out.2.2.1.grow hb).alloc _, Blk.new _ _ _, bel_alloc (bel_trans HS0.out.2.2.2 hb) _⟩)
 have HO1 := Lib.hid (And.intro HO0.out (show w.heap.size + 1 + 1 < gN1 by rw [hgN]; exact (HS0.out.2.2.1.grow hb).lt))
 go_upto_region 2 with fail
 rw [← hwS, ← hgN]
 clear hwS hgN hb HS0
 by_cases he : e = 0
 ·subst he
  have c0 := HS1.out.1.cell; have l0 := HS1.out.1.lt
  have c3 := HS1.out.2.2.2.1.cell; have l3 := HS1.out.2.2.2.1.lt
  go_wp2_with fail
  refine (HI.out _).mono ?_
  rintro e1 w9 ⟨rfl, hb⟩
  have HE := Lib.hid (bel_trans HS1.out.2.2.2.2 hb)
  clear hb
  go_wp2_with fail
  go_ret
  exact ⟨ret_bool (by simp), HE.out⟩
 ·go_wp2_with fail
  go_ret
  exact ⟨ret_bool (by simp [he]), HS1.out.2.2.2.2⟩
set_option maxHeartbeats 4000000 in
theorem refCheckFit_n (a b : Sol) (tt : Int) (d : Cl) (w : World) : Calls Tryz.prog 54 #[solV a, solV b, motV tt d] w fun e w' => e = .returned (.bool (chkM a b tt d)) ∧ Below w.heap.size w w' := by
 have HP := Lib.hid fun W (hb : Below w.heap.size w W) => refPlaced_n b tt d W
 have hM : chkM a b tt d = (decide ((placedM b tt d).2 = 0) && subS (placedM b tt d).1 a) := rfl
 obtain ⟨p, e, hpe⟩ : ∃ p e, placedM b tt d = (p, e) := ⟨_, _, rfl⟩
 rw [hpe] at HP hM
 have HI := Lib.hid fun W => (refIn_spec p a W)
 skip
 rw [hM]
 obtain ⟨q, hq⟩ : ∃ q, q = subS p a := ⟨_, rfl⟩
 have hq2 : subS (p, e).1 a = q := hq.symm
 rw [hq2]
 rw [← hq] at HI
 clear hpe hM hq hq2
 go_enter Tryz.func54, Tryz.ntmps54
 go_wp2_with fail
 obtain ⟨wS0, hwS⟩ : ∃ x, x = ((w.alloc (.cells #[.int .u64 (pl a 0), .int .u64 (pl a 1), .int .u64 (pl a 2), .int .u64 (pl a 3), .int .u64 (pl a 4), .int .u64 (pl a 5), .int .u64 (pl a 6), .int .u64 (pl a 7)] 26)).alloc (.cells #[.int .u64 (pl b 0), .int .u64 (pl b 1), .int .u64 (pl b 2), .int .u64 (pl b 3), .int .u64 (pl b 4), .int .u64 (pl b 5), .int .u64 (pl b 6), .int .u64 (pl b 7)] 26)).alloc (.cells #[.int .i64 tt, .int .i64 d.1, .int .i64 d.2.1, .int .i64 d.2.2] 23) := ⟨_, rfl⟩
 have HS0 : Hid (Blk wS0 (w.heap.size) #[.int .u64 (pl a 0), .int .u64 (pl a 1), .int .u64 (pl a 2), .int .u64 (pl a 3), .int .u64 (pl a 4), .int .u64 (pl a 5), .int .u64 (pl a 6), .int .u64 (pl a 7)] 26 ∧ Blk wS0 (w.heap.size + 1) #[.int .u64 (pl b 0), .int .u64 (pl b 1), .int .u64 (pl b 2), .int .u64 (pl b 3), .int .u64 (pl b 4), .int .u64 (pl b 5), .int .u64 (pl b 6), .int .u64 (pl b 7)] 26 ∧ Blk wS0 (w.heap.size + 1 + 1) #[.int .i64 tt, .int .i64 d.1, .int .i64 d.2.1, .int .i64 d.2.2] 23 ∧ Below w.heap.size w wS0) := Lib.hid (by rw [hwS]; exact ⟨(by repeat (first | with_reducible assumption | (refine Blk.at _ _ ?_; (simp; done)) | with_reducible refine Blk.alloc ?_ _ | with_reducible refine Blk.drew ?_ | with_reducible refine Blk.rowS ?_ _ | with_reducible refine Blk.rowO ?_ _ (by simp))), (by repeat (first | with_reducible assumption | (refine Blk.at _ _ ?_; (simp; done)) | with_reducible refine Blk.alloc ?_ _ | with_reducible refine Blk.drew ?_ | with_reducible refine Blk.rowS ?_ _ | with_reducible refine Blk.rowO ?_ _ (by simp))), Blk.at _ _ (by simp), (by repeat (first | with_reducible exact bel_refl _ | with_reducible assumption | with_reducible refine bel_drewN ?_ _ | with_reducible refine bel_drew ?_ | with_reducible refine bel_alloc ?_ _ | with_reducible refine bel_row ?_ ?_ _ | with_reducible refine bel_set ?_ ?_ _ | refine bel_trans ?_ (by with_reducible assumption) | (simp; done) | (simp; omega)))⟩)
 have HO0 : Hid True := Lib.hid trivial
 rw [← hwS]
 clear hwS
 refine (HP.out _ HS0.out.2.2.2).mono ?_
 rintro e1 wX1 ⟨rfl, hb⟩
 obtain ⟨wS1, hwS⟩ : ∃ x, x = wX1.alloc (.cells #[.int .u64 (pl p 0), .int .u64 (pl p 1), .int .u64 (pl p 2), .int .u64 (pl p 3), .int .u64 (pl p 4), .int .u64 (pl p 5), .int .u64 (pl p 6), .int .u64 (pl p 7)] 26) := ⟨_, rfl⟩
 obtain ⟨gN1, hgN⟩ : ∃ x, x = wX1.heap.size := ⟨_, rfl⟩
 have HS1 : Hid (Blk wS1 (w.heap.size) #[.int .u64 (pl a 0), .int .u64 (pl a 1), .int .u64 (pl a 2), .int .u64 (pl a 3), .int .u64 (pl a 4), .int .u64 (pl a 5), .int .u64 (pl a 6), .int .u64 (pl a 7)] 26 ∧ Blk wS1 (w.heap.size + 1) #[.int .u64 (pl b 0), .int .u64 (pl b 1), .int .u64 (pl b 2), .int .u64 (pl b 3), .int .u64 (pl b 4), .int .u64 (pl b 5), .int .u64 (pl b 6), .int .u64 (pl b 7)] 26 ∧ Blk wS1 (w.heap.size + 1 + 1) #[.int .i64 tt, .int .i64 d.1, .int .i64 d.2.1, .int .i64 d.2.2] 23 ∧ Blk wS1 (gN1) #[.int .u64 (pl p 0), .int .u64 (pl p 1), .int .u64 (pl p 2), .int .u64 (pl p 3), .int .u64 (pl p 4), .int .u64 (pl p 5), .int .u64 (pl p 6), .int .u64 (pl p 7)] 26 ∧ Below w.heap.size w wS1) := Lib.hid (by
  rw [hwS, hgN]
  exact ⟨(HS0.out.1.grow hb).alloc _, (HS0.out.2.1.grow hb).alloc _, (HS0.out.2.2.1.grow hb).alloc _, Blk.new _ _ _, bel_alloc (bel_trans HS0.out.2.2.2 hb) _⟩)
 have HO1 := Lib.hid (And.intro HO0.out (show w.heap.size + 1 + 1 < gN1 by rw [hgN]; exact (HS0.out.2.2.1.grow hb).lt))
 go_upto_region 2 with fail
 rw [← hwS, ← hgN]
 clear hwS hgN hb HS0
 by_cases he : e = 0
 ·subst he
  have c0 := HS1.out.1.cell; have l0 := HS1.out.1.lt
  have c3 := HS1.out.2.2.2.1.cell; have l3 := HS1.out.2.2.2.1.lt
  go_wp2_with fail
  refine (HI.out _).mono ?_
  rintro e1 w9 ⟨rfl, hb⟩
  have HE := Lib.hid (bel_trans HS1.out.2.2.2.2 hb)
  clear hb
  go_wp2_with fail
  go_ret
  exact ⟨ret_bool (by simp), HE.out⟩
 ·go_wp2_with fail
  go_ret
  exact ⟨ret_bool (by simp [he]), HS1.out.2.2.2.2⟩
def fitR (o : Option (Mt × Sol)) : Go.Solid.Mo × Bool := match o with
 | some y => (((y.1.1 : Nat), y.1.2), true)
 | none => ((0, (0, 0, 0)), false)
theorem fitsMo_eq (a b : Sol) (hb : b ≠ 0) : fitsMo a b = fitR (fitsL a b).head? := by
 unfold fitsMo fitR
 rw [if_neg hb]
 cases (fitsL a b).head? <;> rfl
attribute [local irreducible] qT qZ qY qX spunS imgS
set_option maxHeartbeats 16000000 in
theorem refFits_n (a b : Sol) (w : World) : Calls Tryz.prog 52 #[solV a, solV b] w fun e w' => e = .returned (.tuple #[motV (fitsMo a b).1.1 (fitsMo a b).1.2, .bool (fitsMo a b).2]) ∧ Below w.heap.size w w' := by
 by_cases hb0 : b = 0
 ·have hM : fitsMo a b = ((0, (-7, -7, -7)), true) := if_pos hb0
  rw [hM]
  have hz : (b == 0#512) = true := beq_iff_eq.2 hb0
  clear hM hb0
  go_enter Tryz.func52, Tryz.ntmps52
  go_upto_region 1 with fail
  obtain ⟨W0, hW0⟩ : ∃ W0, W0 = ((w.alloc (.cells #[.int .u64 (pl a 0), .int .u64 (pl a 1), .int .u64 (pl a 2), .int .u64 (pl a 3), .int .u64 (pl a 4), .int .u64 (pl a 5), .int .u64 (pl a 6), .int .u64 (pl a 7)] 26)).alloc (.cells #[.int .u64 (pl b 0), .int .u64 (pl b 1), .int .u64 (pl b 2), .int .u64 (pl b 3), .int .u64 (pl b 4), .int .u64 (pl b 5), .int .u64 (pl b 6), .int .u64 (pl b 7)] 26)).alloc (.cells #[.int .i64 0, .int .i64 0, .int .i64 0, .int .i64 0] 23) := ⟨_, rfl⟩
  have b0 : Blk W0 (w.heap.size + 1) #[.int .u64 (pl b 0), .int .u64 (pl b 1), .int .u64 (pl b 2), .int .u64 (pl b 3), .int .u64 (pl b 4), .int .u64 (pl b 5), .int .u64 (pl b 6), .int .u64 (pl b 7)] 26 ∧ Blk W0 (w.heap.size + 1 + 1) #[.int .i64 0, .int .i64 0, .int .i64 0, .int .i64 0] 23 ∧ Below w.heap.size w W0 := by
   rw [hW0]
   exact ⟨(by repeat (first | with_reducible assumption | (refine Blk.at _ _ ?_; (simp; done)) | with_reducible refine Blk.alloc ?_ _ | with_reducible refine Blk.drew ?_ | with_reducible refine Blk.rowS ?_ _ | with_reducible refine Blk.rowO ?_ _ (by simp))), Blk.at _ _ (by simp), (by repeat (first | with_reducible exact bel_refl _ | with_reducible assumption | with_reducible refine bel_drewN ?_ _ | with_reducible refine bel_drew ?_ | with_reducible refine bel_alloc ?_ _ | with_reducible refine bel_row ?_ ?_ _ | with_reducible refine bel_set ?_ ?_ _ | refine bel_trans ?_ (by with_reducible assumption) | (simp; done) | (simp; omega)))⟩
  rw [← hW0]
  clear hW0
  obtain ⟨b1, b2, hbw⟩ := b0
  have cb := (b1.rowO (g := w.heap.size + 1 + 1) #[.int .i64 0, .int .i64 0, .int .i64 0, .int .i64 0] (by omega)).cell; have lb := b1.lt
  have r2 := b2.row; have l2 := b2.lt
  have cF := (b2.rowS #[.int .i64 0, .int .i64 (-7), .int .i64 (-7), .int .i64 (-7)]).cell
  have hb5 := bel_row hbw (g := w.heap.size + 1 + 1) (by omega) #[.int .i64 0, .int .i64 (-7), .int .i64 (-7), .int .i64 (-7)]
  rw [← b2.rw]
  clear b1 b2 hbw
  go_wp2_with fail
  exact bodyPost_ret (v := .tuple #[motV 0 (-7, -7, -7), .bool true]) (by simp [results, Tryz.results52, go_sem, cF]) rfl ⟨rfl, hb5⟩
 ·have hz : (b == 0#512) = false := beq_eq_false_iff_ne.2 hb0
  have HN1 := Lib.hid fun W => refCount_spec a W
  have HN2 := Lib.hid fun W => refCount_spec b W
  have hfe := fits_eq (a := a) hb0
  have hMo := fitsMo_eq a b hb0
  have HTu := Lib.hid fun (t : Nat) (ht : t < 24) W => (show Calls Tryz.prog 72 #[solV b, .int .i64 (t : Nat)] W fun e w' => e = .returned (.tuple #[solV (spunS b t), .int .i64 0]) ∧ Below W.heap.size W w' from by
   have h := refTurned_n b (t : Nat) W
   have e : turnedM b (t : Nat) = (spunS b t, 0) := by
    unfold turnedM
    rw [if_pos (inB_iff.2 ⟨by omega, by omega⟩)]; rfl
   rw [e] at h; exact h)
  have HBo := Lib.hid fun t W => (refBounds_some (spun_ne hb0 t) W : Calls Tryz.prog 66 #[solV (spunS b t)] W fun e w' => e = .returned (.tuple #[boxV (loS (spunS b t)) (hiS (spunS b t)), .bool true]) ∧ Below W.heap.size W w')
  have HRn := Lib.hid fun t => (And.intro (loS_in (spun_ne hb0 t)) (hiS_in (spun_ne hb0 t)))
  have HMv := Lib.hid fun t x y z hx hy hz W => (show Calls Tryz.prog 74 #[solV (spunS b t), .int .i64 x, .int .i64 y, .int .i64 z] W fun e w' => e = .returned (.tuple #[solV (imgS (movC (x, y, z)) (spunS b t)), .int .i64 0]) ∧ Below W.heap.size W w' from by
   have h := refMoved_n (spunS b t) (x, y, z) W
   rw [moved_range (spun_ne hb0 t) hx hy hz] at h
   exact h)
  have HIn := Lib.hid fun p W => refIn_spec p a W
  by_cases hc : countS a < countS b
  ·have hM : fitsMo a b = ((0, (0, 0, 0)), false) := by
    rw [hMo, ← hfe]
    unfold fitsR
    rw [if_pos hc]; rfl
   rw [hM]
   have hc2 : (countS a : Int) < countS b := by omega
   obtain ⟨na, hna⟩ : ∃ n, n = countS a := ⟨_, rfl⟩
   obtain ⟨nb, hnb⟩ : ∃ n, n = countS b := ⟨_, rfl⟩
   rw [← hna] at HN1 hc2; rw [← hnb] at HN2 hc2
   clear hM hMo hfe hc HTu HBo HRn HMv HIn hna hnb hb0
   go_enter Tryz.func52, Tryz.ntmps52
   go_upto_region 1 with fail
   obtain ⟨W0, hW0⟩ : ∃ W0, W0 = ((w.alloc (.cells #[.int .u64 (pl a 0), .int .u64 (pl a 1), .int .u64 (pl a 2), .int .u64 (pl a 3), .int .u64 (pl a 4), .int .u64 (pl a 5), .int .u64 (pl a 6), .int .u64 (pl a 7)] 26)).alloc (.cells #[.int .u64 (pl b 0), .int .u64 (pl b 1), .int .u64 (pl b 2), .int .u64 (pl b 3), .int .u64 (pl b 4), .int .u64 (pl b 5), .int .u64 (pl b 6), .int .u64 (pl b 7)] 26)).alloc (.cells #[.int .i64 0, .int .i64 0, .int .i64 0, .int .i64 0] 23) := ⟨_, rfl⟩
   have b0 : Blk W0 w.heap.size #[.int .u64 (pl a 0), .int .u64 (pl a 1), .int .u64 (pl a 2), .int .u64 (pl a 3), .int .u64 (pl a 4), .int .u64 (pl a 5), .int .u64 (pl a 6), .int .u64 (pl a 7)] 26 ∧ Blk W0 (w.heap.size + 1) #[.int .u64 (pl b 0), .int .u64 (pl b 1), .int .u64 (pl b 2), .int .u64 (pl b 3), .int .u64 (pl b 4), .int .u64 (pl b 5), .int .u64 (pl b 6), .int .u64 (pl b 7)] 26 ∧ Blk W0 (w.heap.size + 1 + 1) #[.int .i64 0, .int .i64 0, .int .i64 0, .int .i64 0] 23 ∧ Below w.heap.size w W0 := by
    rw [hW0]
    exact ⟨(by repeat (first | with_reducible assumption | (refine Blk.at _ _ ?_; (simp; done)) | with_reducible refine Blk.alloc ?_ _ | with_reducible refine Blk.drew ?_ | with_reducible refine Blk.rowS ?_ _ | with_reducible refine Blk.rowO ?_ _ (by simp))), (by repeat (first | with_reducible assumption | (refine Blk.at _ _ ?_; (simp; done)) | with_reducible refine Blk.alloc ?_ _ | with_reducible refine Blk.drew ?_ | with_reducible refine Blk.rowS ?_ _ | with_reducible refine Blk.rowO ?_ _ (by simp))), Blk.at _ _ (by simp), (by repeat (first | with_reducible exact bel_refl _ | with_reducible assumption | with_reducible refine bel_drewN ?_ _ | with_reducible refine bel_drew ?_ | with_reducible refine bel_alloc ?_ _ | with_reducible refine bel_row ?_ ?_ _ | with_reducible refine bel_set ?_ ?_ _ | refine bel_trans ?_ (by with_reducible assumption) | (simp; done) | (simp; omega)))⟩
   rw [← hW0]
   clear hW0
   have HB := Lib.hid b0
   have cb := b0.2.1.cell; have lb := b0.2.1.lt
   clear b0
   go_wp2_with fail
   clear cb lb
   refine wp_region_val Grows (fun _ _ _ => True) [Is (solV b), Is (.int .i64 (nb : Nat)), Is (solV a), Is (.int .i64 (na : Nat)), Is (.bool true)] (by kernel_rfl) (by kernel_rfl) rfl Grows.refl (fun _ _ _ => Grows.trans) (stable_mem ⟨fun _ _ _ h _ => h, fun _ _ _ h _ => h, fun _ _ _ h _ => h, fun _ _ _ h _ => h, fun _ _ _ h _ => h, trivial⟩) W0 (Below.drew (Below.refl _ _)) trivial ?_
   refine val_cons ?_ (fun v0 => ?_)
   ·intro L vs w1 hvs hat hb hI hF; try simp [factsI, Region.binds, Is] at hF
    have D := (HB.out.2.1).grow (show Below _ _ _ from hb); have cD := D.cell; have lD := D.lt; clear D
    go_simp
    first | exact Grows.refl _ | exact ⟨Grows.refl _, trivial⟩
   refine val_cons ?_ (fun v1 => ?_)
   ·intro L vs w1 hvs hat hb hI hF; try simp [factsI, Region.binds, Is] at hF
    have hb0 := hb
    go_simp
    refine (HN2.out _).mono ?_
    rintro e w2 ⟨rfl, hb2⟩
    first | exact ⟨rfl, hb2⟩ | exact ⟨_, rfl, hb2, trivial, rfl⟩ | exact ⟨_, rfl, hb2, rfl⟩
   refine val_cons ?_ (fun v2 => ?_)
   ·intro L vs w1 hvs hat hb hI hF; try simp [factsI, Region.binds, Is] at hF
    have D := (HB.out.1).grow (show Below _ _ _ from hb); have cD := D.cell; have lD := D.lt; clear D
    go_simp
    first | exact Grows.refl _ | exact ⟨Grows.refl _, trivial⟩
   refine val_cons ?_ (fun v3 => ?_)
   ·intro L vs w1 hvs hat hb hI hF; try simp [factsI, Region.binds, Is] at hF
    have hb0 := hb
    go_simp
    refine (HN1.out _).mono ?_
    rintro e w2 ⟨rfl, hb2⟩
    first | exact ⟨rfl, hb2⟩ | exact ⟨_, rfl, hb2, trivial, rfl⟩ | exact ⟨_, rfl, hb2, rfl⟩
   refine val_cons ?_ (fun v4 => ?_)
   ·intro L vs w1 hvs hat hb hI hF; try simp [factsI, Region.binds, Is] at hF
    have hc := (Grows.cells hb).1
    clear hI
    go_simp
    try simp [upd]
    try first | exact Grows.refl _ | exact trivial | exact ⟨Grows.refl _, trivial⟩
   refine val_nil ?_
   intro vs w1 hvs hb hI hF
   simp [Is, Nat.forall_lt_succ_right] at hF
   simp only [Act.put, List.setIfInBounds_toArray, List.set_cons_succ, List.set_cons_zero, hF]
   clear hF
   have hb9 : Below W0.heap.size W0 w1 := hb
   have b2 := HB.out.2.2.1.grow hb9
   have r2 := b2.row; have l2 := b2.lt
   have cF := (b2.rowS #[.int .i64 0, .int .i64 0, .int .i64 0, .int .i64 0]).cell
   have hb5 := bel_row (bel_trans HB.out.2.2.2 hb9) (g := w.heap.size + 1 + 1) (by omega) #[.int .i64 0, .int .i64 0, .int .i64 0, .int .i64 0]
   clear hb hI hvs hb9
   rw [← b2.rw]
   clear b2
   go_wp2_with fail
   exact bodyPost_ret (v := .tuple #[motV 0 (0, 0, 0), .bool false]) (by simp [results, Tryz.results52, go_sem, cF]) rfl ⟨rfl, hb5⟩
  ·have hq0 := qT_all (a := a) (b := b) hc
   rw [hMo, ← hfe, ← hq0]
   have hc2 : ¬ ((countS a : Int) < countS b) := by omega
   have hc3 : countS b ≤ countS a := by omega
   obtain ⟨na, hna⟩ : ∃ n, n = countS a := ⟨_, rfl⟩
   obtain ⟨nb, hnb⟩ : ∃ n, n = countS b := ⟨_, rfl⟩
   rw [← hna] at HN1 hc2 hc3; rw [← hnb] at HN2 hc2 hc3
   obtain ⟨R, hR⟩ : ∃ R, R = fitR (qT a b 0).head? := ⟨_, rfl⟩
   rw [← hR]
   have HR := Lib.hid hR
   clear hR hMo hfe hc hna hnb hb0 hq0
   go_enter Tryz.func52, Tryz.ntmps52
   go_upto_region 1 with fail
   obtain ⟨W0, hW0⟩ : ∃ W0, W0 = ((w.alloc (.cells #[.int .u64 (pl a 0), .int .u64 (pl a 1), .int .u64 (pl a 2), .int .u64 (pl a 3), .int .u64 (pl a 4), .int .u64 (pl a 5), .int .u64 (pl a 6), .int .u64 (pl a 7)] 26)).alloc (.cells #[.int .u64 (pl b 0), .int .u64 (pl b 1), .int .u64 (pl b 2), .int .u64 (pl b 3), .int .u64 (pl b 4), .int .u64 (pl b 5), .int .u64 (pl b 6), .int .u64 (pl b 7)] 26)).alloc (.cells #[.int .i64 0, .int .i64 0, .int .i64 0, .int .i64 0] 23) := ⟨_, rfl⟩
   have b0 : Blk W0 w.heap.size #[.int .u64 (pl a 0), .int .u64 (pl a 1), .int .u64 (pl a 2), .int .u64 (pl a 3), .int .u64 (pl a 4), .int .u64 (pl a 5), .int .u64 (pl a 6), .int .u64 (pl a 7)] 26 ∧ Blk W0 (w.heap.size + 1) #[.int .u64 (pl b 0), .int .u64 (pl b 1), .int .u64 (pl b 2), .int .u64 (pl b 3), .int .u64 (pl b 4), .int .u64 (pl b 5), .int .u64 (pl b 6), .int .u64 (pl b 7)] 26 ∧ Blk W0 (w.heap.size + 1 + 1) #[.int .i64 0, .int .i64 0, .int .i64 0, .int .i64 0] 23 ∧ Below w.heap.size w W0 := by
    rw [hW0]
    exact ⟨(by repeat (first | with_reducible assumption | (refine Blk.at _ _ ?_; (simp; done)) | with_reducible refine Blk.alloc ?_ _ | with_reducible refine Blk.drew ?_ | with_reducible refine Blk.rowS ?_ _ | with_reducible refine Blk.rowO ?_ _ (by simp))), (by repeat (first | with_reducible assumption | (refine Blk.at _ _ ?_; (simp; done)) | with_reducible refine Blk.alloc ?_ _ | with_reducible refine Blk.drew ?_ | with_reducible refine Blk.rowS ?_ _ | with_reducible refine Blk.rowO ?_ _ (by simp))), Blk.at _ _ (by simp), (by repeat (first | with_reducible exact bel_refl _ | with_reducible assumption | with_reducible refine bel_drewN ?_ _ | with_reducible refine bel_drew ?_ | with_reducible refine bel_alloc ?_ _ | with_reducible refine bel_row ?_ ?_ _ | with_reducible refine bel_set ?_ ?_ _ | refine bel_trans ?_ (by with_reducible assumption) | (simp; done) | (simp; omega)))⟩
   rw [← hW0]
   clear hW0
   have HB := Lib.hid b0
   have cb := b0.2.1.cell; have lb := b0.2.1.lt
   clear b0
   go_wp2_with fail
   clear cb lb
   refine wp_region_val Grows (fun _ _ _ => True) [Is (solV b), Is (.int .i64 (nb : Nat)), Is (solV a), Is (.int .i64 (na : Nat)), Is (.bool false)] (by kernel_rfl) (by kernel_rfl) rfl Grows.refl (fun _ _ _ => Grows.trans) (stable_mem ⟨fun _ _ _ h _ => h, fun _ _ _ h _ => h, fun _ _ _ h _ => h, fun _ _ _ h _ => h, fun _ _ _ h _ => h, trivial⟩) W0 (Below.drew (Below.refl _ _)) trivial ?_
   refine val_cons ?_ (fun v0 => ?_)
   ·intro L vs w1 hvs hat hb hI hF; try simp [factsI, Region.binds, Is] at hF
    have D := (HB.out.2.1).grow (show Below _ _ _ from hb); have cD := D.cell; have lD := D.lt; clear D
    go_simp
    first | exact Grows.refl _ | exact ⟨Grows.refl _, trivial⟩
   refine val_cons ?_ (fun v1 => ?_)
   ·intro L vs w1 hvs hat hb hI hF; try simp [factsI, Region.binds, Is] at hF
    have hb0 := hb
    go_simp
    refine (HN2.out _).mono ?_
    rintro e w2 ⟨rfl, hb2⟩
    first | exact ⟨rfl, hb2⟩ | exact ⟨_, rfl, hb2, trivial, rfl⟩ | exact ⟨_, rfl, hb2, rfl⟩
   refine val_cons ?_ (fun v2 => ?_)
   ·intro L vs w1 hvs hat hb hI hF; try simp [factsI, Region.binds, Is] at hF
    have D := (HB.out.1).grow (show Below _ _ _ from hb); have cD := D.cell; have lD := D.lt; clear D
    go_simp
    first | exact Grows.refl _ | exact ⟨Grows.refl _, trivial⟩
   refine val_cons ?_ (fun v3 => ?_)
   ·intro L vs w1 hvs hat hb hI hF; try simp [factsI, Region.binds, Is] at hF
    have hb0 := hb
    go_simp
    refine (HN1.out _).mono ?_
    rintro e w2 ⟨rfl, hb2⟩
    first | exact ⟨rfl, hb2⟩ | exact ⟨_, rfl, hb2, trivial, rfl⟩ | exact ⟨_, rfl, hb2, rfl⟩
   refine val_cons ?_ (fun v4 => ?_)
   ·intro L vs w1 hvs hat hb hI hF; try simp [factsI, Region.binds, Is] at hF
    have hc4 := hc3
    go_simp
    first | exact Grows.refl _ | exact ⟨Grows.refl _, trivial⟩ | exact ⟨Grows.refl _, hc4⟩
   refine val_nil ?_
   intro vs w1 hvs hb hI hF
   simp [Is, Nat.forall_lt_succ_right] at hF
   simp only [Act.put, List.setIfInBounds_toArray, List.set_cons_succ, List.set_cons_zero, hF]
   clear hF
   have hb9 : Below W0.heap.size W0 w1 := hb
   have HB1 := Lib.hid (And.intro (HB.out.1.grow hb9) (And.intro (HB.out.2.1.grow hb9) (And.intro (HB.out.2.2.1.grow hb9) (bel_trans HB.out.2.2.2 hb9))))
   obtain ⟨wK, hwK⟩ : ∃ x, x = w1 := ⟨_, rfl⟩
   rw [← hwK] at HB1 ⊢
   clear hb hI hvs hb9 hwK HB hc2 hc3
   obtain ⟨gr, hgr⟩ : ∃ g, g = w.heap.size + 1 + 1 := ⟨_, rfl⟩
   obtain ⟨gb, hgb⟩ : ∃ g, g = w.heap.size + 1 := ⟨_, rfl⟩
   rw [← hgr, ← hgb] at HB1
   rw [← hgr, ← hgb]
   have HO : Hid (gr = w.heap.size + 1 + 1 ∧ gb = w.heap.size + 1) := Lib.hid ⟨hgr, hgb⟩
   clear hgr hgb
   go_wp2_with fail
   go_loopw [6] (fun tv wx => ∃ t : Nat, t ≤ 24 ∧ tv = .int .i64 t ∧ Hid (R = fitR (qT a b t).head? ∧ Blk wx w.heap.size #[.int .u64 (pl a 0), .int .u64 (pl a 1), .int .u64 (pl a 2), .int .u64 (pl a 3), .int .u64 (pl a 4), .int .u64 (pl a 5), .int .u64 (pl a 6), .int .u64 (pl a 7)] 26 ∧ Blk wx gb #[.int .u64 (pl b 0), .int .u64 (pl b 1), .int .u64 (pl b 2), .int .u64 (pl b 3), .int .u64 (pl b 4), .int .u64 (pl b 5), .int .u64 (pl b 6), .int .u64 (pl b 7)] 26 ∧ Blk wx gr #[.int .i64 0, .int .i64 0, .int .i64 0, .int .i64 0] 23 ∧ Below w.heap.size w wx)) (fun tv _ => 24 - (intOf tv).toNat)
   case atStart => exact ⟨0, by omega, rfl, Lib.hid ⟨HR.out, HB1.out⟩⟩
   case round =>
    clear HB1 HR
    obtain ⟨t, ht, rfl, HM⟩ := hrel
    by_cases ht1 : t < 24
    ·have HTt := Lib.hid fun W => HTu.out t ht1 W
     have HBt := Lib.hid fun W => HBo.out t W
     have hrn := HRn.out t
     have HMt := Lib.hid fun x y z hx hy hz W => HMv.out t x y z hx hy hz W
     have hst := HM.out.1
     rw [qT_step a b ht1] at hst
     have e1 : lR b t = negC (loS (spunS b t)) := rfl
     have e2 : hR b t = subC (7, 7, 7) (hiS (spunS b t)) := rfl
     have hzs : ∀ z, z ≤ (hR b t).2.2 → qZ a b t z = qY a b t z (lR b t).2.1 := fun z h => qZ_step h
     have hze : ∀ z, (hR b t).2.2 < z → qZ a b t z = qT a b (t + 1) := fun z h => qZ_end h
     have hys : ∀ z y, y ≤ (hR b t).2.1 → qY a b t z y = qX a b t z y (lR b t).1 := fun z y h => qY_step h
     have hye : ∀ z y, (hR b t).2.1 < y → qY a b t z y = qZ a b t (z + 1) := fun z y h => qY_end h
     have hxs : ∀ z y x, x ≤ (hR b t).1 → qX a b t z y x = tryX a (spunS b t) t z y x ++ qX a b t z y (x + 1) := fun z y x h => qX_step h
     have hxe : ∀ z y x, (hR b t).1 < x → qX a b t z y x = qY a b t z (y + 1) := fun z y x h => qX_end h
     rw [e1] at hst hzs hys
     rw [e2] at hzs hze hys hye hxs hxe
     obtain ⟨P, hP⟩ : ∃ P, P = spunS b t := ⟨_, rfl⟩
     rw [← hP] at HTt HBt hrn HMt hst hzs hze hys hye hxs hxe
     obtain ⟨⟨l0, l1, l2⟩, hl⟩ : ∃ l, l = loS P := ⟨_, rfl⟩
     obtain ⟨⟨h0, h1, h2⟩, hh⟩ : ∃ l, l = hiS P := ⟨_, rfl⟩
     rw [← hl] at HBt hrn HMt hst hzs hys
     rw [← hh] at HBt hrn HMt hzs hze hys hye hxs hxe
     have hr1 := inG_iff.1 hrn.1
     have hr2 := inG_iff.1 hrn.2
     simp only [negC, subC] at HMt hst hzs hze hys hye hxs hxe hr1 hr2
     have n0 : IntKind.i64.wrap (-l0) = -l0 := w64 ⟨by omega, by omega⟩
     have n1 : IntKind.i64.wrap (-l1) = -l1 := w64 ⟨by omega, by omega⟩
     have n2 : IntKind.i64.wrap (-l2) = -l2 := w64 ⟨by omega, by omega⟩
     have m0 : IntKind.i64.wrap (7 - h0) = 7 - h0 := w64 ⟨by omega, by omega⟩
     have m1 : IntKind.i64.wrap (7 - h1) = 7 - h1 := w64 ⟨by omega, by omega⟩
     have m2 : IntKind.i64.wrap (7 - h2) = 7 - h2 := w64 ⟨by omega, by omega⟩
     have HST := Lib.hid (And.intro hzs (And.intro hze (And.intro hys (And.intro hye (And.intro hxs hxe)))))
     have HS0 := Lib.hid hst
     have HRG := Lib.hid (And.intro hr1 hr2)
     clear hst e1 e2 hzs hze hys hye hxs hxe hrn hP hl hh hr1 hr2
     have cb := HM.out.2.2.1.cell; have lb := HM.out.2.2.1.lt
     go_wp2_with fail
     clear cb lb
     refine (HTt.out _).mono ?_
     rintro e1 w2 ⟨rfl, hb⟩
     obtain ⟨wA, hwA⟩ : ∃ x, x = w2.alloc (.cells #[.int .u64 (pl P 0), .int .u64 (pl P 1), .int .u64 (pl P 2), .int .u64 (pl P 3), .int .u64 (pl P 4), .int .u64 (pl P 5), .int .u64 (pl P 6), .int .u64 (pl P 7)] 26) := ⟨_, rfl⟩
     obtain ⟨g7, hg7⟩ : ∃ x, x = w2.heap.size := ⟨_, rfl⟩
     have HK1 : Hid (Blk wA g7 #[.int .u64 (pl P 0), .int .u64 (pl P 1), .int .u64 (pl P 2), .int .u64 (pl P 3), .int .u64 (pl P 4), .int .u64 (pl P 5), .int .u64 (pl P 6), .int .u64 (pl P 7)] 26 ∧ Blk wA w.heap.size #[.int .u64 (pl a 0), .int .u64 (pl a 1), .int .u64 (pl a 2), .int .u64 (pl a 3), .int .u64 (pl a 4), .int .u64 (pl a 5), .int .u64 (pl a 6), .int .u64 (pl a 7)] 26 ∧ Blk wA gb #[.int .u64 (pl b 0), .int .u64 (pl b 1), .int .u64 (pl b 2), .int .u64 (pl b 3), .int .u64 (pl b 4), .int .u64 (pl b 5), .int .u64 (pl b 6), .int .u64 (pl b 7)] 26 ∧ Blk wA gr #[.int .i64 0, .int .i64 0, .int .i64 0, .int .i64 0] 23 ∧ Below w.heap.size w wA) := Lib.hid (by
      rw [hwA, hg7]
      exact ⟨Blk.new _ _ _, (HM.out.2.1.grow hb).alloc _, (HM.out.2.2.1.grow hb).alloc _, (HM.out.2.2.2.1.grow hb).alloc _, bel_alloc (bel_trans HM.out.2.2.2.2 hb) _⟩)
     have ho7 : Hid (gr < g7) := Lib.hid (by rw [hg7]; exact (HM.out.2.2.2.1.grow hb).lt)
     go_upto_region 9 with fail
     rw [← hwA, ← hg7]
     clear hwA hg7 hb HM
     have c7 := HK1.out.1.cell; have l7 := HK1.out.1.lt
     go_wp2_with fail
     clear c7 l7
     refine (HBt.out _).mono ?_
     rintro e1 w3 ⟨rfl, hb⟩
     obtain ⟨wB, hwB⟩ : ∃ x, x = w3.alloc (.cells #[.int .i64 l0, .int .i64 l1, .int .i64 l2, .int .i64 h0, .int .i64 h1, .int .i64 h2] 62) := ⟨_, rfl⟩
     obtain ⟨g9, hg9⟩ : ∃ x, x = w3.heap.size := ⟨_, rfl⟩
     have HK2 : Hid (Blk wB g9 #[.int .i64 l0, .int .i64 l1, .int .i64 l2, .int .i64 h0, .int .i64 h1, .int .i64 h2] 62 ∧ Blk wB g7 #[.int .u64 (pl P 0), .int .u64 (pl P 1), .int .u64 (pl P 2), .int .u64 (pl P 3), .int .u64 (pl P 4), .int .u64 (pl P 5), .int .u64 (pl P 6), .int .u64 (pl P 7)] 26 ∧ Blk wB w.heap.size #[.int .u64 (pl a 0), .int .u64 (pl a 1), .int .u64 (pl a 2), .int .u64 (pl a 3), .int .u64 (pl a 4), .int .u64 (pl a 5), .int .u64 (pl a 6), .int .u64 (pl a 7)] 26 ∧ Blk wB gb #[.int .u64 (pl b 0), .int .u64 (pl b 1), .int .u64 (pl b 2), .int .u64 (pl b 3), .int .u64 (pl b 4), .int .u64 (pl b 5), .int .u64 (pl b 6), .int .u64 (pl b 7)] 26 ∧ Blk wB gr #[.int .i64 0, .int .i64 0, .int .i64 0, .int .i64 0] 23 ∧ Below w.heap.size w wB) := Lib.hid (by
      rw [hwB, hg9]
      exact ⟨Blk.new _ _ _, (HK1.out.1.grow hb).alloc _, (HK1.out.2.1.grow hb).alloc _, (HK1.out.2.2.1.grow hb).alloc _, (HK1.out.2.2.2.1.grow hb).alloc _, bel_alloc (bel_trans HK1.out.2.2.2.2 hb) _⟩)
     have ho9 : Hid (g7 < g9) := Lib.hid (by rw [hg9]; exact (HK1.out.1.grow hb).lt)
     go_upto_region 10 with fail
     rw [← hwB, ← hg9]
     clear hwB hg9 hb HK1
     have c9 := HK2.out.1.cell; have l9 := HK2.out.1.lt
     go_wp2_with fail
     clear c9 l9
     go_loopw [11] (fun zv wx => ∃ z : Int, -l2 ≤ z ∧ zv = .int .i64 z ∧ Hid (R = fitR (qZ a b t z).head? ∧ z ≤ 8 ∧ Blk wx g9 #[.int .i64 l0, .int .i64 l1, .int .i64 l2, .int .i64 h0, .int .i64 h1, .int .i64 h2] 62 ∧ Blk wx g7 #[.int .u64 (pl P 0), .int .u64 (pl P 1), .int .u64 (pl P 2), .int .u64 (pl P 3), .int .u64 (pl P 4), .int .u64 (pl P 5), .int .u64 (pl P 6), .int .u64 (pl P 7)] 26 ∧ Blk wx w.heap.size #[.int .u64 (pl a 0), .int .u64 (pl a 1), .int .u64 (pl a 2), .int .u64 (pl a 3), .int .u64 (pl a 4), .int .u64 (pl a 5), .int .u64 (pl a 6), .int .u64 (pl a 7)] 26 ∧ Blk wx gb #[.int .u64 (pl b 0), .int .u64 (pl b 1), .int .u64 (pl b 2), .int .u64 (pl b 3), .int .u64 (pl b 4), .int .u64 (pl b 5), .int .u64 (pl b 6), .int .u64 (pl b 7)] 26 ∧ Blk wx gr #[.int .i64 0, .int .i64 0, .int .i64 0, .int .i64 0] 23 ∧ Below w.heap.size w wx)) (fun zv _ => (9 - intOf zv).toNat)
     case atStart => exact ⟨-l2, by omega, rfl, Lib.hid ⟨HS0.out, by have := HRG.out.1; omega, HK2.out⟩⟩
     case round =>
      clear HK2 HS0
      obtain ⟨z, hz1, rfl, HZ⟩ := hrel
      have c9 := HZ.out.2.2.1.cell; have l9 := HZ.out.2.2.1.lt
      by_cases hz2 : z ≤ 7 - h2
      ·have hst := HZ.out.1
       rw [HST.out.1 z hz2] at hst
       have HY0 := Lib.hid (And.intro hst HZ.out.2.2)
       have hwz : wrap64 (z + 1) = z + 1 := IntWalk.wrap64_in _ ⟨by have := HRG.out.1; omega, by have := HRG.out; omega⟩
       have hz8 : z ≤ 7 := by have := HRG.out.2; omega
       clear hst HZ
       go_wp2_with fail
       clear c9 l9
       go_loopw [12] (fun yv wx => ∃ y : Int, -l1 ≤ y ∧ yv = .int .i64 y ∧ Hid ((R = fitR (qY a b t z y).head? ∧ Blk wx g9 #[.int .i64 l0, .int .i64 l1, .int .i64 l2, .int .i64 h0, .int .i64 h1, .int .i64 h2] 62 ∧ Blk wx g7 #[.int .u64 (pl P 0), .int .u64 (pl P 1), .int .u64 (pl P 2), .int .u64 (pl P 3), .int .u64 (pl P 4), .int .u64 (pl P 5), .int .u64 (pl P 6), .int .u64 (pl P 7)] 26 ∧ Blk wx w.heap.size #[.int .u64 (pl a 0), .int .u64 (pl a 1), .int .u64 (pl a 2), .int .u64 (pl a 3), .int .u64 (pl a 4), .int .u64 (pl a 5), .int .u64 (pl a 6), .int .u64 (pl a 7)] 26 ∧ Blk wx gb #[.int .u64 (pl b 0), .int .u64 (pl b 1), .int .u64 (pl b 2), .int .u64 (pl b 3), .int .u64 (pl b 4), .int .u64 (pl b 5), .int .u64 (pl b 6), .int .u64 (pl b 7)] 26 ∧ Blk wx gr #[.int .i64 0, .int .i64 0, .int .i64 0, .int .i64 0] 23 ∧ Below w.heap.size w wx) ∧ y ≤ 8)) (fun yv _ => (9 - intOf yv).toNat)
       case atStart => exact ⟨-l1, by omega, rfl, Lib.hid ⟨HY0.out, by have := HRG.out.1; omega⟩⟩
       case round =>
        clear HY0
        obtain ⟨y, hy1, rfl, HY⟩ := hrel
        have c9 := HY.out.1.2.1.cell; have l9 := HY.out.1.2.1.lt
        by_cases hy2 : y ≤ 7 - h1
        ·have hst := HY.out.1.1
         rw [HST.out.2.2.1 z y hy2] at hst
         have HX0 := Lib.hid (And.intro hst HY.out.1.2)
         have hwy : wrap64 (y + 1) = y + 1 := IntWalk.wrap64_in _ ⟨by have := HRG.out.1; omega, by have := HRG.out; omega⟩
         have hy8 : y ≤ 7 := by have := HRG.out.2; omega
         clear hst HY
         go_wp2_with fail
         clear c9 l9
         go_loopw [13] (fun xv wx => ∃ x : Int, -l0 ≤ x ∧ xv = .int .i64 x ∧ Hid ((R = fitR (qX a b t z y x).head? ∧ Blk wx g9 #[.int .i64 l0, .int .i64 l1, .int .i64 l2, .int .i64 h0, .int .i64 h1, .int .i64 h2] 62 ∧ Blk wx g7 #[.int .u64 (pl P 0), .int .u64 (pl P 1), .int .u64 (pl P 2), .int .u64 (pl P 3), .int .u64 (pl P 4), .int .u64 (pl P 5), .int .u64 (pl P 6), .int .u64 (pl P 7)] 26 ∧ Blk wx w.heap.size #[.int .u64 (pl a 0), .int .u64 (pl a 1), .int .u64 (pl a 2), .int .u64 (pl a 3), .int .u64 (pl a 4), .int .u64 (pl a 5), .int .u64 (pl a 6), .int .u64 (pl a 7)] 26 ∧ Blk wx gb #[.int .u64 (pl b 0), .int .u64 (pl b 1), .int .u64 (pl b 2), .int .u64 (pl b 3), .int .u64 (pl b 4), .int .u64 (pl b 5), .int .u64 (pl b 6), .int .u64 (pl b 7)] 26 ∧ Blk wx gr #[.int .i64 0, .int .i64 0, .int .i64 0, .int .i64 0] 23 ∧ Below w.heap.size w wx) ∧ x ≤ 8)) (fun xv _ => (9 - intOf xv).toNat)
         case atStart => exact ⟨-l0, by omega, rfl, Lib.hid ⟨HX0.out, by have := HRG.out.1; omega⟩⟩
         case round =>
          clear HX0
          obtain ⟨x, hx1, rfl, HX⟩ := hrel
          have c9 := HX.out.1.2.1.cell; have l9 := HX.out.1.2.1.lt
          by_cases hx2 : x ≤ 7 - h0
          ·have hst := HX.out.1.1
           rw [HST.out.2.2.2.2.1 z y x hx2] at hst
           have hx8 : x ≤ 7 := by have := HRG.out.2; omega
           have hwx : wrap64 (x + 1) = x + 1 := IntWalk.wrap64_in _ ⟨by have := HRG.out.1; omega, by omega⟩
           have HM1 := Lib.hid fun W => HMt.out x y z ⟨hx1, hx2⟩ ⟨hy1, hy2⟩ ⟨hz1, hz2⟩ W
           have htr : tryX a P t z y x = if subS (imgS (movC (x, y, z)) P) a then [((t, (x, y, z)), imgS (movC (x, y, z)) P)] else [] := rfl
           rw [htr] at hst
           obtain ⟨Q, hQ⟩ : ∃ Q, Q = imgS (movC (x, y, z)) P := ⟨_, rfl⟩
           rw [← hQ] at hst HM1
           have HI1 := Lib.hid fun W => HIn.out Q W
           obtain ⟨q, hq⟩ : ∃ q, q = subS Q a := ⟨_, rfl⟩
           rw [← hq] at hst HI1
           have HSt := Lib.hid hst
           clear hst htr hQ hq
           have c7 := HX.out.1.2.2.1.cell; have l7 := HX.out.1.2.2.1.lt
           go_wp2_with fail
           clear c7 l7 c9 l9
           refine (HM1.out _).mono ?_
           rintro e1 w4 ⟨rfl, hb⟩
           have ca := (HX.out.1.2.2.2.1.grow hb).cell; have la := (HX.out.1.2.2.2.1.grow hb).lt
           have hb4 := Lib.hid hb
           clear hb
           go_wp2_with fail
           clear ca la
           refine (HI1.out _).mono ?_
           rintro e1 w5 ⟨rfl, hb⟩
           have hb5 := Lib.hid (bel_trans (bel_alloc hb4.out (.cells #[.int .u64 (pl Q 0), .int .u64 (pl Q 1), .int .u64 (pl Q 2), .int .u64 (pl Q 3), .int .u64 (pl Q 4), .int .u64 (pl Q 5), .int .u64 (pl Q 6), .int .u64 (pl Q 7)] 26)) hb)
           clear hb
           cases q
           ·have hst : R = fitR (qX a b t z y (x + 1)).head? := HSt.out
            have HE := Lib.hid (And.intro hst (And.intro (HX.out.1.2.1.grow hb5.out) (And.intro (HX.out.1.2.2.1.grow hb5.out) (And.intro (HX.out.1.2.2.2.1.grow hb5.out) (And.intro (HX.out.1.2.2.2.2.1.grow hb5.out) (And.intro (HX.out.1.2.2.2.2.2.1.grow hb5.out) (bel_trans HX.out.1.2.2.2.2.2.2 hb5.out)))))))
            clear hst HSt HX
            go_wp2_with fail
            go_roundw
            case rel => exact ⟨x + 1, by omega, by go_num, Lib.hid ⟨HE.out, by omega⟩⟩
            case measure => simp [intOf]; omega
           ·have hst : R = ((((t : Nat) : Int), (x, y, z)), true) := HSt.out
            have HR := Lib.hid hst
            have k2 := HX.out.1.2.2.2.2.2.1.grow hb5.out
            have ho := HO.out
            have r2 := k2.row; have l2 := k2.lt
            have cF := (k2.rowS #[.int .i64 (t : Nat), .int .i64 x, .int .i64 y, .int .i64 z]).cell
            have hb6 := bel_row (bel_trans HX.out.1.2.2.2.2.2.2 hb5.out) (g := gr) (by omega) #[.int .i64 (t : Nat), .int .i64 x, .int .i64 y, .int .i64 z]
            rw [← k2.rw]
            clear k2 hst ho
            go_wp2_with fail
            exact bodyPost_ret (v := .tuple #[motV (t : Nat) (x, y, z), .bool true]) (by simp [results, Tryz.results52, go_sem, cF]) rfl ⟨by rw [HR.out], hb6⟩
          ·have hst := HX.out.1.1
           rw [HST.out.2.2.2.2.2 z y x (by omega)] at hst
           have HE := Lib.hid (And.intro hst HX.out.1.2)
           clear hst HX
           go_wp2_with fail
           go_roundw
           case rel => exact ⟨y + 1, by omega, by go_num, Lib.hid ⟨HE.out, by omega⟩⟩
           case measure => simp [intOf]; omega
        ·have hst := HY.out.1.1
         rw [HST.out.2.2.2.1 z y (by omega)] at hst
         have HE := Lib.hid (And.intro hst HY.out.1.2)
         clear hst HY
         go_wp2_with fail
         go_roundw
         case rel => exact ⟨z + 1, by omega, by go_num, Lib.hid ⟨HE.out.1, by omega, HE.out.2⟩⟩
         case measure => simp [intOf]; omega
      ·have hst := HZ.out.1
       rw [HST.out.2.1 z (by omega)] at hst
       have HE := Lib.hid (And.intro hst HZ.out.2.2.2.2)
       clear hst HZ
       go_wp2_with fail
       go_roundw
       case rel => exact ⟨t + 1, by omega, by go_num, Lib.hid HE.out⟩
       case measure => simp [intOf]; omega
    ·obtain rfl : t = 24 := by omega
     have hR := HM.out.1
     rw [qT_end] at hR
     have HR := Lib.hid hR
     obtain ⟨_, _, _, k2, k3⟩ := HM.out
     have ho := HO.out
     have r2 := k2.row; have l2 := k2.lt
     have cF := (k2.rowS #[.int .i64 0, .int .i64 0, .int .i64 0, .int .i64 0]).cell
     have hb5 := bel_row k3 (g := gr) (by omega) #[.int .i64 0, .int .i64 0, .int .i64 0, .int .i64 0]
     rw [← k2.rw]
     clear k2 k3 HM ho hR
     go_wp2_with fail
     exact bodyPost_ret (v := .tuple #[motV 0 (0, 0, 0), .bool false]) (by simp [results, Tryz.results52, go_sem, cF]) rfl ⟨by rw [HR.out]; rfl, hb5⟩
end Go.Proofs.YtkfimbonmnoglaaGreatDoor
end
