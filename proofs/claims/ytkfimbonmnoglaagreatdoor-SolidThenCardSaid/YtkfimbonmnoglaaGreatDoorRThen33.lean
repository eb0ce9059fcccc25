import Derived.Test.YtkfimbonmnoglaaGreatDoorRThen32
import Derived.Deep.Cut
/-
  Given contracts of functions of the program, and laws for them, one behind the other.
-/
set_option linter.unusedVariables false
set_option linter.unusedSimpArgs false
set_option linter.unusedSectionVars false
section
namespace Go.Proofs.YtkfimbonmnoglaaGreatDoor
open Go.RowKit Go.Rel Go.Draw Go.Solid
set_option maxRecDepth 100000
attribute [local go_sem] Oper.semAt_some
attribute [local irreducible] placedM thenM backM
set_option maxHeartbeats 16000000 in
theorem SolidThen_walk (mt : Int) (md : Cl) (nt : Int) (nd : Cl) (s : Sol) (w : World) (hT : Tab w) (hC : ∀ W, Below w.heap.size w W → Calls Tryz.prog 25 #[] W fun e w' => e = .returned (.bool true) ∧ Below W.heap.size W w') :
  Calls Tryz.prog 3 #[motV mt md, motV nt nd, solV s] w fun e w' => e = .returned (.bool true) ∧ Below w.heap.size w w' := by
 have HT := Lib.hid (fun W (hb : Below w.heap.size w W) => hT.grow hb)
 have HC := Lib.hid hC
 clear hT hC
 have HT1 := Lib.hid fun W (hb : Below w.heap.size w W) => then_n (mt, md) (nt, nd) W
 have HT2 := Lib.hid fun W (hb : Below w.heap.size w W) => refThen_n (mt, md) (nt, nd) W
 have HB1 := Lib.hid fun W (hb : Below w.heap.size w W) => back_n (mt, md) W
 have HB2 := Lib.hid fun W (hb : Below w.heap.size w W) => refBack_n (mt, md) W
 have hthen := fun p q => @then_law s p q (mt, md) (nt, nd)
 have hback := fun p => @back_law s p (mt, md)
 obtain ⟨at_, ad, e, hae⟩ : ∃ x y z, thenM (mt, md) (nt, nd) = ((x, y), z) := ⟨_, _, _, rfl⟩
 obtain ⟨ct, cd, g, hcg⟩ : ∃ x y z, backM (mt, md) = ((x, y), z) := ⟨_, _, _, rfl⟩
 rw [hae] at HT1 HT2 hthen
 rw [hcg] at HB1 HB2 hback
 have HP1 := Lib.hid fun W (hb : Below w.heap.size w W) => placed_n s mt md W (HT.out W hb)
 obtain ⟨p, i, hpi⟩ : ∃ x y, placedM s mt md = (x, y) := ⟨_, _, rfl⟩
 have hthen2 : ∀ q, placedM s mt md = (p, 0) → placedM p nt nd = (q, 0) → e = 0 → placedM s at_ ad = (q, 0) := fun q h1 h2 h3 => hthen p q h1 h2 h3
 have hback2 : placedM s mt md = (p, 0) → placedM p ct cd = (s, 0) := fun h => hback p h
 rw [hpi] at HP1 hthen2 hback2
 have HP2 := Lib.hid fun W (hb : Below w.heap.size w W) => placed_n p ct cd W (HT.out W hb)
 have HP3 := Lib.hid fun W (hb : Below w.heap.size w W) => placed_n p nt nd W (HT.out W hb)
 have HP4 := Lib.hid fun W (hb : Below w.heap.size w W) => placed_n s at_ ad W (HT.out W hb)
 obtain ⟨q, k, hqk⟩ : ∃ x y, placedM p nt nd = (x, y) := ⟨_, _, rfl⟩
 rw [hqk] at HP3
 have hthen3 : i = 0 → k = 0 → e = 0 → placedM s at_ ad = (q, 0) := fun h1 h2 h3 => hthen2 q (by rw [h1]) (by rw [hqk, h2]) h3
 have hback3 : i = 0 → placedM p ct cd = (s, 0) := fun h => hback2 (by rw [h])
 have HTL := Lib.hid hthen3
 have HBL := Lib.hid hback3
 clear hthen hback hthen2 hback2 hthen3 hback3 hae hcg hpi hqk
 go_enter Tryz.func3, Tryz.ntmps3
 go_wp2_with fail
 obtain ⟨wS0, hwS⟩ : ∃ x, x = ((w.alloc (.cells #[.int .i64 mt, .int .i64 md.1, .int .i64 md.2.1, .int .i64 md.2.2] 23)).alloc (.cells #[.int .i64 nt, .int .i64 nd.1, .int .i64 nd.2.1, .int .i64 nd.2.2] 23)).alloc (.cells #[.int .u64 (pl s 0), .int .u64 (pl s 1), .int .u64 (pl s 2), .int .u64 (pl s 3), .int .u64 (pl s 4), .int .u64 (pl s 5), .int .u64 (pl s 6), .int .u64 (pl s 7)] 26) := ⟨_, rfl⟩
 have HS0 : Hid (Blk wS0 (w.heap.size) #[.int .i64 mt, .int .i64 md.1, .int .i64 md.2.1, .int .i64 md.2.2] 23 ∧ Blk wS0 (w.heap.size + 1) #[.int .i64 nt, .int .i64 nd.1, .int .i64 nd.2.1, .int .i64 nd.2.2] 23 ∧ Blk wS0 (w.heap.size + 1 + 1) #[.int .u64 (pl s 0), .int .u64 (pl s 1), .int .u64 (pl s 2), .int .u64 (pl s 3), .int .u64 (pl s 4), .int .u64 (pl s 5), .int .u64 (pl s 6), .int .u64 (pl s 7)] 26 ∧ Below w.heap.size w wS0) := Lib.hid (by rw [hwS]; exact ⟨(by repeat (first | with_reducible assumption | (refine Blk.at _ _ ?_; (simp; done)) | with_reducible refine Blk.alloc ?_ _ | with_reducible refine Blk.drew ?_ | with_reducible refine Blk.rowS ?_ _ | with_reducible refine Blk.rowO ?_ _ (by simp))), (by repeat (first | with_reducible assumption | (refine Blk.at _ _ ?_; (simp; done)) | with_reducible refine Blk.alloc ?_ _ | with_reducible refine Blk.drew ?_ | with_reducible refine Blk.rowS ?_ _ | with_reducible refine Blk.rowO ?_ _ (by simp))), Blk.at _ _ (by simp), (by repeat (first | with_reducible exact bel_refl _ | with_reducible assumption | with_reducible refine bel_drewN ?_ _ | with_reducible refine bel_drew ?_ | with_reducible refine bel_alloc ?_ _ | with_reducible refine bel_row ?_ ?_ _ | with_reducible refine bel_set ?_ ?_ _ | refine bel_trans ?_ (by with_reducible assumption) | (simp; done) | (simp; omega)))⟩)
 have HO0 : Hid True := Lib.hid trivial
 rw [← hwS]
 clear hwS
 refine (HT1.out _ HS0.out.2.2.2).mono ?_
 rintro e1 wX1 ⟨rfl, hb⟩
 obtain ⟨wS1, hwS⟩ : ∃ x, x = wX1.alloc (.cells #[.int .i64 at_, .int .i64 ad.1, .int .i64 ad.2.1, .int .i64 ad.2.2] 23) := ⟨_, rfl⟩
 obtain ⟨gN1, hgN⟩ : ∃ x, x = wX1.heap.size := ⟨_, rfl⟩
 have HS1 : Hid (Blk wS1 (w.heap.size) #[.int .i64 mt, .int .i64 md.1, .int .i64 md.2.1, .int .i64 md.2.2] 23 ∧ Blk wS1 (w.heap.size + 1) #[.int .i64 nt, .int .i64 nd.1, .int .i64 nd.2.1, .int .i64 nd.2.2] 23 ∧ Blk wS1 (w.heap.size + 1 + 1) #[.int .u64 (pl s 0), .int .u64 (pl s 1), .int .u64 (pl s 2), .int .u64 (pl s 3), .int .u64 (pl s 4), .int .u64 (pl s 5), .int .u64 (pl s 6), .int .u64 (pl s 7)] 26 ∧ Blk wS1 (gN1) #[.int .i64 at_, .int .i64 ad.1, .int .i64 ad.2.1, .int .i64 ad.2.2] 23 ∧ Below w.heap.size w wS1) := Lib.hid (by
  rw [hwS, hgN]
  exact ⟨(HS0.out.1.grow hb).alloc _, (HS0.out.2.1.grow hb).alloc _, (HS0.out.2.2.1.grow hb).alloc _, Blk.new _ _ _, bel_alloc (bel_trans HS0.out.2.2.2 hb) _⟩)
 have HO1 := Lib.hid (And.intro HO0.out (show w.heap.size + 1 + 1 < gN1 by rw [hgN]; exact (HS0.out.2.2.1.grow hb).lt))
 go_upto_region 2 with fail
 rw [← hwS, ← hgN]
 clear hwS hgN hb HS0
 have c0 := HS1.out.1.cell; have l0 := HS1.out.1.lt
 have c1 := HS1.out.2.1.cell; have l1 := HS1.out.2.1.lt
 go_wp2_with fail
 clear c0 l0 c1 l1
 refine (HT2.out _ HS1.out.2.2.2.2).mono ?_
 rintro e1 wX2 ⟨rfl, hb⟩
 obtain ⟨wS2, hwS⟩ : ∃ x, x = wX2.alloc (.cells #[.int .i64 at_, .int .i64 ad.1, .int .i64 ad.2.1, .int .i64 ad.2.2] 23) := ⟨_, rfl⟩
 obtain ⟨gN2, hgN⟩ : ∃ x, x = wX2.heap.size := ⟨_, rfl⟩
 have HS2 : Hid (Blk wS2 (w.heap.size) #[.int .i64 mt, .int .i64 md.1, .int .i64 md.2.1, .int .i64 md.2.2] 23 ∧ Blk wS2 (w.heap.size + 1) #[.int .i64 nt, .int .i64 nd.1, .int .i64 nd.2.1, .int .i64 nd.2.2] 23 ∧ Blk wS2 (w.heap.size + 1 + 1) #[.int .u64 (pl s 0), .int .u64 (pl s 1), .int .u64 (pl s 2), .int .u64 (pl s 3), .int .u64 (pl s 4), .int .u64 (pl s 5), .int .u64 (pl s 6), .int .u64 (pl s 7)] 26 ∧ Blk wS2 (gN1) #[.int .i64 at_, .int .i64 ad.1, .int .i64 ad.2.1, .int .i64 ad.2.2] 23 ∧ Blk wS2 (gN2) #[.int .i64 at_, .int .i64 ad.1, .int .i64 ad.2.1, .int .i64 ad.2.2] 23 ∧ Below w.heap.size w wS2) := Lib.hid (by
  rw [hwS, hgN]
  exact ⟨(HS1.out.1.grow hb).alloc _, (HS1.out.2.1.grow hb).alloc _, (HS1.out.2.2.1.grow hb).alloc _, (HS1.out.2.2.2.1.grow hb).alloc _, Blk.new _ _ _, bel_alloc (bel_trans HS1.out.2.2.2.2 hb) _⟩)
 have HO2 := Lib.hid (And.intro HO1.out (show gN1 < gN2 by rw [hgN]; exact (HS1.out.2.2.2.1.grow hb).lt))
 go_upto_region 3 with fail
 rw [← hwS, ← hgN]
 clear hwS hgN hb HS1
 have c0 := HS2.out.1.cell; have l0 := HS2.out.1.lt
 go_wp2_with fail
 clear c0 l0
 refine (HB1.out _ HS2.out.2.2.2.2.2).mono ?_
 rintro e1 wX3 ⟨rfl, hb⟩
 obtain ⟨wS3, hwS⟩ : ∃ x, x = wX3.alloc (.cells #[.int .i64 ct, .int .i64 cd.1, .int .i64 cd.2.1, .int .i64 cd.2.2] 23) := ⟨_, rfl⟩
 obtain ⟨gN3, hgN⟩ : ∃ x, x = wX3.heap.size := ⟨_, rfl⟩
 have HS3 : Hid (Blk wS3 (w.heap.size) #[.int .i64 mt, .int .i64 md.1, .int .i64 md.2.1, .int .i64 md.2.2] 23 ∧ Blk wS3 (w.heap.size + 1) #[.int .i64 nt, .int .i64 nd.1, .int .i64 nd.2.1, .int .i64 nd.2.2] 23 ∧ Blk wS3 (w.heap.size + 1 + 1) #[.int .u64 (pl s 0), .int .u64 (pl s 1), .int .u64 (pl s 2), .int .u64 (pl s 3), .int .u64 (pl s 4), .int .u64 (pl s 5), .int .u64 (pl s 6), .int .u64 (pl s 7)] 26 ∧ Blk wS3 (gN1) #[.int .i64 at_, .int .i64 ad.1, .int .i64 ad.2.1, .int .i64 ad.2.2] 23 ∧ Blk wS3 (gN2) #[.int .i64 at_, .int .i64 ad.1, .int .i64 ad.2.1, .int .i64 ad.2.2] 23 ∧ Blk wS3 (gN3) #[.int .i64 ct, .int .i64 cd.1, .int .i64 cd.2.1, .int .i64 cd.2.2] 23 ∧ Below w.heap.size w wS3) := Lib.hid (by
  rw [hwS, hgN]
  exact ⟨(HS2.out.1.grow hb).alloc _, (HS2.out.2.1.grow hb).alloc _, (HS2.out.2.2.1.grow hb).alloc _, (HS2.out.2.2.2.1.grow hb).alloc _, (HS2.out.2.2.2.2.1.grow hb).alloc _, Blk.new _ _ _, bel_alloc (bel_trans HS2.out.2.2.2.2.2 hb) _⟩)
 have HO3 := Lib.hid (And.intro HO2.out (show gN2 < gN3 by rw [hgN]; exact (HS2.out.2.2.2.2.1.grow hb).lt))
 go_upto_region 4 with fail
 rw [← hwS, ← hgN]
 clear hwS hgN hb HS2
 have c0 := HS3.out.1.cell; have l0 := HS3.out.1.lt
 go_wp2_with fail
 clear c0 l0
 refine (HB2.out _ HS3.out.2.2.2.2.2.2).mono ?_
 rintro e1 wX4 ⟨rfl, hb⟩
 obtain ⟨wS4, hwS⟩ : ∃ x, x = wX4.alloc (.cells #[.int .i64 ct, .int .i64 cd.1, .int .i64 cd.2.1, .int .i64 cd.2.2] 23) := ⟨_, rfl⟩
 obtain ⟨gN4, hgN⟩ : ∃ x, x = wX4.heap.size := ⟨_, rfl⟩
 have HS4 : Hid (Blk wS4 (w.heap.size) #[.int .i64 mt, .int .i64 md.1, .int .i64 md.2.1, .int .i64 md.2.2] 23 ∧ Blk wS4 (w.heap.size + 1) #[.int .i64 nt, .int .i64 nd.1, .int .i64 nd.2.1, .int .i64 nd.2.2] 23 ∧ Blk wS4 (w.heap.size + 1 + 1) #[.int .u64 (pl s 0), .int .u64 (pl s 1), .int .u64 (pl s 2), .int .u64 (pl s 3), .int .u64 (pl s 4), .int .u64 (pl s 5), .int .u64 (pl s 6), .int .u64 (pl s 7)] 26 ∧ Blk wS4 (gN1) #[.int .i64 at_, .int .i64 ad.1, .int .i64 ad.2.1, .int .i64 ad.2.2] 23 ∧ Blk wS4 (gN2) #[.int .i64 at_, .int .i64 ad.1, .int .i64 ad.2.1, .int .i64 ad.2.2] 23 ∧ Blk wS4 (gN3) #[.int .i64 ct, .int .i64 cd.1, .int .i64 cd.2.1, .int .i64 cd.2.2] 23 ∧ Blk wS4 (gN4) #[.int .i64 ct, .int .i64 cd.1, .int .i64 cd.2.1, .int .i64 cd.2.2] 23 ∧ Below w.heap.size w wS4) := Lib.hid (by
  rw [hwS, hgN]
  exact ⟨(HS3.out.1.grow hb).alloc _, (HS3.out.2.1.grow hb).alloc _, (HS3.out.2.2.1.grow hb).alloc _, (HS3.out.2.2.2.1.grow hb).alloc _, (HS3.out.2.2.2.2.1.grow hb).alloc _, (HS3.out.2.2.2.2.2.1.grow hb).alloc _, Blk.new _ _ _, bel_alloc (bel_trans HS3.out.2.2.2.2.2.2 hb) _⟩)
 have HO4 := Lib.hid (And.intro HO3.out (show gN3 < gN4 by rw [hgN]; exact (HS3.out.2.2.2.2.2.1.grow hb).lt))
 go_upto_region 5 with fail
 rw [← hwS, ← hgN]
 clear hwS hgN hb HS3
 have c0 := HS4.out.1.cell; have l0 := HS4.out.1.lt
 have c2 := HS4.out.2.2.1.cell; have l2 := HS4.out.2.2.1.lt
 have c3 := HS4.out.2.2.2.1.cell; have l3 := HS4.out.2.2.2.1.lt
 have c4 := HS4.out.2.2.2.2.1.cell; have l4 := HS4.out.2.2.2.2.1.lt
 have c5 := HS4.out.2.2.2.2.2.1.cell; have l5 := HS4.out.2.2.2.2.2.1.lt
 have c6 := HS4.out.2.2.2.2.2.2.1.cell; have l6 := HS4.out.2.2.2.2.2.2.1.lt
 go_wp2_with fail
 clear c0 l0 c2 l2 c3 l3 c4 l4 c5 l5 c6 l6
 refine (HP1.out _ HS4.out.2.2.2.2.2.2.2).mono ?_
 rintro e1 wX5 ⟨rfl, hb⟩
 obtain ⟨wS5, hwS⟩ : ∃ x, x = wX5.alloc (.cells #[.int .u64 (pl p 0), .int .u64 (pl p 1), .int .u64 (pl p 2), .int .u64 (pl p 3), .int .u64 (pl p 4), .int .u64 (pl p 5), .int .u64 (pl p 6), .int .u64 (pl p 7)] 26) := ⟨_, rfl⟩
 obtain ⟨gN5, hgN⟩ : ∃ x, x = wX5.heap.size := ⟨_, rfl⟩
 have HS5 : Hid (Blk wS5 (w.heap.size) #[.int .i64 mt, .int .i64 md.1, .int .i64 md.2.1, .int .i64 md.2.2] 23 ∧ Blk wS5 (w.heap.size + 1) #[.int .i64 nt, .int .i64 nd.1, .int .i64 nd.2.1, .int .i64 nd.2.2] 23 ∧ Blk wS5 (w.heap.size + 1 + 1) #[.int .u64 (pl s 0), .int .u64 (pl s 1), .int .u64 (pl s 2), .int .u64 (pl s 3), .int .u64 (pl s 4), .int .u64 (pl s 5), .int .u64 (pl s 6), .int .u64 (pl s 7)] 26 ∧ Blk wS5 (gN1) #[.int .i64 at_, .int .i64 ad.1, .int .i64 ad.2.1, .int .i64 ad.2.2] 23 ∧ Blk wS5 (gN2) #[.int .i64 at_, .int .i64 ad.1, .int .i64 ad.2.1, .int .i64 ad.2.2] 23 ∧ Blk wS5 (gN3) #[.int .i64 ct, .int .i64 cd.1, .int .i64 cd.2.1, .int .i64 cd.2.2] 23 ∧ Blk wS5 (gN4) #[.int .i64 ct, .int .i64 cd.1, .int .i64 cd.2.1, .int .i64 cd.2.2] 23 ∧ Blk wS5 (gN5) #[.int .u64 (pl p 0), .int .u64 (pl p 1), .int .u64 (pl p 2), .int .u64 (pl p 3), .int .u64 (pl p 4), .int .u64 (pl p 5), .int .u64 (pl p 6), .int .u64 (pl p 7)] 26 ∧ Below w.heap.size w wS5) := Lib.hid (by
  rw [hwS, hgN]
  exact ⟨(HS4.out.1.grow hb).alloc _, (HS4.out.2.1.grow hb).alloc _, (HS4.out.2.2.1.grow hb).alloc _, (HS4.out.2.2.2.1.grow hb).alloc _, (HS4.out.2.2.2.2.1.grow hb).alloc _, (HS4.out.2.2.2.2.2.1.grow hb).alloc _, (HS4.out.2.2.2.2.2.2.1.grow hb).alloc _, Blk.new _ _ _, bel_alloc (bel_trans HS4.out.2.2.2.2.2.2.2 hb) _⟩)
 have HO5 := Lib.hid (And.intro HO4.out (show gN4 < gN5 by rw [hgN]; exact (HS4.out.2.2.2.2.2.2.1.grow hb).lt))
 go_upto_region 8 with fail
 rw [← hwS, ← hgN]
 clear hwS hgN hb HS4
 by_cases hi0 : i = 0
 ·have hbk := HBL.out hi0
  rw [hbk] at HP2
  subst hi0
  clear hbk
  have c5 := HS5.out.2.2.2.2.2.1.cell; have l5 := HS5.out.2.2.2.2.2.1.lt
  have c7 := HS5.out.2.2.2.2.2.2.2.1.cell; have l7 := HS5.out.2.2.2.2.2.2.2.1.lt
  go_wp2_with fail
  clear c5 l5 c7 l7
  refine (HP2.out _ HS5.out.2.2.2.2.2.2.2.2).mono ?_
  rintro e1 wX6 ⟨rfl, hb⟩
  obtain ⟨wS6, hwS⟩ : ∃ x, x = wX6.alloc (.cells #[.int .u64 (pl s 0), .int .u64 (pl s 1), .int .u64 (pl s 2), .int .u64 (pl s 3), .int .u64 (pl s 4), .int .u64 (pl s 5), .int .u64 (pl s 6), .int .u64 (pl s 7)] 26) := ⟨_, rfl⟩
  obtain ⟨gN6, hgN⟩ : ∃ x, x = wX6.heap.size := ⟨_, rfl⟩
  have HS6 : Hid (Blk wS6 (w.heap.size) #[.int .i64 mt, .int .i64 md.1, .int .i64 md.2.1, .int .i64 md.2.2] 23 ∧ Blk wS6 (w.heap.size + 1) #[.int .i64 nt, .int .i64 nd.1, .int .i64 nd.2.1, .int .i64 nd.2.2] 23 ∧ Blk wS6 (w.heap.size + 1 + 1) #[.int .u64 (pl s 0), .int .u64 (pl s 1), .int .u64 (pl s 2), .int .u64 (pl s 3), .int .u64 (pl s 4), .int .u64 (pl s 5), .int .u64 (pl s 6), .int .u64 (pl s 7)] 26 ∧ Blk wS6 (gN1) #[.int .i64 at_, .int .i64 ad.1, .int .i64 ad.2.1, .int .i64 ad.2.2] 23 ∧ Blk wS6 (gN2) #[.int .i64 at_, .int .i64 ad.1, .int .i64 ad.2.1, .int .i64 ad.2.2] 23 ∧ Blk wS6 (gN3) #[.int .i64 ct, .int .i64 cd.1, .int .i64 cd.2.1, .int .i64 cd.2.2] 23 ∧ Blk wS6 (gN4) #[.int .i64 ct, .int .i64 cd.1, .int .i64 cd.2.1, .int .i64 cd.2.2] 23 ∧ Blk wS6 (gN5) #[.int .u64 (pl p 0), .int .u64 (pl p 1), .int .u64 (pl p 2), .int .u64 (pl p 3), .int .u64 (pl p 4), .int .u64 (pl p 5), .int .u64 (pl p 6), .int .u64 (pl p 7)] 26 ∧ Blk wS6 (gN6) #[.int .u64 (pl s 0), .int .u64 (pl s 1), .int .u64 (pl s 2), .int .u64 (pl s 3), .int .u64 (pl s 4), .int .u64 (pl s 5), .int .u64 (pl s 6), .int .u64 (pl s 7)] 26 ∧ Below w.heap.size w wS6) := Lib.hid (by
   rw [hwS, hgN]
   exact ⟨(HS5.out.1.grow hb).alloc _, (HS5.out.2.1.grow hb).alloc _, (HS5.out.2.2.1.grow hb).alloc _, (HS5.out.2.2.2.1.grow hb).alloc _, (HS5.out.2.2.2.2.1.grow hb).alloc _, (HS5.out.2.2.2.2.2.1.grow hb).alloc _, (HS5.out.2.2.2.2.2.2.1.grow hb).alloc _, (HS5.out.2.2.2.2.2.2.2.1.grow hb).alloc _, Blk.new _ _ _, bel_alloc (bel_trans HS5.out.2.2.2.2.2.2.2.2 hb) _⟩)
  have HO6 := Lib.hid (And.intro HO5.out (show gN5 < gN6 by rw [hgN]; exact (HS5.out.2.2.2.2.2.2.2.1.grow hb).lt))
  go_upto_region 11 with fail
  rw [← hwS, ← hgN]
  clear hwS hgN hb HS5
  have c1 := HS6.out.2.1.cell; have l1 := HS6.out.2.1.lt
  have c2 := HS6.out.2.2.1.cell; have l2 := HS6.out.2.2.1.lt
  have c7 := HS6.out.2.2.2.2.2.2.2.1.cell; have l7 := HS6.out.2.2.2.2.2.2.2.1.lt
  have c8 := HS6.out.2.2.2.2.2.2.2.2.1.cell; have l8 := HS6.out.2.2.2.2.2.2.2.2.1.lt
  go_wp2_with fail
  clear c1 l1 c2 l2 c7 l7 c8 l8
  refine (HP3.out _ HS6.out.2.2.2.2.2.2.2.2.2).mono ?_
  rintro e1 wX7 ⟨rfl, hb⟩
  obtain ⟨wS7, hwS⟩ : ∃ x, x = wX7.alloc (.cells #[.int .u64 (pl q 0), .int .u64 (pl q 1), .int .u64 (pl q 2), .int .u64 (pl q 3), .int .u64 (pl q 4), .int .u64 (pl q 5), .int .u64 (pl q 6), .int .u64 (pl q 7)] 26) := ⟨_, rfl⟩
  obtain ⟨gN7, hgN⟩ : ∃ x, x = wX7.heap.size := ⟨_, rfl⟩
  have HS7 : Hid (Blk wS7 (w.heap.size) #[.int .i64 mt, .int .i64 md.1, .int .i64 md.2.1, .int .i64 md.2.2] 23 ∧ Blk wS7 (w.heap.size + 1) #[.int .i64 nt, .int .i64 nd.1, .int .i64 nd.2.1, .int .i64 nd.2.2] 23 ∧ Blk wS7 (w.heap.size + 1 + 1) #[.int .u64 (pl s 0), .int .u64 (pl s 1), .int .u64 (pl s 2), .int .u64 (pl s 3), .int .u64 (pl s 4), .int .u64 (pl s 5), .int .u64 (pl s 6), .int .u64 (pl s 7)] 26 ∧ Blk wS7 (gN1) #[.int .i64 at_, .int .i64 ad.1, .int .i64 ad.2.1, .int .i64 ad.2.2] 23 ∧ Blk wS7 (gN2) #[.int .i64 at_, .int .i64 ad.1, .int .i64 ad.2.1, .int .i64 ad.2.2] 23 ∧ Blk wS7 (gN3) #[.int .i64 ct, .int .i64 cd.1, .int .i64 cd.2.1, .int .i64 cd.2.2] 23 ∧ Blk wS7 (gN4) #[.int .i64 ct, .int .i64 cd.1, .int .i64 cd.2.1, .int .i64 cd.2.2] 23 ∧ Blk wS7 (gN5) #[.int .u64 (pl p 0), .int .u64 (pl p 1), .int .u64 (pl p 2), .int .u64 (pl p 3), .int .u64 (pl p 4), .int .u64 (pl p 5), .int .u64 (pl p 6), .int .u64 (pl p 7)] 26 ∧ Blk wS7 (gN6) #[.int .u64 (pl s 0), .int .u64 (pl s 1), .int .u64 (pl s 2), .int .u64 (pl s 3), .int .u64 (pl s 4), .int .u64 (pl s 5), .int .u64 (pl s 6), .int .u64 (pl s 7)] 26 ∧ Blk wS7 (gN7) #[.int .u64 (pl q 0), .int .u64 (pl q 1), .int .u64 (pl q 2), .int .u64 (pl q 3), .int .u64 (pl q 4), .int .u64 (pl q 5), .int .u64 (pl q 6), .int .u64 (pl q 7)] 26 ∧ Below w.heap.size w wS7) := Lib.hid (by
   rw [hwS, hgN]
   exact ⟨(HS6.out.1.grow hb).alloc _, (HS6.out.2.1.grow hb).alloc _, (HS6.out.2.2.1.grow hb).alloc _, (HS6.out.2.2.2.1.grow hb).alloc _, (HS6.out.2.2.2.2.1.grow hb).alloc _, (HS6.out.2.2.2.2.2.1.grow hb).alloc _, (HS6.out.2.2.2.2.2.2.1.grow hb).alloc _, (HS6.out.2.2.2.2.2.2.2.1.grow hb).alloc _, (HS6.out.2.2.2.2.2.2.2.2.1.grow hb).alloc _, Blk.new _ _ _, bel_alloc (bel_trans HS6.out.2.2.2.2.2.2.2.2.2 hb) _⟩)
  have HO7 := Lib.hid (And.intro HO6.out (show gN6 < gN7 by rw [hgN]; exact (HS6.out.2.2.2.2.2.2.2.2.1.grow hb).lt))
  go_upto_region 14 with fail
  rw [← hwS, ← hgN]
  clear hwS hgN hb HS6
  by_cases hk0 : k = 0
  ·by_cases he0 : e = 0
   ·have htl := HTL.out (by trivial) hk0 he0
    rw [htl] at HP4
    subst hk0
    subst he0
    clear htl
    have c2 := HS7.out.2.2.1.cell; have l2 := HS7.out.2.2.1.lt
    have c3 := HS7.out.2.2.2.1.cell; have l3 := HS7.out.2.2.2.1.lt
    go_wp2_with fail
    clear c2 l2 c3 l3
    refine (HP4.out _ HS7.out.2.2.2.2.2.2.2.2.2.2).mono ?_
    rintro e1 wX8 ⟨rfl, hb⟩
    obtain ⟨wS8, hwS⟩ : ∃ x, x = wX8.alloc (.cells #[.int .u64 (pl q 0), .int .u64 (pl q 1), .int .u64 (pl q 2), .int .u64 (pl q 3), .int .u64 (pl q 4), .int .u64 (pl q 5), .int .u64 (pl q 6), .int .u64 (pl q 7)] 26) := ⟨_, rfl⟩
    obtain ⟨gN8, hgN⟩ : ∃ x, x = wX8.heap.size := ⟨_, rfl⟩
    have HS8 : Hid (Blk wS8 (w.heap.size) #[.int .i64 mt, .int .i64 md.1, .int .i64 md.2.1, .int .i64 md.2.2] 23 ∧ Blk wS8 (w.heap.size + 1) #[.int .i64 nt, .int .i64 nd.1, .int .i64 nd.2.1, .int .i64 nd.2.2] 23 ∧ Blk wS8 (w.heap.size + 1 + 1) #[.int .u64 (pl s 0), .int .u64 (pl s 1), .int .u64 (pl s 2), .int .u64 (pl s 3), .int .u64 (pl s 4), .int .u64 (pl s 5), .int .u64 (pl s 6), .int .u64 (pl s 7)] 26 ∧ Blk wS8 (gN1) #[.int .i64 at_, .int .i64 ad.1, .int .i64 ad.2.1, .int .i64 ad.2.2] 23 ∧ Blk wS8 (gN2) #[.int .i64 at_, .int .i64 ad.1, .int .i64 ad.2.1, .int .i64 ad.2.2] 23 ∧ Blk wS8 (gN3) #[.int .i64 ct, .int .i64 cd.1, .int .i64 cd.2.1, .int .i64 cd.2.2] 23 ∧ Blk wS8 (gN4) #[.int .i64 ct, .int .i64 cd.1, .int .i64 cd.2.1, .int .i64 cd.2.2] 23 ∧ Blk wS8 (gN5) #[.int .u64 (pl p 0), .int .u64 (pl p 1), .int .u64 (pl p 2), .int .u64 (pl p 3), .int .u64 (pl p 4), .int .u64 (pl p 5), .int .u64 (pl p 6), .int .u64 (pl p 7)] 26 ∧ Blk wS8 (gN6) #[.int .u64 (pl s 0), .int .u64 (pl s 1), .int .u64 (pl s 2), .int .u64 (pl s 3), .int .u64 (pl s 4), .int .u64 (pl s 5), .int .u64 (pl s 6), .int .u64 (pl s 7)] 26 ∧ Blk wS8 (gN7) #[.int .u64 (pl q 0), .int .u64 (pl q 1), .int .u64 (pl q 2), .int .u64 (pl q 3), .int .u64 (pl q 4), .int .u64 (pl q 5), .int .u64 (pl q 6), .int .u64 (pl q 7)] 26 ∧ Blk wS8 (gN8) #[.int .u64 (pl q 0), .int .u64 (pl q 1), .int .u64 (pl q 2), .int .u64 (pl q 3), .int .u64 (pl q 4), .int .u64 (pl q 5), .int .u64 (pl q 6), .int .u64 (pl q 7)] 26 ∧ Below w.heap.size w wS8) := Lib.hid (by
     rw [hwS, hgN]
     exact ⟨(HS7.out.1.grow hb).alloc _, (HS7.out.2.1.grow hb).alloc _, (HS7.out.2.2.1.grow hb).alloc _, (HS7.out.2.2.2.1.grow hb).alloc _, (HS7.out.2.2.2.2.1.grow hb).alloc _, (HS7.out.2.2.2.2.2.1.grow hb).alloc _, (HS7.out.2.2.2.2.2.2.1.grow hb).alloc _, (HS7.out.2.2.2.2.2.2.2.1.grow hb).alloc _, (HS7.out.2.2.2.2.2.2.2.2.1.grow hb).alloc _, (HS7.out.2.2.2.2.2.2.2.2.2.1.grow hb).alloc _, Blk.new _ _ _, bel_alloc (bel_trans HS7.out.2.2.2.2.2.2.2.2.2.2 hb) _⟩)
    have HO8 := Lib.hid (And.intro HO7.out (show gN7 < gN8 by rw [hgN]; exact (HS7.out.2.2.2.2.2.2.2.2.2.1.grow hb).lt))
    go_upto_region 17 with fail
    rw [← hwS, ← hgN]
    clear hwS hgN hb HS7
    go_wp2_with fail
    refine (HC.out _ HS8.out.2.2.2.2.2.2.2.2.2.2.2).mono ?_
    rintro e1 w90 ⟨rfl, hb⟩
    have HE90 := Lib.hid (bel_trans HS8.out.2.2.2.2.2.2.2.2.2.2.2 hb)
    have c9 := (HS8.out.2.2.2.2.2.2.2.2.2.1.grow hb).cell; have l9 := (HS8.out.2.2.2.2.2.2.2.2.2.1.grow hb).lt
    have c10 := (HS8.out.2.2.2.2.2.2.2.2.2.2.1.grow hb).cell; have l10 := (HS8.out.2.2.2.2.2.2.2.2.2.2.1.grow hb).lt
    clear hb
    go_wp2_with fail
    go_ret
    exact ⟨rfl, HE90.out⟩
   ·go_wp2_with fail
    refine (HC.out _ HS7.out.2.2.2.2.2.2.2.2.2.2).mono ?_
    rintro e1 w90 ⟨rfl, hb⟩
    have HE90 := Lib.hid (bel_trans HS7.out.2.2.2.2.2.2.2.2.2.2 hb)
    clear hb
    go_wp2_with fail
    go_ret
    exact ⟨rfl, HE90.out⟩
  ·go_wp2_with fail
   refine (HC.out _ HS7.out.2.2.2.2.2.2.2.2.2.2).mono ?_
   rintro e1 w90 ⟨rfl, hb⟩
   have HE90 := Lib.hid (bel_trans HS7.out.2.2.2.2.2.2.2.2.2.2 hb)
   clear hb
   go_wp2_with fail
   go_ret
   exact ⟨rfl, HE90.out⟩
 ·go_wp2_with fail
  refine (HC.out _ HS5.out.2.2.2.2.2.2.2.2).mono ?_
  rintro e1 w90 ⟨rfl, hb⟩
  have HE90 := Lib.hid (bel_trans HS5.out.2.2.2.2.2.2.2.2 hb)
  clear hb
  go_wp2_with fail
  go_ret
  exact ⟨rfl, HE90.out⟩
end Go.Proofs.YtkfimbonmnoglaaGreatDoor
end
