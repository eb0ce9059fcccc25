import Derived.Test.YtkfimbonmnoglaaGreatDoorRBoxes29
import Derived.Test.YtkfimbonmnoglaaGreatDoorRBoxes30
import Derived.Deep.Cut
/-
  Given contracts of functions of the program, and laws for them, one behind the other.
-/
set_option linter.unusedVariables false
set_option linter.unusedSimpArgs false
set_option linter.unusedSectionVars false
section
namespace Go.Proofs.YtkfimbonmnoglaaGreatDoor
open Go.RowKit Go.Rel Go.Draw Go.Solid
set_option maxRecDepth 100000
attribute [local go_sem] Oper.semAt_some
attribute [local irreducible] bndM blockM
set_option maxHeartbeats 16000000 in
theorem SolidBoxes_walk (s : Sol) (l h : Cl) (w : World) (hT : Tab w) (hC : ∀ W, Below w.heap.size w W → Calls Tryz.prog 25 #[] W fun e w' => e = .returned (.bool true) ∧ Below W.heap.size W w') :
  Calls Tryz.prog 15 #[solV s, boxV l h] w fun e w' => e = .returned (.bool true) ∧ Below w.heap.size w w' := by
 have HT := Lib.hid (fun W (hb : Below w.heap.size w W) => hT.grow hb)
 have HC := Lib.hid hC
 clear hT hC
 have HB1 := Lib.hid fun W (hb : Below w.heap.size w W) => bounds_n s W (HT.out W hb)
 have HB2 := Lib.hid fun W (hb : Below w.heap.size w W) => refBounds_n s W
 have HK1 := Lib.hid fun W (hb : Below w.heap.size w W) => block_n l h W
 have HK2 := Lib.hid fun W (hb : Below w.heap.size w W) => refBlock_n l h W
 obtain ⟨bl, bh, is, hfe⟩ : ∃ bl bh is, bndM s = ((bl, bh), is) := ⟨_, _, _, rfl⟩
 rw [hfe] at HB1 HB2
 obtain ⟨p, e, hpe⟩ : ∃ p e, blockM l h = (p, e) := ⟨_, _, rfl⟩
 rw [hpe] at HK1 HK2
 clear hfe hpe
 go_enter Tryz.func15, Tryz.ntmps15
 go_wp2_with fail
 obtain ⟨wS0, hwS⟩ : ∃ x, x = (w.alloc (.cells #[.int .u64 (pl s 0), .int .u64 (pl s 1), .int .u64 (pl s 2), .int .u64 (pl s 3), .int .u64 (pl s 4), .int .u64 (pl s 5), .int .u64 (pl s 6), .int .u64 (pl s 7)] 26)).alloc (.cells #[.int .i64 l.1, .int .i64 l.2.1, .int .i64 l.2.2, .int .i64 h.1, .int .i64 h.2.1, .int .i64 h.2.2] 62) := ⟨_, rfl⟩
 have HS0 : Hid (Blk wS0 (w.heap.size) #[.int .u64 (pl s 0), .int .u64 (pl s 1), .int .u64 (pl s 2), .int .u64 (pl s 3), .int .u64 (pl s 4), .int .u64 (pl s 5), .int .u64 (pl s 6), .int .u64 (pl s 7)] 26 ∧ Blk wS0 (w.heap.size + 1) #[.int .i64 l.1, .int .i64 l.2.1, .int .i64 l.2.2, .int .i64 h.1, .int .i64 h.2.1, .int .i64 h.2.2] 62 ∧ Below w.heap.size w wS0) := Lib.hid (by rw [hwS]; exact ⟨(by repeat (first | with_reducible assumption | (refine Blk.at _ _ ?_; (simp; done)) | with_reducible refine Blk.alloc ?_ _ | with_reducible refine Blk.drew ?_ | with_reducible refine Blk.rowS ?_ _ | with_reducible refine Blk.rowO ?_ _ (by simp))), Blk.at _ _ (by simp), (by repeat (first | with_reducible exact bel_refl _ | with_reducible assumption | with_reducible refine bel_drewN ?_ _ | with_reducible refine bel_drew ?_ | with_reducible refine bel_alloc ?_ _ | with_reducible refine bel_row ?_ ?_ _ | with_reducible refine bel_set ?_ ?_ _ | refine bel_trans ?_ (by with_reducible assumption) | (simp; done) | (simp; omega)))⟩)
 have HO0 : Hid True := Lib.hid trivial
 rw [← hwS]
 clear hwS
 refine (HB1.out _ HS0.out.2.2).mono ?_
 rintro e1 wX1 ⟨rfl, hb⟩
 obtain ⟨wS1, hwS⟩ : ∃ x, x = wX1.alloc (.cells #[.int .i64 bl.1, .int .i64 bl.2.1, .int .i64 bl.2.2, .int .i64 bh.1, .int .i64 bh.2.1, .int .i64 bh.2.2] 62) := ⟨_, rfl⟩
 obtain ⟨gN1, hgN⟩ : ∃ x, x = wX1.heap.size := ⟨_, rfl⟩
 have HS1 : Hid (Blk wS1 (w.heap.size) #[.int .u64 (pl s 0), .int .u64 (pl s 1), .int .u64 (pl s 2), .int .u64 (pl s 3), .int .u64 (pl s 4), .int .u64 (pl s 5), .int .u64 (pl s 6), .int .u64 (pl s 7)] 26 ∧ Blk wS1 (w.heap.size + 1) #[.int .i64 l.1, .int .i64 l.2.1, .int .i64 l.2.2, .int .i64 h.1, .int .i64 h.2.1, .int .i64 h.2.2] 62 ∧ Blk wS1 (gN1) #[.int .i64 bl.1, .int .i64 bl.2.1, .int .i64 bl.2.2, .int .i64 bh.1, .int .i64 bh.2.1, .int .i64 bh.2.2] 62 ∧ Below w.heap.size w wS1) := Lib.hid (by
  rw [hwS, hgN]
  exact ⟨(HS0.out.1.grow hb).alloc _, (HS0.out.2.1.grow hb).alloc _, Blk.new _ _ _, bel_alloc (bel_trans HS0.out.2.2 hb) _⟩)
 have HO1 := Lib.hid (And.intro HO0.out (show w.heap.size + 1 < gN1 by rw [hgN]; exact (HS0.out.2.1.grow hb).lt))
 go_upto_region 2 with fail
 rw [← hwS, ← hgN]
 clear hwS hgN hb HS0
 have c0 := HS1.out.1.cell; have l0 := HS1.out.1.lt
 go_wp2_with fail
 clear c0 l0
 refine (HB2.out _ HS1.out.2.2.2).mono ?_
 rintro e1 wX2 ⟨rfl, hb⟩
 obtain ⟨wS2, hwS⟩ : ∃ x, x = wX2.alloc (.cells #[.int .i64 bl.1, .int .i64 bl.2.1, .int .i64 bl.2.2, .int .i64 bh.1, .int .i64 bh.2.1, .int .i64 bh.2.2] 62) := ⟨_, rfl⟩
 obtain ⟨gN2, hgN⟩ : ∃ x, x = wX2.heap.size := ⟨_, rfl⟩
 have HS2 : Hid (Blk wS2 (w.heap.size) #[.int .u64 (pl s 0), .int .u64 (pl s 1), .int .u64 (pl s 2), .int .u64 (pl s 3), .int .u64 (pl s 4), .int .u64 (pl s 5), .int .u64 (pl s 6), .int .u64 (pl s 7)] 26 ∧ Blk wS2 (w.heap.size + 1) #[.int .i64 l.1, .int .i64 l.2.1, .int .i64 l.2.2, .int .i64 h.1, .int .i64 h.2.1, .int .i64 h.2.2] 62 ∧ Blk wS2 (gN1) #[.int .i64 bl.1, .int .i64 bl.2.1, .int .i64 bl.2.2, .int .i64 bh.1, .int .i64 bh.2.1, .int .i64 bh.2.2] 62 ∧ Blk wS2 (gN2) #[.int .i64 bl.1, .int .i64 bl.2.1, .int .i64 bl.2.2, .int .i64 bh.1, .int .i64 bh.2.1, .int .i64 bh.2.2] 62 ∧ Below w.heap.size w wS2) := Lib.hid (by
  rw [hwS, hgN]
  exact ⟨(HS1.out.1.grow hb).alloc _, (HS1.out.2.1.grow hb).alloc _, (HS1.out.2.2.1.grow hb).alloc _, Blk.new _ _ _, bel_alloc (bel_trans HS1.out.2.2.2 hb) _⟩)
 have HO2 := Lib.hid (And.intro HO1.out (show gN1 < gN2 by rw [hgN]; exact (HS1.out.2.2.1.grow hb).lt))
 go_upto_region 3 with fail
 rw [← hwS, ← hgN]
 clear hwS hgN hb HS1
 have c1 := HS2.out.2.1.cell; have l1 := HS2.out.2.1.lt
 go_wp2_with fail
 clear c1 l1
 refine (HK1.out _ HS2.out.2.2.2.2).mono ?_
 rintro e1 wX3 ⟨rfl, hb⟩
 obtain ⟨wS3, hwS⟩ : ∃ x, x = wX3.alloc (.cells #[.int .u64 (pl p 0), .int .u64 (pl p 1), .int .u64 (pl p 2), .int .u64 (pl p 3), .int .u64 (pl p 4), .int .u64 (pl p 5), .int .u64 (pl p 6), .int .u64 (pl p 7)] 26) := ⟨_, rfl⟩
 obtain ⟨gN3, hgN⟩ : ∃ x, x = wX3.heap.size := ⟨_, rfl⟩
 have HS3 : Hid (Blk wS3 (w.heap.size) #[.int .u64 (pl s 0), .int .u64 (pl s 1), .int .u64 (pl s 2), .int .u64 (pl s 3), .int .u64 (pl s 4), .int .u64 (pl s 5), .int .u64 (pl s 6), .int .u64 (pl s 7)] 26 ∧ Blk wS3 (w.heap.size + 1) #[.int .i64 l.1, .int .i64 l.2.1, .int .i64 l.2.2, .int .i64 h.1, .int .i64 h.2.1, .int .i64 h.2.2] 62 ∧ Blk wS3 (gN1) #[.int .i64 bl.1, .int .i64 bl.2.1, .int .i64 bl.2.2, .int .i64 bh.1, .int .i64 bh.2.1, .int .i64 bh.2.2] 62 ∧ Blk wS3 (gN2) #[.int .i64 bl.1, .int .i64 bl.2.1, .int .i64 bl.2.2, .int .i64 bh.1, .int .i64 bh.2.1, .int .i64 bh.2.2] 62 ∧ Blk wS3 (gN3) #[.int .u64 (pl p 0), .int .u64 (pl p 1), .int .u64 (pl p 2), .int .u64 (pl p 3), .int .u64 (pl p 4), .int .u64 (pl p 5), .int .u64 (pl p 6), .int .u64 (pl p 7)] 26 ∧ Below w.heap.size w wS3) := Lib.hid (by
  rw [hwS, hgN]
  exact ⟨(HS2.out.1.grow hb).alloc _, (HS2.out.2.1.grow hb).alloc _, (HS2.out.2.2.1.grow hb).alloc _, (HS2.out.2.2.2.1.grow hb).alloc _, Blk.new _ _ _, bel_alloc (bel_trans HS2.out.2.2.2.2 hb) _⟩)
 have HO3 := Lib.hid (And.intro HO2.out (show gN2 < gN3 by rw [hgN]; exact (HS2.out.2.2.2.1.grow hb).lt))
 go_upto_region 4 with fail
 rw [← hwS, ← hgN]
 clear hwS hgN hb HS2
 have c1 := HS3.out.2.1.cell; have l1 := HS3.out.2.1.lt
 go_wp2_with fail
 clear c1 l1
 refine (HK2.out _ HS3.out.2.2.2.2.2).mono ?_
 rintro e1 wX4 ⟨rfl, hb⟩
 obtain ⟨wS4, hwS⟩ : ∃ x, x = wX4.alloc (.cells #[.int .u64 (pl p 0), .int .u64 (pl p 1), .int .u64 (pl p 2), .int .u64 (pl p 3), .int .u64 (pl p 4), .int .u64 (pl p 5), .int .u64 (pl p 6), .int .u64 (pl p 7)] 26) := ⟨_, rfl⟩
 obtain ⟨gN4, hgN⟩ : ∃ x, x = wX4.heap.size := ⟨_, rfl⟩
 have HS4 : Hid (Blk wS4 (w.heap.size) #[.int .u64 (pl s 0), .int .u64 (pl s 1), .int .u64 (pl s 2), .int .u64 (pl s 3), .int .u64 (pl s 4), .int .u64 (pl s 5), .int .u64 (pl s 6), .int .u64 (pl s 7)] 26 ∧ Blk wS4 (w.heap.size + 1) #[.int .i64 l.1, .int .i64 l.2.1, .int .i64 l.2.2, .int .i64 h.1, .int .i64 h.2.1, .int .i64 h.2.2] 62 ∧ Blk wS4 (gN1) #[.int .i64 bl.1, .int .i64 bl.2.1, .int .i64 bl.2.2, .int .i64 bh.1, .int .i64 bh.2.1, .int .i64 bh.2.2] 62 ∧ Blk wS4 (gN2) #[.int .i64 bl.1, .int .i64 bl.2.1, .int .i64 bl.2.2, .int .i64 bh.1, .int .i64 bh.2.1, .int .i64 bh.2.2] 62 ∧ Blk wS4 (gN3) #[.int .u64 (pl p 0), .int .u64 (pl p 1), .int .u64 (pl p 2), .int .u64 (pl p 3), .int .u64 (pl p 4), .int .u64 (pl p 5), .int .u64 (pl p 6), .int .u64 (pl p 7)] 26 ∧ Blk wS4 (gN4) #[.int .u64 (pl p 0), .int .u64 (pl p 1), .int .u64 (pl p 2), .int .u64 (pl p 3), .int .u64 (pl p 4), .int .u64 (pl p 5), .int .u64 (pl p 6), .int .u64 (pl p 7)] 26 ∧ Below w.heap.size w wS4) := Lib.hid (by
  rw [hwS, hgN]
  exact ⟨(HS3.out.1.grow hb).alloc _, (HS3.out.2.1.grow hb).alloc _, (HS3.out.2.2.1.grow hb).alloc _, (HS3.out.2.2.2.1.grow hb).alloc _, (HS3.out.2.2.2.2.1.grow hb).alloc _, Blk.new _ _ _, bel_alloc (bel_trans HS3.out.2.2.2.2.2 hb) _⟩)
 have HO4 := Lib.hid (And.intro HO3.out (show gN3 < gN4 by rw [hgN]; exact (HS3.out.2.2.2.2.1.grow hb).lt))
 go_upto_region 5 with fail
 rw [← hwS, ← hgN]
 clear hwS hgN hb HS3
 go_wp2_with fail
 refine (HC.out _ HS4.out.2.2.2.2.2.2).mono ?_
 rintro e1 w90 ⟨rfl, hb⟩
 have HE90 := Lib.hid (bel_trans HS4.out.2.2.2.2.2.2 hb)
 have c2 := (HS4.out.2.2.1.grow hb).cell; have l2 := (HS4.out.2.2.1.grow hb).lt
 have c3 := (HS4.out.2.2.2.1.grow hb).cell; have l3 := (HS4.out.2.2.2.1.grow hb).lt
 have c4 := (HS4.out.2.2.2.2.1.grow hb).cell; have l4 := (HS4.out.2.2.2.2.1.grow hb).lt
 have c5 := (HS4.out.2.2.2.2.2.1.grow hb).cell; have l5 := (HS4.out.2.2.2.2.2.1.grow hb).lt
 clear hb
 go_wp2_with fail
 go_ret
 exact ⟨rfl, HE90.out⟩
end Go.Proofs.YtkfimbonmnoglaaGreatDoor
end
