import Derived.Test.YtkfimbonmnoglaaGreatDoorRFits33
import Derived.Deep.Cut
/-
  Given contracts of functions of the program, and laws for them, one behind the other.
-/
set_option linter.unusedVariables false
set_option linter.unusedSimpArgs false
set_option linter.unusedSectionVars false
section
namespace Go.Proofs.YtkfimbonmnoglaaGreatDoor
open Go.RowKit Go.Rel Go.Draw Go.Solid
set_option maxRecDepth 100000
attribute [local go_sem] Oper.semAt_some
attribute [local irreducible] fitsMo chkM
set_option maxHeartbeats 16000000 in
theorem SolidFits_walk (a b : Sol) (tt : Int) (d : Cl) (w : World) (hT : Tab w) (hC : ∀ W, Below w.heap.size w W → Calls Tryz.prog 25 #[] W fun e w' => e = .returned (.bool true) ∧ Below W.heap.size W w') :
  Calls Tryz.prog 9 #[solV a, solV b, motV tt d] w fun e w' => e = .returned (.bool true) ∧ Below w.heap.size w w' := by
 have HT := Lib.hid (fun W (hb : Below w.heap.size w W) => hT.grow hb)
 have HC := Lib.hid hC
 clear hT hC
 have HF1 := Lib.hid fun W (hb : Below w.heap.size w W) => fits_n a b W (HT.out W hb)
 have HF2 := Lib.hid fun W (hb : Below w.heap.size w W) => refFits_n a b W
 have HC1 := Lib.hid fun W (hb : Below w.heap.size w W) => checkFit_n a b tt d W (HT.out W hb)
 have HC2 := Lib.hid fun W (hb : Below w.heap.size w W) => refCheckFit_n a b tt d W
 obtain ⟨mt, md, is, hfe⟩ : ∃ mt md is, fitsMo a b = ((mt, md), is) := ⟨_, _, _, rfl⟩
 rw [hfe] at HF1 HF2
 obtain ⟨ck, hck⟩ : ∃ c, c = chkM a b tt d := ⟨_, rfl⟩
 rw [← hck] at HC1 HC2
 clear hfe hck
 go_enter Tryz.func9, Tryz.ntmps9
 go_wp2_with fail
 obtain ⟨wS0, hwS⟩ : ∃ x, x = ((w.alloc (.cells #[.int .u64 (pl a 0), .int .u64 (pl a 1), .int .u64 (pl a 2), .int .u64 (pl a 3), .int .u64 (pl a 4), .int .u64 (pl a 5), .int .u64 (pl a 6), .int .u64 (pl a 7)] 26)).alloc (.cells #[.int .u64 (pl b 0), .int .u64 (pl b 1), .int .u64 (pl b 2), .int .u64 (pl b 3), .int .u64 (pl b 4), .int .u64 (pl b 5), .int .u64 (pl b 6), .int .u64 (pl b 7)] 26)).alloc (.cells #[.int .i64 tt, .int .i64 d.1, .int .i64 d.2.1, .int .i64 d.2.2] 23) := ⟨_, rfl⟩
 have HS0 : Hid (Blk wS0 (w.heap.size) #[.int .u64 (pl a 0), .int .u64 (pl a 1), .int .u64 (pl a 2), .int .u64 (pl a 3), .int .u64 (pl a 4), .int .u64 (pl a 5), .int .u64 (pl a 6), .int .u64 (pl a 7)] 26 ∧ Blk wS0 (w.heap.size + 1) #[.int .u64 (pl b 0), .int .u64 (pl b 1), .int .u64 (pl b 2), .int .u64 (pl b 3), .int .u64 (pl b 4), .int .u64 (pl b 5), .int .u64 (pl b 6), .int .u64 (pl b 7)] 26 ∧ Blk wS0 (w.heap.size + 1 + 1) #[.int .i64 tt, .int .i64 d.1, .int .i64 d.2.1, .int .i64 d.2.2] 23 ∧ Below w.heap.size w wS0) := Lib.hid (by rw [hwS]; exact ⟨(by repeat (first | with_reducible assumption | (refine Blk.at _ _ ?_; (simp; done)) | with_reducible refine Blk.alloc ?_ _ | with_reducible refine Blk.drew ?_ | with_reducible refine Blk.rowS ?_ _ | with_reducible refine Blk.rowO ?_ _ (by simp))), (by repeat (first | with_reducible assumption | (refine Blk.at _ _ ?_; (simp; done)) | with_reducible refine Blk.alloc ?_ _ | with_reducible refine Blk.drew ?_ | with_reducible refine Blk.rowS ?_ _ | with_reducible refine Blk.rowO ?_ _ (by simp))), Blk.at _ _ (by simp), (by repeat (first | with_reducible exact bel_refl _ | with_reducible assumption | with_reducible refine bel_drewN ?_ _ | with_reducible refine bel_drew ?_ | with_reducible refine bel_alloc ?_ _ | with_reducible refine bel_row ?_ ?_ _ | with_reducible refine bel_set ?_ ?_ _ | refine bel_trans ?_ (by with_reducible assumption) | (simp; done) | (simp; omega)))⟩)
 have HO0 : Hid True := Lib.hid trivial
 rw [← hwS]
 clear hwS
 refine (HF1.out _ HS0.out.2.2.2).mono ?_
 rintro e1 wX1 ⟨rfl, hb⟩
 obtain ⟨wS1, hwS⟩ : ∃ x, x = wX1.alloc (.cells #[.int .i64 mt, .int .i64 md.1, .int .i64 md.2.1, .int .i64 md.2.2] 23) := ⟨_, rfl⟩
 obtain ⟨gN1, hgN⟩ : ∃ x, x = wX1.heap.size := ⟨_, rfl⟩
 have HS1 : Hid (Blk wS1 (w.heap.size) #[.int .u64 (pl a 0), .int .u64 (pl a 1), .int .u64 (pl a 2), .int .u64 (pl a 3), .int .u64 (pl a 4), .int .u64 (pl a 5), .int .u64 (pl a 6), .int .u64 (pl a 7)] 26 ∧ Blk wS1 (w.heap.size + 1) #[.int .u64 (pl b 0), .int .u64 (pl b 1), .int .u64 (pl b 2), .int .u64 (pl b 3), .int .u64 (pl b 4), .int .u64 (pl b 5), .int .u64 (pl b 6), .int .u64 (pl b 7)] 26 ∧ Blk wS1 (w.heap.size + 1 + 1) #[.int .i64 tt, .int .i64 d.1, .int .i64 d.2.1, .int .i64 d.2.2] 23 ∧ Blk wS1 (gN1) #[.int .i64 mt, .int .i64 md.1, .int .i64 md.2.1, .int .i64 md.2.2] 23 ∧ Below w.heap.size w wS1) := Lib.hid (by
  rw [hwS, hgN]
  exact ⟨(HS0.out.1.grow hb).alloc _, (HS0.out.2.1.grow hb).alloc _, (HS0.out.2.2.1.grow hb).alloc _, Blk.new _ _ _, bel_alloc (bel_trans HS0.out.2.2.2 hb) _⟩)
 have HO1 := Lib.hid (And.intro HO0.out (show w.heap.size + 1 + 1 < gN1 by rw [hgN]; exact (HS0.out.2.2.1.grow hb).lt))
 go_upto_region 2 with fail
 rw [← hwS, ← hgN]
 clear hwS hgN hb HS0
 have c0 := HS1.out.1.cell; have l0 := HS1.out.1.lt
 have c1 := HS1.out.2.1.cell; have l1 := HS1.out.2.1.lt
 go_wp2_with fail
 clear c0 l0 c1 l1
 refine (HF2.out _ HS1.out.2.2.2.2).mono ?_
 rintro e1 wX2 ⟨rfl, hb⟩
 obtain ⟨wS2, hwS⟩ : ∃ x, x = wX2.alloc (.cells #[.int .i64 mt, .int .i64 md.1, .int .i64 md.2.1, .int .i64 md.2.2] 23) := ⟨_, rfl⟩
 obtain ⟨gN2, hgN⟩ : ∃ x, x = wX2.heap.size := ⟨_, rfl⟩
 have HS2 : Hid (Blk wS2 (w.heap.size) #[.int .u64 (pl a 0), .int .u64 (pl a 1), .int .u64 (pl a 2), .int .u64 (pl a 3), .int .u64 (pl a 4), .int .u64 (pl a 5), .int .u64 (pl a 6), .int .u64 (pl a 7)] 26 ∧ Blk wS2 (w.heap.size + 1) #[.int .u64 (pl b 0), .int .u64 (pl b 1), .int .u64 (pl b 2), .int .u64 (pl b 3), .int .u64 (pl b 4), .int .u64 (pl b 5), .int .u64 (pl b 6), .int .u64 (pl b 7)] 26 ∧ Blk wS2 (w.heap.size + 1 + 1) #[.int .i64 tt, .int .i64 d.1, .int .i64 d.2.1, .int .i64 d.2.2] 23 ∧ Blk wS2 (gN1) #[.int .i64 mt, .int .i64 md.1, .int .i64 md.2.1, .int .i64 md.2.2] 23 ∧ Blk wS2 (gN2) #[.int .i64 mt, .int .i64 md.1, .int .i64 md.2.1, .int .i64 md.2.2] 23 ∧ Below w.heap.size w wS2) := Lib.hid (by
  rw [hwS, hgN]
  exact ⟨(HS1.out.1.grow hb).alloc _, (HS1.out.2.1.grow hb).alloc _, (HS1.out.2.2.1.grow hb).alloc _, (HS1.out.2.2.2.1.grow hb).alloc _, Blk.new _ _ _, bel_alloc (bel_trans HS1.out.2.2.2.2 hb) _⟩)
 have HO2 := Lib.hid (And.intro HO1.out (show gN1 < gN2 by rw [hgN]; exact (HS1.out.2.2.2.1.grow hb).lt))
 go_upto_region 3 with fail
 rw [← hwS, ← hgN]
 clear hwS hgN hb HS1
 refine wp_region_val Grows (fun _ _ _ => True) [Is (.bool true), Is (.bool true), Is (motV mt md), Is (motV mt md), Is (.bool true), Is (.bool true), Is (.bool true), Is (.bool is), Is (.bool is), Is (.bool true), Is (.bool true), Is (.bool true), Is (solV a), Is (solV b), Is (motV tt d), Is (.bool ck), Is (solV a), Is (solV b), Is (motV tt d), Is (.bool ck), Is (.bool true), Is (.bool true), Is (.bool true)] (by kernel_rfl) (by kernel_rfl) rfl Grows.refl (fun _ _ _ => Grows.trans) (stable_mem ⟨fun _ _ _ h _ => h, fun _ _ _ h _ => h, fun _ _ _ h _ => h, fun _ _ _ h _ => h, fun _ _ _ h _ => h, fun _ _ _ h _ => h, fun _ _ _ h _ => h, fun _ _ _ h _ => h, fun _ _ _ h _ => h, fun _ _ _ h _ => h, fun _ _ _ h _ => h, fun _ _ _ h _ => h, fun _ _ _ h _ => h, fun _ _ _ h _ => h, fun _ _ _ h _ => h, fun _ _ _ h _ => h, fun _ _ _ h _ => h, fun _ _ _ h _ => h, fun _ _ _ h _ => h, fun _ _ _ h _ => h, fun _ _ _ h _ => h, fun _ _ _ h _ => h, fun _ _ _ h _ => h, trivial⟩) wS2 (Below.drew (Below.refl _ _)) trivial ?_
 refine val_cons ?_ (fun v0 => ?_)
 ·intro L vs w1 hvs hat hb hI hF; try simp [factsI, Region.binds, Is] at hF
  have hb0 := hb
  go_simp
  refine (HC.out _ (bel_trans HS2.out.2.2.2.2.2 (show Below _ _ _ from hb0))).mono ?_
  rintro e w2 ⟨rfl, hb2⟩
  first | exact ⟨rfl, hb2⟩ | exact ⟨_, rfl, hb2, trivial, rfl⟩ | exact ⟨_, rfl, hb2, rfl⟩
 refine val_cons ?_ (fun v1 => ?_)
 ·intro L vs w1 hvs hat hb hI hF; try simp [factsI, Region.binds, Is] at hF
  have hc := (Grows.cells hb).1
  clear hI
  go_simp
  try simp [upd]
  try first | exact Grows.refl _ | exact trivial | exact ⟨Grows.refl _, trivial⟩
 refine val_cons ?_ (fun v2 => ?_)
 ·intro L vs w1 hvs hat hb hI hF; try simp [factsI, Region.binds, Is] at hF
  have D := (HS2.out.2.2.2.1).grow (show Below _ _ _ from hb); have cD := D.cell; have lD := D.lt; clear D
  go_simp
  first | exact Grows.refl _ | exact ⟨Grows.refl _, trivial⟩
 refine val_cons ?_ (fun v3 => ?_)
 ·intro L vs w1 hvs hat hb hI hF; try simp [factsI, Region.binds, Is] at hF
  have D := (HS2.out.2.2.2.2.1).grow (show Below _ _ _ from hb); have cD := D.cell; have lD := D.lt; clear D
  go_simp
  first | exact Grows.refl _ | exact ⟨Grows.refl _, trivial⟩
 refine val_cons ?_ (fun v4 => ?_)
 ·intro L vs w1 hvs hat hb hI hF; try simp [factsI, Region.binds, Is] at hF
  have hc := (Grows.cells hb).1
  clear hI
  go_simp
  try simp [upd]
  try first | exact Grows.refl _ | exact trivial | exact ⟨Grows.refl _, trivial⟩
 refine val_cons ?_ (fun v5 => ?_)
 ·intro L vs w1 hvs hat hb hI hF; try simp [factsI, Region.binds, Is] at hF
  have hc := (Grows.cells hb).1
  clear hI
  go_simp
  try simp [upd]
  try first | exact Grows.refl _ | exact trivial | exact ⟨Grows.refl _, trivial⟩
 refine val_cons ?_ (fun v6 => ?_)
 ·intro L vs w1 hvs hat hb hI hF; try simp [factsI, Region.binds, Is] at hF
  have hc := (Grows.cells hb).1
  clear hI
  go_simp
  try simp [upd]
  try first | exact Grows.refl _ | exact trivial | exact ⟨Grows.refl _, trivial⟩
 refine val_cons ?_ (fun v7 => ?_)
 ·intro L vs w1 hvs hat hb hI hF; try simp [factsI, Region.binds, Is] at hF
  have hc := (Grows.cells hb).1
  clear hI
  go_simp
  try simp [upd]
  try first | exact Grows.refl _ | exact trivial | exact ⟨Grows.refl _, trivial⟩
 refine val_cons ?_ (fun v8 => ?_)
 ·intro L vs w1 hvs hat hb hI hF; try simp [factsI, Region.binds, Is] at hF
  have hc := (Grows.cells hb).1
  clear hI
  go_simp
  try simp [upd]
  try first | exact Grows.refl _ | exact trivial | exact ⟨Grows.refl _, trivial⟩
 refine val_cons ?_ (fun v9 => ?_)
 ·intro L vs w1 hvs hat hb hI hF; try simp [factsI, Region.binds, Is] at hF
  have hc := (Grows.cells hb).1
  clear hI
  go_simp
  try simp [upd]
  try first | exact Grows.refl _ | exact trivial | exact ⟨Grows.refl _, trivial⟩
 refine val_cons ?_ (fun v10 => ?_)
 ·intro L vs w1 hvs hat hb hI hF; try simp [factsI, Region.binds, Is] at hF
  have hc := (Grows.cells hb).1
  clear hI
  go_simp
  try simp [upd]
  try first | exact Grows.refl _ | exact trivial | exact ⟨Grows.refl _, trivial⟩
 refine val_cons ?_ (fun v11 => ?_)
 ·intro L vs w1 hvs hat hb hI hF; try simp [factsI, Region.binds, Is] at hF
  have hc := (Grows.cells hb).1
  clear hI
  go_simp
  try simp [upd]
  try first | exact Grows.refl _ | exact trivial | exact ⟨Grows.refl _, trivial⟩
 refine val_cons ?_ (fun v12 => ?_)
 ·intro L vs w1 hvs hat hb hI hF; try simp [factsI, Region.binds, Is] at hF
  have D := (HS2.out.1).grow (show Below _ _ _ from hb); have cD := D.cell; have lD := D.lt; clear D
  go_simp
  first | exact Grows.refl _ | exact ⟨Grows.refl _, trivial⟩
 refine val_cons ?_ (fun v13 => ?_)
 ·intro L vs w1 hvs hat hb hI hF; try simp [factsI, Region.binds, Is] at hF
  have D := (HS2.out.2.1).grow (show Below _ _ _ from hb); have cD := D.cell; have lD := D.lt; clear D
  go_simp
  first | exact Grows.refl _ | exact ⟨Grows.refl _, trivial⟩
 refine val_cons ?_ (fun v14 => ?_)
 ·intro L vs w1 hvs hat hb hI hF; try simp [factsI, Region.binds, Is] at hF
  have D := (HS2.out.2.2.1).grow (show Below _ _ _ from hb); have cD := D.cell; have lD := D.lt; clear D
  go_simp
  first | exact Grows.refl _ | exact ⟨Grows.refl _, trivial⟩
 refine val_cons ?_ (fun v15 => ?_)
 ·intro L vs w1 hvs hat hb hI hF; try simp [factsI, Region.binds, Is] at hF
  have hb0 := hb
  go_simp
  refine (HC1.out _ (bel_trans HS2.out.2.2.2.2.2 (show Below _ _ _ from hb0))).mono ?_
  rintro e w2 ⟨rfl, hb2⟩
  first | exact ⟨rfl, hb2⟩ | exact ⟨_, rfl, hb2, trivial, rfl⟩ | exact ⟨_, rfl, hb2, rfl⟩
 refine val_cons ?_ (fun v16 => ?_)
 ·intro L vs w1 hvs hat hb hI hF; try simp [factsI, Region.binds, Is] at hF
  have D := (HS2.out.1).grow (show Below _ _ _ from hb); have cD := D.cell; have lD := D.lt; clear D
  go_simp
  first | exact Grows.refl _ | exact ⟨Grows.refl _, trivial⟩
 refine val_cons ?_ (fun v17 => ?_)
 ·intro L vs w1 hvs hat hb hI hF; try simp [factsI, Region.binds, Is] at hF
  have D := (HS2.out.2.1).grow (show Below _ _ _ from hb); have cD := D.cell; have lD := D.lt; clear D
  go_simp
  first | exact Grows.refl _ | exact ⟨Grows.refl _, trivial⟩
 refine val_cons ?_ (fun v18 => ?_)
 ·intro L vs w1 hvs hat hb hI hF; try simp [factsI, Region.binds, Is] at hF
  have D := (HS2.out.2.2.1).grow (show Below _ _ _ from hb); have cD := D.cell; have lD := D.lt; clear D
  go_simp
  first | exact Grows.refl _ | exact ⟨Grows.refl _, trivial⟩
 refine val_cons ?_ (fun v19 => ?_)
 ·intro L vs w1 hvs hat hb hI hF; try simp [factsI, Region.binds, Is] at hF
  have hb0 := hb
  go_simp
  refine (HC2.out _ (bel_trans HS2.out.2.2.2.2.2 (show Below _ _ _ from hb0))).mono ?_
  rintro e w2 ⟨rfl, hb2⟩
  first | exact ⟨rfl, hb2⟩ | exact ⟨_, rfl, hb2, trivial, rfl⟩ | exact ⟨_, rfl, hb2, rfl⟩
 refine val_cons ?_ (fun v20 => ?_)
 ·intro L vs w1 hvs hat hb hI hF; try simp [factsI, Region.binds, Is] at hF
  have hc := (Grows.cells hb).1
  clear hI
  go_simp
  try simp [upd]
  try first | exact Grows.refl _ | exact trivial | exact ⟨Grows.refl _, trivial⟩
 refine val_cons ?_ (fun v21 => ?_)
 ·intro L vs w1 hvs hat hb hI hF; try simp [factsI, Region.binds, Is] at hF
  have hc := (Grows.cells hb).1
  clear hI
  go_simp
  try simp [upd]
  try first | exact Grows.refl _ | exact trivial | exact ⟨Grows.refl _, trivial⟩
 refine val_cons ?_ (fun v22 => ?_)
 ·intro L vs w1 hvs hat hb hI hF; try simp [factsI, Region.binds, Is] at hF
  have hc := (Grows.cells hb).1
  clear hI
  go_simp
  try simp [upd]
  try first | exact Grows.refl _ | exact trivial | exact ⟨Grows.refl _, trivial⟩
 refine val_nil ?_
 intro vs w1 hvs hb hI hF
 simp [Is, Nat.forall_lt_succ_right] at hF
 simp only [Act.put, List.setIfInBounds_toArray, List.set_cons_succ, List.set_cons_zero, hF]
 clear hF
 have HF9 := Lib.hid (bel_trans HS2.out.2.2.2.2.2 (show Below _ _ w1 from hb))
 clear  hb hI hvs
 go_wp2_with fail
 go_ret
 exact ⟨rfl, HF9.out⟩
end Go.Proofs.YtkfimbonmnoglaaGreatDoor
end
