import Derived.Test.YtkfimbonmnoglaaGreatDoorG14
/-
  Given contracts of functions of the program, and laws for them, one behind the other.
-/
set_option linter.unusedVariables false
set_option linter.unusedSimpArgs false
set_option linter.unusedSectionVars false
section
namespace Go.Proofs.YtkfimbonmnoglaaGreatDoor
open Go.RowKit Go.Rel Go.Draw Go.Solid
set_option maxRecDepth 100000
/-! Meet, Join, Less, In of the program -/
set_option maxHeartbeats 2000000 in
theorem meet_spec (a b : Sol) (w : World) : Calls Tryz.prog 55 #[solV a, solV b] w fun e w' => e = .returned (solV (a &&& b)) ∧ Below w.heap.size w w' := by
 go_enter Tryz.func55, Tryz.ntmps55
 go_wp2_with fail
 obtain ⟨W0, hW0⟩ : ∃ W0, W0 = ((w.alloc (.cells #[.int .u64 (pl a 0), .int .u64 (pl a 1), .int .u64 (pl a 2), .int .u64 (pl a 3), .int .u64 (pl a 4), .int .u64 (pl a 5), .int .u64 (pl a 6), .int .u64 (pl a 7)] 26)).alloc (.cells #[.int .u64 (pl b 0), .int .u64 (pl b 1), .int .u64 (pl b 2), .int .u64 (pl b 3), .int .u64 (pl b 4), .int .u64 (pl b 5), .int .u64 (pl b 6), .int .u64 (pl b 7)] 26)).alloc (.cells #[.int .u64 0, .int .u64 0, .int .u64 0, .int .u64 0, .int .u64 0, .int .u64 0, .int .u64 0, .int .u64 0] 26) := ⟨_, rfl⟩
 have b1 : Blk W0 w.heap.size #[.int .u64 (pl a 0), .int .u64 (pl a 1), .int .u64 (pl a 2), .int .u64 (pl a 3), .int .u64 (pl a 4), .int .u64 (pl a 5), .int .u64 (pl a 6), .int .u64 (pl a 7)] 26 := by subst hW0; exact (by repeat (first | with_reducible assumption | (refine Blk.at _ _ ?_; (simp; done)) | with_reducible refine Blk.alloc ?_ _ | with_reducible refine Blk.drew ?_ | with_reducible refine Blk.rowS ?_ _ | with_reducible refine Blk.rowO ?_ _ (by simp)))
 have b2 : Blk W0 (w.heap.size + 1) #[.int .u64 (pl b 0), .int .u64 (pl b 1), .int .u64 (pl b 2), .int .u64 (pl b 3), .int .u64 (pl b 4), .int .u64 (pl b 5), .int .u64 (pl b 6), .int .u64 (pl b 7)] 26 := by subst hW0; exact (by repeat (first | with_reducible assumption | (refine Blk.at _ _ ?_; (simp; done)) | with_reducible refine Blk.alloc ?_ _ | with_reducible refine Blk.drew ?_ | with_reducible refine Blk.rowS ?_ _ | with_reducible refine Blk.rowO ?_ _ (by simp)))
 have b3 : Blk W0 (w.heap.size + 1 + 1) #[.int .u64 0, .int .u64 0, .int .u64 0, .int .u64 0, .int .u64 0, .int .u64 0, .int .u64 0, .int .u64 0] 26 := by subst hW0; exact Blk.at _ _ (by simp)
 have hbel : Below w.heap.size w W0 := by subst hW0; exact (by repeat (first | with_reducible exact bel_refl _ | with_reducible assumption | with_reducible refine bel_drewN ?_ _ | with_reducible refine bel_drew ?_ | with_reducible refine bel_alloc ?_ _ | with_reducible refine bel_row ?_ ?_ _ | with_reducible refine bel_set ?_ ?_ _ | refine bel_trans ?_ (by with_reducible assumption) | (simp; done) | (simp; omega)))
 rw [← hW0]
 clear hW0
 have HB := Lib.hid (And.intro b1 (And.intro b2 (And.intro b3 hbel))); clear b1 b2 b3 hbel
 go_loopw [6] (fun iv wx => ∃ z : Nat, z ≤ 8 ∧ iv = .int .i64 z ∧ Hid (Blk wx w.heap.size (mixZ a (a &&& b) z) 26 ∧ W0.grownBy wx (some w.heap.size))) (fun iv _ => 8 - (intOf iv).toNat)
 case atStart => exact ⟨0, by omega, rfl, Lib.hid ⟨HB.out.1, gb_refl _ _⟩⟩
 case round =>
  obtain ⟨z, hz, rfl, HM⟩ := hrel
  by_cases hz8 : z < 8
  ·obtain ⟨BX, hgx⟩ := HM.out
   have cz : wr.cell? ⟨w.heap.size, z, none⟩ = some (.int .u64 (pl a z)) := by rw [BX.cell, mixZ_get _ _ hz8]
   have B2 := HB.out.2.1.gb hgx (by simp)
   have sz : wr.cell? ⟨w.heap.size + 1, z, none⟩ = some (.int .u64 (pl b z)) := by rw [B2.cell]; exact mixA_get (fun i => pl b i) hz8
   have fz := BX.free z
   have lx := BX.lt
   have ls := B2.lt
   have eo := bits_and_pl a b z
   have BXH := Lib.hid (And.intro BX hgx); clear BX hgx HM B2
   go_wp2_with fail
   refine Go.Rel.region_still_tail 7 (by kernel_rfl) (by kernel_rfl) ?_
   simp only [List.take_succ_cons, List.take_zero, List.drop_succ_cons, List.drop_zero]
   repeat still_step
   refine wpStill_nil ?_
   go_wp2_with fail
   go_roundw
   case rel =>
    refine ⟨z + 1, by omega, by go_num, Lib.hid ⟨?_, gb_set (gb_drew BXH.out.2) _ rfl _⟩⟩
    rw [← mixZ_set _ _ hz8]
    exact (BXH.out.1.drew).set z _
   case measure => simp [intOf]; omega
  ·obtain rfl : z = 8 := by omega
   have BX := HM.out.1
   rw [mixZ_end] at BX
   have cX := BX.cell
   have lX := BX.lt
   have B3 := HB.out.2.2.1.gb HM.out.2 (by simp; omega)
   have r3 := B3.row
   have hb := gb_bel HB.out.2.2.2 HM.out.2 (Nat.le_refl _)
   clear HM HB BX
   have cF := (B3.rowS #[.int .u64 (pl (a &&& b) 0), .int .u64 (pl (a &&& b) 1), .int .u64 (pl (a &&& b) 2), .int .u64 (pl (a &&& b) 3), .int .u64 (pl (a &&& b) 4), .int .u64 (pl (a &&& b) 5), .int .u64 (pl (a &&& b) 6), .int .u64 (pl (a &&& b) 7)]).cell
   rw [← B3.rw]
   clear B3
   go_wp2_with fail
   exact bodyPost_ret (v := solV (a &&& b)) (by simp [results, Tryz.results55, go_sem, cF]) rfl ⟨rfl, bel_row hb (by omega) _⟩
set_option maxHeartbeats 2000000 in
theorem join_spec (a b : Sol) (w : World) : Calls Tryz.prog 57 #[solV a, solV b] w fun e w' => e = .returned (solV (a ||| b)) ∧ Below w.heap.size w w' := by
 go_enter Tryz.func57, Tryz.ntmps57
 go_wp2_with fail
 obtain ⟨W0, hW0⟩ : ∃ W0, W0 = ((w.alloc (.cells #[.int .u64 (pl a 0), .int .u64 (pl a 1), .int .u64 (pl a 2), .int .u64 (pl a 3), .int .u64 (pl a 4), .int .u64 (pl a 5), .int .u64 (pl a 6), .int .u64 (pl a 7)] 26)).alloc (.cells #[.int .u64 (pl b 0), .int .u64 (pl b 1), .int .u64 (pl b 2), .int .u64 (pl b 3), .int .u64 (pl b 4), .int .u64 (pl b 5), .int .u64 (pl b 6), .int .u64 (pl b 7)] 26)).alloc (.cells #[.int .u64 0, .int .u64 0, .int .u64 0, .int .u64 0, .int .u64 0, .int .u64 0, .int .u64 0, .int .u64 0] 26) := ⟨_, rfl⟩
 have b1 : Blk W0 w.heap.size #[.int .u64 (pl a 0), .int .u64 (pl a 1), .int .u64 (pl a 2), .int .u64 (pl a 3), .int .u64 (pl a 4), .int .u64 (pl a 5), .int .u64 (pl a 6), .int .u64 (pl a 7)] 26 := by subst hW0; exact (by repeat (first | with_reducible assumption | (refine Blk.at _ _ ?_; (simp; done)) | with_reducible refine Blk.alloc ?_ _ | with_reducible refine Blk.drew ?_ | with_reducible refine Blk.rowS ?_ _ | with_reducible refine Blk.rowO ?_ _ (by simp)))
 have b2 : Blk W0 (w.heap.size + 1) #[.int .u64 (pl b 0), .int .u64 (pl b 1), .int .u64 (pl b 2), .int .u64 (pl b 3), .int .u64 (pl b 4), .int .u64 (pl b 5), .int .u64 (pl b 6), .int .u64 (pl b 7)] 26 := by subst hW0; exact (by repeat (first | with_reducible assumption | (refine Blk.at _ _ ?_; (simp; done)) | with_reducible refine Blk.alloc ?_ _ | with_reducible refine Blk.drew ?_ | with_reducible refine Blk.rowS ?_ _ | with_reducible refine Blk.rowO ?_ _ (by simp)))
 have b3 : Blk W0 (w.heap.size + 1 + 1) #[.int .u64 0, .int .u64 0, .int .u64 0, .int .u64 0, .int .u64 0, .int .u64 0, .int .u64 0, .int .u64 0] 26 := by subst hW0; exact Blk.at _ _ (by simp)
 have hbel : Below w.heap.size w W0 := by subst hW0; exact (by repeat (first | with_reducible exact bel_refl _ | with_reducible assumption | with_reducible refine bel_drewN ?_ _ | with_reducible refine bel_drew ?_ | with_reducible refine bel_alloc ?_ _ | with_reducible refine bel_row ?_ ?_ _ | with_reducible refine bel_set ?_ ?_ _ | refine bel_trans ?_ (by with_reducible assumption) | (simp; done) | (simp; omega)))
 rw [← hW0]
 clear hW0
 have HB := Lib.hid (And.intro b1 (And.intro b2 (And.intro b3 hbel))); clear b1 b2 b3 hbel
 go_loopw [6] (fun iv wx => ∃ z : Nat, z ≤ 8 ∧ iv = .int .i64 z ∧ Hid (Blk wx w.heap.size (mixZ a (a ||| b) z) 26 ∧ W0.grownBy wx (some w.heap.size))) (fun iv _ => 8 - (intOf iv).toNat)
 case atStart => exact ⟨0, by omega, rfl, Lib.hid ⟨HB.out.1, gb_refl _ _⟩⟩
 case round =>
  obtain ⟨z, hz, rfl, HM⟩ := hrel
  by_cases hz8 : z < 8
  ·obtain ⟨BX, hgx⟩ := HM.out
   have cz : wr.cell? ⟨w.heap.size, z, none⟩ = some (.int .u64 (pl a z)) := by rw [BX.cell, mixZ_get _ _ hz8]
   have B2 := HB.out.2.1.gb hgx (by simp)
   have sz : wr.cell? ⟨w.heap.size + 1, z, none⟩ = some (.int .u64 (pl b z)) := by rw [B2.cell]; exact mixA_get (fun i => pl b i) hz8
   have fz := BX.free z
   have lx := BX.lt
   have ls := B2.lt
   have eo := bits_or_pl a b z
   have BXH := Lib.hid (And.intro BX hgx); clear BX hgx HM B2
   go_wp2_with fail
   refine Go.Rel.region_still_tail 7 (by kernel_rfl) (by kernel_rfl) ?_
   simp only [List.take_succ_cons, List.take_zero, List.drop_succ_cons, List.drop_zero]
   repeat still_step
   refine wpStill_nil ?_
   go_wp2_with fail
   go_roundw
   case rel =>
    refine ⟨z + 1, by omega, by go_num, Lib.hid ⟨?_, gb_set (gb_drew BXH.out.2) _ rfl _⟩⟩
    rw [← mixZ_set _ _ hz8]
    exact (BXH.out.1.drew).set z _
   case measure => simp [intOf]; omega
  ·obtain rfl : z = 8 := by omega
   have BX := HM.out.1
   rw [mixZ_end] at BX
   have cX := BX.cell
   have lX := BX.lt
   have B3 := HB.out.2.2.1.gb HM.out.2 (by simp; omega)
   have r3 := B3.row
   have hb := gb_bel HB.out.2.2.2 HM.out.2 (Nat.le_refl _)
   clear HM HB BX
   have cF := (B3.rowS #[.int .u64 (pl (a ||| b) 0), .int .u64 (pl (a ||| b) 1), .int .u64 (pl (a ||| b) 2), .int .u64 (pl (a ||| b) 3), .int .u64 (pl (a ||| b) 4), .int .u64 (pl (a ||| b) 5), .int .u64 (pl (a ||| b) 6), .int .u64 (pl (a ||| b) 7)]).cell
   rw [← B3.rw]
   clear B3
   go_wp2_with fail
   exact bodyPost_ret (v := solV (a ||| b)) (by simp [results, Tryz.results57, go_sem, cF]) rfl ⟨rfl, bel_row hb (by omega) _⟩
set_option maxHeartbeats 2000000 in
theorem less_spec (a b : Sol) (w : World) : Calls Tryz.prog 63 #[solV a, solV b] w fun e w' => e = .returned (solV (a &&& ~~~b)) ∧ Below w.heap.size w w' := by
 go_enter Tryz.func63, Tryz.ntmps63
 go_wp2_with fail
 obtain ⟨W0, hW0⟩ : ∃ W0, W0 = ((w.alloc (.cells #[.int .u64 (pl a 0), .int .u64 (pl a 1), .int .u64 (pl a 2), .int .u64 (pl a 3), .int .u64 (pl a 4), .int .u64 (pl a 5), .int .u64 (pl a 6), .int .u64 (pl a 7)] 26)).alloc (.cells #[.int .u64 (pl b 0), .int .u64 (pl b 1), .int .u64 (pl b 2), .int .u64 (pl b 3), .int .u64 (pl b 4), .int .u64 (pl b 5), .int .u64 (pl b 6), .int .u64 (pl b 7)] 26)).alloc (.cells #[.int .u64 0, .int .u64 0, .int .u64 0, .int .u64 0, .int .u64 0, .int .u64 0, .int .u64 0, .int .u64 0] 26) := ⟨_, rfl⟩
 have b1 : Blk W0 w.heap.size #[.int .u64 (pl a 0), .int .u64 (pl a 1), .int .u64 (pl a 2), .int .u64 (pl a 3), .int .u64 (pl a 4), .int .u64 (pl a 5), .int .u64 (pl a 6), .int .u64 (pl a 7)] 26 := by subst hW0; exact (by repeat (first | with_reducible assumption | (refine Blk.at _ _ ?_; (simp; done)) | with_reducible refine Blk.alloc ?_ _ | with_reducible refine Blk.drew ?_ | with_reducible refine Blk.rowS ?_ _ | with_reducible refine Blk.rowO ?_ _ (by simp)))
 have b2 : Blk W0 (w.heap.size + 1) #[.int .u64 (pl b 0), .int .u64 (pl b 1), .int .u64 (pl b 2), .int .u64 (pl b 3), .int .u64 (pl b 4), .int .u64 (pl b 5), .int .u64 (pl b 6), .int .u64 (pl b 7)] 26 := by subst hW0; exact (by repeat (first | with_reducible assumption | (refine Blk.at _ _ ?_; (simp; done)) | with_reducible refine Blk.alloc ?_ _ | with_reducible refine Blk.drew ?_ | with_reducible refine Blk.rowS ?_ _ | with_reducible refine Blk.rowO ?_ _ (by simp)))
 have b3 : Blk W0 (w.heap.size + 1 + 1) #[.int .u64 0, .int .u64 0, .int .u64 0, .int .u64 0, .int .u64 0, .int .u64 0, .int .u64 0, .int .u64 0] 26 := by subst hW0; exact Blk.at _ _ (by simp)
 have hbel : Below w.heap.size w W0 := by subst hW0; exact (by repeat (first | with_reducible exact bel_refl _ | with_reducible assumption | with_reducible refine bel_drewN ?_ _ | with_reducible refine bel_drew ?_ | with_reducible refine bel_alloc ?_ _ | with_reducible refine bel_row ?_ ?_ _ | with_reducible refine bel_set ?_ ?_ _ | refine bel_trans ?_ (by with_reducible assumption) | (simp; done) | (simp; omega)))
 rw [← hW0]
 clear hW0
 have HB := Lib.hid (And.intro b1 (And.intro b2 (And.intro b3 hbel))); clear b1 b2 b3 hbel
 go_loopw [6] (fun iv wx => ∃ z : Nat, z ≤ 8 ∧ iv = .int .i64 z ∧ Hid (Blk wx w.heap.size (mixZ a (a &&& ~~~b) z) 26 ∧ W0.grownBy wx (some w.heap.size))) (fun iv _ => 8 - (intOf iv).toNat)
 case atStart => exact ⟨0, by omega, rfl, Lib.hid ⟨HB.out.1, gb_refl _ _⟩⟩
 case round =>
  obtain ⟨z, hz, rfl, HM⟩ := hrel
  by_cases hz8 : z < 8
  ·obtain ⟨BX, hgx⟩ := HM.out
   have cz : wr.cell? ⟨w.heap.size, z, none⟩ = some (.int .u64 (pl a z)) := by rw [BX.cell, mixZ_get _ _ hz8]
   have B2 := HB.out.2.1.gb hgx (by simp)
   have sz : wr.cell? ⟨w.heap.size + 1, z, none⟩ = some (.int .u64 (pl b z)) := by rw [B2.cell]; exact mixA_get (fun i => pl b i) hz8
   have fz := BX.free z
   have lx := BX.lt
   have ls := B2.lt
   have eo := bits_andNot_pl a b z hz8
   have BXH := Lib.hid (And.intro BX hgx); clear BX hgx HM B2
   go_wp2_with fail
   refine Go.Rel.region_still_tail 7 (by kernel_rfl) (by kernel_rfl) ?_
   simp only [List.take_succ_cons, List.take_zero, List.drop_succ_cons, List.drop_zero]
   repeat still_step
   refine wpStill_nil ?_
   go_wp2_with fail
   go_roundw
   case rel =>
    refine ⟨z + 1, by omega, by go_num, Lib.hid ⟨?_, gb_set (gb_drew BXH.out.2) _ rfl _⟩⟩
    rw [← mixZ_set _ _ hz8]
    exact (BXH.out.1.drew).set z _
   case measure => simp [intOf]; omega
  ·obtain rfl : z = 8 := by omega
   have BX := HM.out.1
   rw [mixZ_end] at BX
   have cX := BX.cell
   have lX := BX.lt
   have B3 := HB.out.2.2.1.gb HM.out.2 (by simp; omega)
   have r3 := B3.row
   have hb := gb_bel HB.out.2.2.2 HM.out.2 (Nat.le_refl _)
   clear HM HB BX
   have cF := (B3.rowS #[.int .u64 (pl (a &&& ~~~b) 0), .int .u64 (pl (a &&& ~~~b) 1), .int .u64 (pl (a &&& ~~~b) 2), .int .u64 (pl (a &&& ~~~b) 3), .int .u64 (pl (a &&& ~~~b) 4), .int .u64 (pl (a &&& ~~~b) 5), .int .u64 (pl (a &&& ~~~b) 6), .int .u64 (pl (a &&& ~~~b) 7)]).cell
   rw [← B3.rw]
   clear B3
   go_wp2_with fail
   exact bodyPost_ret (v := solV (a &&& ~~~b)) (by simp [results, Tryz.results63, go_sem, cF]) rfl ⟨rfl, bel_row hb (by omega) _⟩
end Go.Proofs.YtkfimbonmnoglaaGreatDoor
end
section
namespace Go.Proofs.YtkfimbonmnoglaaGreatDoor
open Go.RowKit Go.Rel Go.Draw Go.Solid
set_option maxRecDepth 100000
/-! In and Has of the program -/
set_option maxHeartbeats 2000000 in
theorem sin_spec (a b : Sol) (w : World) : Calls Tryz.prog 59 #[solV a, solV b] w fun e w' => e = .returned (.bool ((a &&& b) == a)) ∧ Below w.heap.size w w' := by
 have HM := Lib.hid (fun W => meet_spec a b W)
 go_enter Tryz.func59, Tryz.ntmps59
 go_wp2_with fail
 refine wp_region_grow 5 [Is (solV a), Is (solV b), Is (solV (a &&& b)), Is (solV a), Is (.bool ((a &&& b) == a))] (by kernel_rfl) (by kernel_rfl) rfl ⟨fun _ _ _ h _ => h, fun _ _ _ h _ => h, fun _ _ _ h _ => h, fun _ _ _ h _ => h, fun _ _ _ h _ => h, trivial⟩ ?_
 simp only [List.take_succ_cons, List.take_zero, List.drop_succ_cons, List.drop_zero]
 iterate 2 (refine rel_cons ?_ (fun _ => ?_); · intro w1 hb hF; have hc := (Grows.cells hb).1; have hf := (Grows.cells hb).2; (try simp [facts, Is] at hF); go_simp; exact Grows.refl _)
 refine rel_cons ?_ (fun v2 => ?_)
 ·intro w1 hb hF; have hc := (Grows.cells hb).1; have hf := (Grows.cells hb).2; try simp [facts, Is] at hF
  go_simp
  refine (HM.out _).mono ?_
  rintro e w2 ⟨rfl, hb2⟩
  exact ⟨rfl, hb2⟩
 iterate 2 (refine rel_cons ?_ (fun _ => ?_); · intro w1 hb hF; have hc := (Grows.cells hb).1; have hf := (Grows.cells hb).2; (try simp [facts, Is] at hF); go_simp; exact Grows.refl _)
 refine rel_nil ?_
 intro w1 hb hF
 simp [Is, Nat.forall_lt_succ_right] at hF
 simp only [Act.put, List.setIfInBounds_toArray, List.set_cons_succ, List.set_cons_zero, hF]
 clear hF
 have hb1 := Below.trans (B := w.heap.size) ((by repeat (first | with_reducible exact bel_refl _ | with_reducible assumption | with_reducible refine bel_drewN ?_ _ | with_reducible refine bel_drew ?_ | with_reducible refine bel_alloc ?_ _ | with_reducible refine bel_row ?_ ?_ _ | with_reducible refine bel_set ?_ ?_ _ | refine bel_trans ?_ (by with_reducible assumption) | (simp; done) | (simp; omega))) : Below w.heap.size w ((w.alloc (.cells #[.int .u64 (pl a 0), .int .u64 (pl a 1), .int .u64 (pl a 2), .int .u64 (pl a 3), .int .u64 (pl a 4), .int .u64 (pl a 5), .int .u64 (pl a 6), .int .u64 (pl a 7)] 26)).alloc (.cells #[.int .u64 (pl b 0), .int .u64 (pl b 1), .int .u64 (pl b 2), .int .u64 (pl b 3), .int .u64 (pl b 4), .int .u64 (pl b 5), .int .u64 (pl b 6), .int .u64 (pl b 7)] 26))) ((show Below _ _ w1 from hb).mono (by simp; omega))
 clear hb
 go_wp2_with fail
 go_ret
 exact ⟨rfl, (by repeat (first | with_reducible exact bel_refl _ | with_reducible assumption | with_reducible refine bel_drewN ?_ _ | with_reducible refine bel_drew ?_ | with_reducible refine bel_alloc ?_ _ | with_reducible refine bel_row ?_ ?_ _ | with_reducible refine bel_set ?_ ?_ _ | refine bel_trans ?_ (by with_reducible assumption) | (simp; done) | (simp; omega)))⟩
end Go.Proofs.YtkfimbonmnoglaaGreatDoor
end
section
namespace Go.Proofs.YtkfimbonmnoglaaGreatDoor
open Go.RowKit Go.Rel Go.Draw Go.Solid
set_option maxRecDepth 100000
/-! Has of the program -/
theorem and_one (p : U) {n : Nat} (h : n < 64) : (p &&& 1#64 <<< n != 0) = p.getLsbD n := by
 have hb : ∀ i, i < 64 → (p &&& 1#64 <<< n).getLsbD i = (p.getLsbD i && decide (i = n)) := by
  intro i hi
  rw [BitVec.getLsbD_and, BitVec.getLsbD_shiftLeft]
  simp only [hi, decide_true, Bool.true_and]
  congr 1
  rw [show (1#64).getLsbD (i - n) = decide (i - n = 0) by simp]
  by_cases e : i < n
  ·simp [e]; omega
  ·simp only [e, decide_false, Bool.not_false, Bool.true_and]
   congr 1
   exact propext ⟨fun _ => by omega, fun _ => by omega⟩
 cases hp : p.getLsbD n with
 | true =>
  rw [bne_iff_ne]
  intro h0
  have := hb n h
  rw [h0, hp] at this
  simp at this
 | false =>
  have h0 : p &&& 1#64 <<< n = 0 := by
   apply BitVec.eq_of_getLsbD_eq
   intro i hi
   rw [hb i hi]
   by_cases e : i = n
   ·subst e; rw [hp]; simp
   ·simp [e]
  rw [h0]; rfl
theorem has_plane {s : Sol} {c : Cl} (h : inG c = true) : (plv s c.2.2.toNat &&& bitP c != 0) = hasS s c := by
 have hG := inG_iff.1 h
 unfold bitP
 rw [and_one _ (by omega), plv_bit _ _ _ (by omega)]
 unfold hasS bitN
 rw [h, Bool.true_and]
 congr 1
 omega
set_option maxHeartbeats 4000000 in
theorem has_spec (s : Sol) (c : Cl) (w : World) : Calls Tryz.prog 79 #[solV s, clV c] w fun e w' => e = .returned (.bool (hasS s c)) ∧ Below w.heap.size w w' := by
 have HI := Lib.hid (fun W => inside_spec c W)
 have hbw : Below w.heap.size w ((w.alloc (.cells #[.int .u64 (pl s 0), .int .u64 (pl s 1), .int .u64 (pl s 2), .int .u64 (pl s 3), .int .u64 (pl s 4), .int .u64 (pl s 5), .int .u64 (pl s 6), .int .u64 (pl s 7)] 26)).alloc (.cells #[.int .i64 c.1, .int .i64 c.2.1, .int .i64 c.2.2] 60)) := (by repeat (first | with_reducible exact bel_refl _ | with_reducible assumption | with_reducible refine bel_drewN ?_ _ | with_reducible refine bel_drew ?_ | with_reducible refine bel_alloc ?_ _ | with_reducible refine bel_row ?_ ?_ _ | with_reducible refine bel_set ?_ ?_ _ | refine bel_trans ?_ (by with_reducible assumption) | (simp; done) | (simp; omega)))
 have HW := Lib.hid hbw; clear hbw
 cases hc : inG c with
 | false =>
  have e0 : hasS s c = false := hasS_out hc
  rw [e0]
  rw [hc] at HI
  clear hc e0
  go_enter Tryz.func79, Tryz.ntmps79
  go_wp2_with fail
  refine wp_region_grow 12 [Is (clV c), Is (.bool false), Is (.bool false), Is undef, Is undef, Is undef, Is undef, Is undef, Is undef, Is undef, Is undef, Is (.bool false)] (by kernel_rfl) (by kernel_rfl) rfl ⟨fun _ _ _ h _ => h, fun _ _ _ h _ => h, fun _ _ _ h _ => h, fun _ _ _ h _ => h, fun _ _ _ h _ => h, fun _ _ _ h _ => h, fun _ _ _ h _ => h, fun _ _ _ h _ => h, fun _ _ _ h _ => h, fun _ _ _ h _ => h, fun _ _ _ h _ => h, fun _ _ _ h _ => h, trivial⟩ ?_
  simp only [List.take_succ_cons, List.take_zero, List.drop_succ_cons, List.drop_zero]
  refine rel_cons ?_ (fun v0 => ?_)
  ·intro w1 hb hF; have hc := (Grows.cells hb).1; have hf := (Grows.cells hb).2; try simp [facts, Is] at hF
   go_simp
   exact Grows.refl _
  refine rel_cons ?_ (fun v1 => ?_)
  ·intro w1 hb hF; have hc := (Grows.cells hb).1; have hf := (Grows.cells hb).2; try simp [facts, Is] at hF
   go_simp
   refine (HI.out _).mono ?_
   rintro e w2 ⟨rfl, hb2⟩
   exact ⟨rfl, hb2⟩
  refine rel_cons ?_ (fun v2 => ?_)
  ·intro w1 hb hF; have hc := (Grows.cells hb).1; have hf := (Grows.cells hb).2; try simp [facts, Is] at hF
   go_simp
   exact Grows.refl _
  iterate 8 (refine rel_cons ?_ (fun _ => ?_); · intro w1 hb hF; have hc := (Grows.cells hb).1; have hf := (Grows.cells hb).2; (try simp [facts, Is] at hF); go_simp)
  refine rel_cons ?_ (fun v11 => ?_)
  ·intro w1 hb hF; have hc := (Grows.cells hb).1; have hf := (Grows.cells hb).2; try simp [facts, Is] at hF
   go_simp
   exact Grows.refl _
  refine rel_nil ?_
  intro w1 hb hF
  simp [Is, Nat.forall_lt_succ_right] at hF
  simp only [Act.put, List.setIfInBounds_toArray, List.set_cons_succ, List.set_cons_zero, hF]
  clear hF
  have hb0 : Below _ _ w1 := hb
  have hb1 : Below w.heap.size w w1 := bel_trans HW.out hb0
  clear hb
  go_wp2_with fail
  go_ret
  exact ⟨rfl, hb1⟩
 | true =>
  have hG := inG_iff.1 hc
  obtain ⟨Z, hZ⟩ : ∃ Z : Nat, c.2.2 = (Z : Int) := ⟨c.2.2.toNat, by omega⟩
  have hZ8 : Z < 8 := by omega
  rw [hc] at HI
  have e0 : hasS s c = (plv s Z &&& bitP c != 0) := by rw [← has_plane hc, hZ]; rfl
  rw [e0]
  have HB := Lib.hid (fun W => bit_spec hc W)
  have cS : (#[.int .u64 (pl s 0), .int .u64 (pl s 1), .int .u64 (pl s 2), .int .u64 (pl s 3), .int .u64 (pl s 4), .int .u64 (pl s 5), .int .u64 (pl s 6), .int .u64 (pl s 7)] : Array Value)[Z]? = some (.int .u64 (uI (plv s Z))) := by rw [← pl_uI]; exact mixA_get (fun i => pl s i) hZ8
  have ea : bits .and .u64 (uI (plv s Z)) (uI (bitP c)) = uI (plv s Z &&& bitP c) := bits_and_u _ _
  have en : (uI (plv s Z &&& bitP c) != 0) = (plv s Z &&& bitP c != 0) := bne_u0 _
  clear hc e0 hG
  go_enter Tryz.func79, Tryz.ntmps79
  go_wp2_with fail
  refine wp_region_grow 12 [Is (clV c), Is (.bool true), Is (.bool true), Is (.pointer (some ⟨w.heap.size + 1, 2, none⟩)), Is (.int .i64 (Z : Int)), Is (.pointer (some ⟨w.heap.size, Z, none⟩)), Is (.int .u64 (uI (plv s Z))), Is (clV c), Is (.int .u64 (uI (bitP c))), Is (.int .u64 (uI (plv s Z &&& bitP c))), Is (.bool (plv s Z &&& bitP c != 0)), Is (.bool (plv s Z &&& bitP c != 0))] (by kernel_rfl) (by kernel_rfl) rfl ⟨fun _ _ _ h _ => h, fun _ _ _ h _ => h, fun _ _ _ h _ => h, fun _ _ _ h _ => h, fun _ _ _ h _ => h, fun _ _ _ h _ => h, fun _ _ _ h _ => h, fun _ _ _ h _ => h, fun _ _ _ h _ => h, fun _ _ _ h _ => h, fun _ _ _ h _ => h, fun _ _ _ h _ => h, trivial⟩ ?_
  simp only [List.take_succ_cons, List.take_zero, List.drop_succ_cons, List.drop_zero]
  refine rel_cons ?_ (fun v0 => ?_)
  ·intro w1 hb hF; have hc := (Grows.cells hb).1; have hf := (Grows.cells hb).2; try simp [facts, Is] at hF
   go_simp
   exact Grows.refl _
  refine rel_cons ?_ (fun v1 => ?_)
  ·intro w1 hb hF; have hc := (Grows.cells hb).1; have hf := (Grows.cells hb).2; try simp [facts, Is] at hF
   go_simp
   refine (HI.out _).mono ?_
   rintro e w2 ⟨rfl, hb2⟩
   exact ⟨rfl, hb2⟩
  iterate 3 (refine rel_cons ?_ (fun _ => ?_); · intro w1 hb hF; have hc := (Grows.cells hb).1; have hf := (Grows.cells hb).2; (try simp [facts, Is] at hF); go_simp; exact Grows.refl _)
  refine rel_cons ?_ (fun v5 => ?_)
  ·intro w1 hb hF; have hc := (Grows.cells hb).1; have hf := (Grows.cells hb).2; try simp [facts, Is] at hF
   have hz := hZ8
   go_simp
   have hz9 : (Z : Int) < 8 := by omega
   rw [if_pos hz9]
   exact ⟨Grows.refl _, rfl⟩
  refine rel_cons ?_ (fun v6 => ?_)
  ·intro w1 hb hF; have hc := (Grows.cells hb).1; have hf := (Grows.cells hb).2; try simp [facts, Is] at hF
   have hz := hZ8
   go_simp
   exact ⟨Grows.refl _, by rw [← pl_uI]; exact getS s hz _⟩
  refine rel_cons ?_ (fun v7 => ?_)
  ·intro w1 hb hF; have hc := (Grows.cells hb).1; have hf := (Grows.cells hb).2; try simp [facts, Is] at hF
   go_simp
   exact Grows.refl _
  refine rel_cons ?_ (fun v8 => ?_)
  ·intro w1 hb hF; have hc := (Grows.cells hb).1; have hf := (Grows.cells hb).2; try simp [facts, Is] at hF
   go_simp
   refine (HB.out _).mono ?_
   rintro e w2 ⟨rfl, hb2⟩
   exact ⟨rfl, hb2⟩
  iterate 3 (refine rel_cons ?_ (fun _ => ?_); · intro w1 hb hF; have hc := (Grows.cells hb).1; have hf := (Grows.cells hb).2; (try simp [facts, Is] at hF); go_simp; exact Grows.refl _)
  refine rel_nil ?_
  intro w1 hb hF
  simp [Is, Nat.forall_lt_succ_right] at hF
  simp only [Act.put, List.setIfInBounds_toArray, List.set_cons_succ, List.set_cons_zero, hF]
  clear hF
  have hb0 : Below _ _ w1 := hb
  have hW := HW.out
  rw [hZ] at hW
  have hb1 : Below w.heap.size w w1 := bel_trans hW hb0
  clear hb
  go_wp2_with fail
  go_ret
  exact ⟨rfl, hb1⟩
end Go.Proofs.YtkfimbonmnoglaaGreatDoor
end
section
namespace Go.Proofs.YtkfimbonmnoglaaGreatDoor
open Go.RowKit Go.Rel Go.Draw Go.Solid
set_option maxRecDepth 100000
/-! a cell set in the words of a solid -/
theorem plv_cell {z j k : Nat} (hz : z < 8) (hj : j < 64) (hk : k < 8) : plv (Go.Solid.one (64 * z + j)) k = if k = z then bit j else 0#64 := by
 apply BitVec.eq_of_getLsbD_eq
 intro i hi
 unfold plv
 rw [BitVec.getLsbD_extractLsb', Go.Solid.one_bit (by omega)]
 by_cases e : k = z
 ·subst e
  rw [if_pos rfl, bit_bit _ _ hj]
  simp [hi]
 ·rw [if_neg e]
  simp [show ¬ (64 * k + i = 64 * z + j) by omega]
theorem cellZ {c : Cl} (h : inG c = true) : ∃ Z j : Nat, c.2.2 = (Z : Int) ∧ Z < 8 ∧ j < 64 ∧ bitN c = 64 * Z + j ∧ bitP c = bit j := by
 have hG := inG_iff.1 h
 refine ⟨c.2.2.toNat, (8 * c.2.1 + c.1).toNat, by omega, by omega, by omega, ?_, rfl⟩
 unfold bitN
 omega
theorem or_cell (T : Sol) {c : Cl} (h : inG c = true) {Z : Nat} (hZ : c.2.2 = (Z : Int)) : bits .or .u64 (pl T Z) (uI (bitP c)) = pl (T ||| Go.Solid.one (bitN c)) Z := by
 obtain ⟨Z', j, h1, h2, h3, h4, h5⟩ := cellZ h
 obtain rfl : Z = Z' := by omega
 rw [pl_uI, pl_uI, bits_or_u, plv_or, h4, h5, plv_cell h2 h3 h2, if_pos rfl]
theorem cell_set (T : Sol) {c : Cl} (h : inG c = true) {Z : Nat} (hZ : c.2.2 = (Z : Int)) : (mixA fun i => pl T i).setIfInBounds Z (.int .u64 (pl (T ||| Go.Solid.one (bitN c)) Z)) = mixA fun i => pl (T ||| Go.Solid.one (bitN c)) i := by
 obtain ⟨Z', j, h1, h2, h3, h4, h5⟩ := cellZ h
 obtain rfl : Z = Z' := by omega
 rw [mixA_set _ h2]
 refine mixA_eq fun i hi => ?_
 by_cases e : i = Z
 ·subst e; simp
 ·simp only [e, if_false]
  rw [pl_uI, pl_uI, plv_or, h4, plv_cell h2 h3 hi, if_neg e]
  congr 1
  simp
theorem getZ (T : Sol) {Z : Nat} (hZ : Z < 8) : (#[.int .u64 (pl T 0), .int .u64 (pl T 1), .int .u64 (pl T 2), .int .u64 (pl T 3), .int .u64 (pl T 4), .int .u64 (pl T 5), .int .u64 (pl T 6), .int .u64 (pl T 7)] : Array Value)[Z]? = some (.int .u64 (pl T Z)) := mixA_get (fun i => pl T i) hZ
end Go.Proofs.YtkfimbonmnoglaaGreatDoor
end
