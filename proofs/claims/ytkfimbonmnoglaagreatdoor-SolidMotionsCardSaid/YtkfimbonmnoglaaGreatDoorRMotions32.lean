import Derived.Test.YtkfimbonmnoglaaGreatDoorRMotions31
import Derived.Deep.Cut
/-
  Given contracts of functions of the program, and laws for them, one behind the other.
-/
set_option linter.unusedVariables false
set_option linter.unusedSimpArgs false
set_option linter.unusedSectionVars false
section
namespace Go.Proofs.YtkfimbonmnoglaaGreatDoor
open Go.RowKit Go.Rel Go.Draw Go.Solid
set_option maxRecDepth 100000
attribute [local irreducible] accP
set_option maxHeartbeats 8000000 in
theorem refMir0 (s : Sol) (w : World) : Calls Tryz.prog 75 #[solV s, .int .i64 0] w fun e w' => e = .returned (.tuple #[solV (imgS (mirC 0) s), .int .i64 0]) ∧ Below w.heap.size w w' := by
 have HC := Lib.hid fun W => refCells_open s W
 have hE := accP_end (mirC 0) s
 have hin7 : ∀ c ∈ cellsS s, inG c = true := fun c hc => has_in (mem_cellsS.1 hc)
 have hlen := cells512 s
 obtain ⟨L, hL⟩ : ∃ L, L = cellsS s := ⟨_, rfl⟩
 rw [← hL] at HC hE hin7 hlen
 clear hL
 obtain ⟨R, hR⟩ : ∃ R, R = imgS (mirC 0) s := ⟨_, rfl⟩
 rw [← hR] at hE ⊢
 clear hR
 obtain ⟨n, hn⟩ : ∃ n, n = L.length := ⟨_, rfl⟩
 rw [← hn] at HC hE hlen
 have h0 : accP (mirC 0) L 0 = 0 := by unfold accP; rfl
 have hst : ∀ i c, L[i]? = some c → withS (accP (mirC 0) L i) (mirC 0 c) = accP (mirC 0) L (i + 1) := fun i c h => accP_step h
 obtain ⟨A, hA⟩ : ∃ A, A = accP (mirC 0) L := ⟨_, rfl⟩
 rw [← hA] at hE h0 hst
 have H0 := Lib.hid h0
 have HE := Lib.hid hE
 have HST := Lib.hid hst
 have HI := Lib.hid hin7
 have HN := Lib.hid hn
 clear hA h0 hE hst hin7 hn
 have HZ := Lib.hid zero_sols
 go_enter Tryz.func75, Tryz.ntmps75
 go_wp2_with fail
 obtain ⟨W0, hW0⟩ : ∃ W0, W0 = ((w.alloc (.cells #[.int .u64 (pl s 0), .int .u64 (pl s 1), .int .u64 (pl s 2), .int .u64 (pl s 3), .int .u64 (pl s 4), .int .u64 (pl s 5), .int .u64 (pl s 6), .int .u64 (pl s 7)] 26)).alloc (.cells #[.int .u64 0, .int .u64 0, .int .u64 0, .int .u64 0, .int .u64 0, .int .u64 0, .int .u64 0, .int .u64 0] 26)).alloc (.cells #[.int .u64 0, .int .u64 0, .int .u64 0, .int .u64 0, .int .u64 0, .int .u64 0, .int .u64 0, .int .u64 0] 26) := ⟨_, rfl⟩
 have b0 : Blk W0 (w.heap.size + 1) #[.int .u64 0, .int .u64 0, .int .u64 0, .int .u64 0, .int .u64 0, .int .u64 0, .int .u64 0, .int .u64 0] 26 ∧ Blk W0 (w.heap.size + 1 + 1) #[.int .u64 0, .int .u64 0, .int .u64 0, .int .u64 0, .int .u64 0, .int .u64 0, .int .u64 0, .int .u64 0] 26 ∧ Below w.heap.size w W0 ∧ W0.heap.size = w.heap.size + 1 + 1 + 1 := by
  rw [hW0]
  exact ⟨(by repeat (first | with_reducible assumption | (refine Blk.at _ _ ?_; (simp; done)) | with_reducible refine Blk.alloc ?_ _ | with_reducible refine Blk.drew ?_ | with_reducible refine Blk.rowS ?_ _ | with_reducible refine Blk.rowO ?_ _ (by simp))), Blk.at _ _ (by simp), (by repeat (first | with_reducible exact bel_refl _ | with_reducible assumption | with_reducible refine bel_drewN ?_ _ | with_reducible refine bel_drew ?_ | with_reducible refine bel_alloc ?_ _ | with_reducible refine bel_row ?_ ?_ _ | with_reducible refine bel_set ?_ ?_ _ | refine bel_trans ?_ (by with_reducible assumption) | (simp; done) | (simp; omega))), by simp⟩
 rw [← hW0]
 clear hW0
 have HB := Lib.hid b0
 clear b0
 refine (HC.out _).mono ?_
 rintro e w1 ⟨⟨a, c, rfl, hcl⟩, hb⟩
 have HB1 := Lib.hid (And.intro (by rw [H0.out, HZ.out]; exact HB.out.2.1.grow hb : Blk w1 (w.heap.size + 1 + 1) #[.int .u64 (pl (A 0) 0), .int .u64 (pl (A 0) 1), .int .u64 (pl (A 0) 2), .int .u64 (pl (A 0) 3), .int .u64 (pl (A 0) 4), .int .u64 (pl (A 0) 5), .int .u64 (pl (A 0) 6), .int .u64 (pl (A 0) 7)] 26) (And.intro (HB.out.1.grow hb) (And.intro (bel_trans HB.out.2.2.1 hb) hcl)))
 have HB0 := Lib.hid HB.out.2.2.2
 clear hb hcl HB
 obtain ⟨gr, hgr⟩ : ∃ g, g = w.heap.size + 1 := ⟨_, rfl⟩
 obtain ⟨ga, hga⟩ : ∃ g, g = w.heap.size + 1 + 1 := ⟨_, rfl⟩
 obtain ⟨N0, hN0⟩ : ∃ g, g = W0.heap.size := ⟨_, rfl⟩
 have hs0 := HB0.out
 rw [← hN0] at HB1 hs0
 rw [← hga, ← hgr] at HB1
 rw [← hga, ← hgr]
 have HO : Hid (gr = w.heap.size + 1 ∧ ga = w.heap.size + 1 + 1 ∧ N0 = w.heap.size + 1 + 1 + 1) := Lib.hid ⟨hgr, hga, hs0⟩
 clear hgr hga hN0 hs0 HB0
 go_wp2_with fail
 go_loopw [8] (fun iv wx => ∃ i : Nat, i ≤ n ∧ iv = .int .i64 i ∧ Hid (Blk wx ga #[.int .u64 (pl (A i) 0), .int .u64 (pl (A i) 1), .int .u64 (pl (A i) 2), .int .u64 (pl (A i) 3), .int .u64 (pl (A i) 4), .int .u64 (pl (A i) 5), .int .u64 (pl (A i) 6), .int .u64 (pl (A i) 7)] 26 ∧ Blk wx gr #[.int .u64 0, .int .u64 0, .int .u64 0, .int .u64 0, .int .u64 0, .int .u64 0, .int .u64 0, .int .u64 0] 26 ∧ Below w.heap.size w wx ∧ ClO N0 wx a L)) (fun iv _ => n - (intOf iv).toNat)
 case atStart => exact ⟨0, by omega, rfl, HB1⟩
 case round =>
  clear HB1
  obtain ⟨i, hi, rfl, HM⟩ := hrel
  by_cases hin : i < n
  ·have hx : ∃ x, L[i]? = some x := ⟨L[i]'(by rw [← HN.out]; exact hin), by simp [← HN.out, hin]⟩
   obtain ⟨x, hx⟩ := hx
   have h1 := HST.out i x hx
   have hxg := HI.out x (List.mem_of_getElem? hx)
   have hxt : inG (mirC 0 x) = true := by rw [mir_in]; exact hxg
   have hxn := inG_iff.1 hxg
   obtain ⟨P, hP⟩ : ∃ P, P = A i := ⟨_, rfl⟩
   obtain ⟨Q, hQ⟩ : ∃ P, P = A (i + 1) := ⟨_, rfl⟩
   rw [← hP] at HM h1
   rw [← hQ] at h1
   obtain ⟨x0, x1, x2⟩ := x
   have hy : mirC 0 (x0, x1, x2) = (7 - x0, x1, x2) := rfl
   rw [hy] at h1 hxt
   have HW1 := Lib.hid fun W => refWith_spec P (7 - x0, x1, x2) hxt W
   rw [h1] at HW1
   simp only at hxn
   have e0 : IntKind.i64.wrap (7 - x0) = 7 - x0 := w64 ⟨by omega, by omega⟩
   have HQ := Lib.hid hQ
   have HX := Lib.hid hx
   obtain ⟨b, off, rfl, hcs, hNb⟩ := HM.out.2.2.2.at hx
   obtain ⟨z0, z1, z2⟩ := cl_cells hcs hx
   have lz := hcs.1
   clear h1 hxg hxt hP hQ hx hcs hNb hy hxn
   go_upto_region 9 with fail
   obtain ⟨wB, hwB⟩ : ∃ W, W = wr.alloc (.cells #[.int .i64 x0, .int .i64 x1, .int .i64 x2] 60) := ⟨_, rfl⟩
   obtain ⟨g9, hg9⟩ : ∃ g, g = wr.heap.size := ⟨_, rfl⟩
   have hB : Blk wB g9 #[.int .i64 x0, .int .i64 x1, .int .i64 x2] 60 ∧ Below wr.heap.size wr wB ∧ wr.heap.size ≤ g9 ∧ ga < g9 := by
    rw [hwB, hg9]
    exact ⟨Blk.new _ _ _, bel_alloc (bel_refl _) _, Nat.le_refl _, HM.out.1.lt⟩
   rw [← hwB, ← hg9]
   clear hwB hg9 z0 z1 z2 lz
   have HB := Lib.hid hB
   have k9 := hB.1
   have c9 := k9.cell; have l9 := k9.lt; have r9 := k9.row
   have hb9 := bel_row hB.2.1 hB.2.2.1 #[.int .i64 (7 - x0), .int .i64 x1, .int .i64 x2]
   have HE9 := Lib.hid (And.intro (k9.rowS #[.int .i64 (7 - x0), .int .i64 x1, .int .i64 x2]) hb9)
   have ca := (HM.out.1.grow HE9.out.2).cell; have la := (HM.out.1.grow HE9.out.2).lt
   have c99 := HE9.out.1.cell
   rw [← k9.rw]
   clear k9 hB hb9
   go_wp2_with fail
   refine (HW1.out _).mono ?_
   rintro e w5 ⟨rfl, hb⟩
   have hb5 := Lib.hid (bel_trans HE9.out.2 hb)
   clear hb c9 l9 r9 ca la c99
   have hM1 := HM.out.1.grow hb5.out
   have ho := HO.out
   have HE2 : Hid (Blk (w5.setRow ga #[.int .u64 (pl Q 0), .int .u64 (pl Q 1), .int .u64 (pl Q 2), .int .u64 (pl Q 3), .int .u64 (pl Q 4), .int .u64 (pl Q 5), .int .u64 (pl Q 6), .int .u64 (pl Q 7)]) ga #[.int .u64 (pl Q 0), .int .u64 (pl Q 1), .int .u64 (pl Q 2), .int .u64 (pl Q 3), .int .u64 (pl Q 4), .int .u64 (pl Q 5), .int .u64 (pl Q 6), .int .u64 (pl Q 7)] 26 ∧ Blk (w5.setRow ga #[.int .u64 (pl Q 0), .int .u64 (pl Q 1), .int .u64 (pl Q 2), .int .u64 (pl Q 3), .int .u64 (pl Q 4), .int .u64 (pl Q 5), .int .u64 (pl Q 6), .int .u64 (pl Q 7)]) gr #[.int .u64 0, .int .u64 0, .int .u64 0, .int .u64 0, .int .u64 0, .int .u64 0, .int .u64 0, .int .u64 0] 26 ∧ Below w.heap.size w (w5.setRow ga #[.int .u64 (pl Q 0), .int .u64 (pl Q 1), .int .u64 (pl Q 2), .int .u64 (pl Q 3), .int .u64 (pl Q 4), .int .u64 (pl Q 5), .int .u64 (pl Q 6), .int .u64 (pl Q 7)]) ∧ ClO N0 (w5.setRow ga #[.int .u64 (pl Q 0), .int .u64 (pl Q 1), .int .u64 (pl Q 2), .int .u64 (pl Q 3), .int .u64 (pl Q 4), .int .u64 (pl Q 5), .int .u64 (pl Q 6), .int .u64 (pl Q 7)]) (some ⟨b, off, none⟩) L) := Lib.hid ⟨hM1.rowS _, (HM.out.2.1.grow hb5.out).rowO _ (by omega), bel_row (bel_trans HM.out.2.2.1 hb5.out) (by omega) _, (HM.out.2.2.2.mono hb5.out).row (by omega) _⟩
   have rg := hM1.row; have lg2 := hM1.lt
   rw [← hM1.rw]
   clear hM1 ho
   go_wp2_with fail
   go_roundw
   case rel =>
    refine ⟨i + 1, by omega, by go_num, Lib.hid ?_⟩
    rw [← HQ.out]
    exact HE2.out
   case measure => simp [intOf]; omega
  ·obtain rfl : i = n := by omega
   have hM := HM.out
   rw [HE.out] at hM
   obtain ⟨k1, k2, k3, _⟩ := hM
   have ho := HO.out
   have c1 := (k1.rowO (g := gr) #[.int .u64 0, .int .u64 0, .int .u64 0, .int .u64 0, .int .u64 0, .int .u64 0, .int .u64 0, .int .u64 0] (by omega)).cell
   have l1 := k1.lt
   have r2 := k2.row; have l2 := k2.lt
   have cF := (k2.rowS #[.int .u64 (pl R 0), .int .u64 (pl R 1), .int .u64 (pl R 2), .int .u64 (pl R 3), .int .u64 (pl R 4), .int .u64 (pl R 5), .int .u64 (pl R 6), .int .u64 (pl R 7)]).cell
   have hb5 := bel_row k3 (g := gr) (by omega) #[.int .u64 (pl R 0), .int .u64 (pl R 1), .int .u64 (pl R 2), .int .u64 (pl R 3), .int .u64 (pl R 4), .int .u64 (pl R 5), .int .u64 (pl R 6), .int .u64 (pl R 7)]
   rw [← k2.rw]
   clear k1 k2 k3 HM ho
   go_wp2_with fail
   exact bodyPost_ret (v := .tuple #[solV R, .int .i64 0]) (by simp [results, Tryz.results75, go_sem, cF]) rfl ⟨rfl, hb5⟩
set_option maxHeartbeats 8000000 in
theorem refMir1 (s : Sol) (w : World) : Calls Tryz.prog 75 #[solV s, .int .i64 1] w fun e w' => e = .returned (.tuple #[solV (imgS (mirC 1) s), .int .i64 0]) ∧ Below w.heap.size w w' := by
 have HC := Lib.hid fun W => refCells_open s W
 have hE := accP_end (mirC 1) s
 have hin7 : ∀ c ∈ cellsS s, inG c = true := fun c hc => has_in (mem_cellsS.1 hc)
 have hlen := cells512 s
 obtain ⟨L, hL⟩ : ∃ L, L = cellsS s := ⟨_, rfl⟩
 rw [← hL] at HC hE hin7 hlen
 clear hL
 obtain ⟨R, hR⟩ : ∃ R, R = imgS (mirC 1) s := ⟨_, rfl⟩
 rw [← hR] at hE ⊢
 clear hR
 obtain ⟨n, hn⟩ : ∃ n, n = L.length := ⟨_, rfl⟩
 rw [← hn] at HC hE hlen
 have h0 : accP (mirC 1) L 0 = 0 := by unfold accP; rfl
 have hst : ∀ i c, L[i]? = some c → withS (accP (mirC 1) L i) (mirC 1 c) = accP (mirC 1) L (i + 1) := fun i c h => accP_step h
 obtain ⟨A, hA⟩ : ∃ A, A = accP (mirC 1) L := ⟨_, rfl⟩
 rw [← hA] at hE h0 hst
 have H0 := Lib.hid h0
 have HE := Lib.hid hE
 have HST := Lib.hid hst
 have HI := Lib.hid hin7
 have HN := Lib.hid hn
 clear hA h0 hE hst hin7 hn
 have HZ := Lib.hid zero_sols
 go_enter Tryz.func75, Tryz.ntmps75
 go_wp2_with fail
 obtain ⟨W0, hW0⟩ : ∃ W0, W0 = ((w.alloc (.cells #[.int .u64 (pl s 0), .int .u64 (pl s 1), .int .u64 (pl s 2), .int .u64 (pl s 3), .int .u64 (pl s 4), .int .u64 (pl s 5), .int .u64 (pl s 6), .int .u64 (pl s 7)] 26)).alloc (.cells #[.int .u64 0, .int .u64 0, .int .u64 0, .int .u64 0, .int .u64 0, .int .u64 0, .int .u64 0, .int .u64 0] 26)).alloc (.cells #[.int .u64 0, .int .u64 0, .int .u64 0, .int .u64 0, .int .u64 0, .int .u64 0, .int .u64 0, .int .u64 0] 26) := ⟨_, rfl⟩
 have b0 : Blk W0 (w.heap.size + 1) #[.int .u64 0, .int .u64 0, .int .u64 0, .int .u64 0, .int .u64 0, .int .u64 0, .int .u64 0, .int .u64 0] 26 ∧ Blk W0 (w.heap.size + 1 + 1) #[.int .u64 0, .int .u64 0, .int .u64 0, .int .u64 0, .int .u64 0, .int .u64 0, .int .u64 0, .int .u64 0] 26 ∧ Below w.heap.size w W0 ∧ W0.heap.size = w.heap.size + 1 + 1 + 1 := by
  rw [hW0]
  exact ⟨(by repeat (first | with_reducible assumption | (refine Blk.at _ _ ?_; (simp; done)) | with_reducible refine Blk.alloc ?_ _ | with_reducible refine Blk.drew ?_ | with_reducible refine Blk.rowS ?_ _ | with_reducible refine Blk.rowO ?_ _ (by simp))), Blk.at _ _ (by simp), (by repeat (first | with_reducible exact bel_refl _ | with_reducible assumption | with_reducible refine bel_drewN ?_ _ | with_reducible refine bel_drew ?_ | with_reducible refine bel_alloc ?_ _ | with_reducible refine bel_row ?_ ?_ _ | with_reducible refine bel_set ?_ ?_ _ | refine bel_trans ?_ (by with_reducible assumption) | (simp; done) | (simp; omega))), by simp⟩
 rw [← hW0]
 clear hW0
 have HB := Lib.hid b0
 clear b0
 refine (HC.out _).mono ?_
 rintro e w1 ⟨⟨a, c, rfl, hcl⟩, hb⟩
 have HB1 := Lib.hid (And.intro (by rw [H0.out, HZ.out]; exact HB.out.2.1.grow hb : Blk w1 (w.heap.size + 1 + 1) #[.int .u64 (pl (A 0) 0), .int .u64 (pl (A 0) 1), .int .u64 (pl (A 0) 2), .int .u64 (pl (A 0) 3), .int .u64 (pl (A 0) 4), .int .u64 (pl (A 0) 5), .int .u64 (pl (A 0) 6), .int .u64 (pl (A 0) 7)] 26) (And.intro (HB.out.1.grow hb) (And.intro (bel_trans HB.out.2.2.1 hb) hcl)))
 have HB0 := Lib.hid HB.out.2.2.2
 clear hb hcl HB
 obtain ⟨gr, hgr⟩ : ∃ g, g = w.heap.size + 1 := ⟨_, rfl⟩
 obtain ⟨ga, hga⟩ : ∃ g, g = w.heap.size + 1 + 1 := ⟨_, rfl⟩
 obtain ⟨N0, hN0⟩ : ∃ g, g = W0.heap.size := ⟨_, rfl⟩
 have hs0 := HB0.out
 rw [← hN0] at HB1 hs0
 rw [← hga, ← hgr] at HB1
 rw [← hga, ← hgr]
 have HO : Hid (gr = w.heap.size + 1 ∧ ga = w.heap.size + 1 + 1 ∧ N0 = w.heap.size + 1 + 1 + 1) := Lib.hid ⟨hgr, hga, hs0⟩
 clear hgr hga hN0 hs0 HB0
 go_wp2_with fail
 go_loopw [8] (fun iv wx => ∃ i : Nat, i ≤ n ∧ iv = .int .i64 i ∧ Hid (Blk wx ga #[.int .u64 (pl (A i) 0), .int .u64 (pl (A i) 1), .int .u64 (pl (A i) 2), .int .u64 (pl (A i) 3), .int .u64 (pl (A i) 4), .int .u64 (pl (A i) 5), .int .u64 (pl (A i) 6), .int .u64 (pl (A i) 7)] 26 ∧ Blk wx gr #[.int .u64 0, .int .u64 0, .int .u64 0, .int .u64 0, .int .u64 0, .int .u64 0, .int .u64 0, .int .u64 0] 26 ∧ Below w.heap.size w wx ∧ ClO N0 wx a L)) (fun iv _ => n - (intOf iv).toNat)
 case atStart => exact ⟨0, by omega, rfl, HB1⟩
 case round =>
  clear HB1
  obtain ⟨i, hi, rfl, HM⟩ := hrel
  by_cases hin : i < n
  ·have hx : ∃ x, L[i]? = some x := ⟨L[i]'(by rw [← HN.out]; exact hin), by simp [← HN.out, hin]⟩
   obtain ⟨x, hx⟩ := hx
   have h1 := HST.out i x hx
   have hxg := HI.out x (List.mem_of_getElem? hx)
   have hxt : inG (mirC 1 x) = true := by rw [mir_in]; exact hxg
   have hxn := inG_iff.1 hxg
   obtain ⟨P, hP⟩ : ∃ P, P = A i := ⟨_, rfl⟩
   obtain ⟨Q, hQ⟩ : ∃ P, P = A (i + 1) := ⟨_, rfl⟩
   rw [← hP] at HM h1
   rw [← hQ] at h1
   obtain ⟨x0, x1, x2⟩ := x
   have hy : mirC 1 (x0, x1, x2) = (x0, 7 - x1, x2) := rfl
   rw [hy] at h1 hxt
   have HW1 := Lib.hid fun W => refWith_spec P (x0, 7 - x1, x2) hxt W
   rw [h1] at HW1
   simp only at hxn
   have e0 : IntKind.i64.wrap (7 - x1) = 7 - x1 := w64 ⟨by omega, by omega⟩
   have HQ := Lib.hid hQ
   have HX := Lib.hid hx
   obtain ⟨b, off, rfl, hcs, hNb⟩ := HM.out.2.2.2.at hx
   obtain ⟨z0, z1, z2⟩ := cl_cells hcs hx
   have lz := hcs.1
   clear h1 hxg hxt hP hQ hx hcs hNb hy hxn
   go_upto_region 9 with fail
   obtain ⟨wB, hwB⟩ : ∃ W, W = wr.alloc (.cells #[.int .i64 x0, .int .i64 x1, .int .i64 x2] 60) := ⟨_, rfl⟩
   obtain ⟨g9, hg9⟩ : ∃ g, g = wr.heap.size := ⟨_, rfl⟩
   have hB : Blk wB g9 #[.int .i64 x0, .int .i64 x1, .int .i64 x2] 60 ∧ Below wr.heap.size wr wB ∧ wr.heap.size ≤ g9 ∧ ga < g9 := by
    rw [hwB, hg9]
    exact ⟨Blk.new _ _ _, bel_alloc (bel_refl _) _, Nat.le_refl _, HM.out.1.lt⟩
   rw [← hwB, ← hg9]
   clear hwB hg9 z0 z1 z2 lz
   have HB := Lib.hid hB
   have k9 := hB.1
   have c9 := k9.cell; have l9 := k9.lt; have r9 := k9.row
   have hb9 := bel_row hB.2.1 hB.2.2.1 #[.int .i64 x0, .int .i64 (7 - x1), .int .i64 x2]
   have HE9 := Lib.hid (And.intro (k9.rowS #[.int .i64 x0, .int .i64 (7 - x1), .int .i64 x2]) hb9)
   have ca := (HM.out.1.grow HE9.out.2).cell; have la := (HM.out.1.grow HE9.out.2).lt
   have c99 := HE9.out.1.cell
   rw [← k9.rw]
   clear k9 hB hb9
   go_wp2_with fail
   refine (HW1.out _).mono ?_
   rintro e w5 ⟨rfl, hb⟩
   have hb5 := Lib.hid (bel_trans HE9.out.2 hb)
   clear hb c9 l9 r9 ca la c99
   have hM1 := HM.out.1.grow hb5.out
   have ho := HO.out
   have HE2 : Hid (Blk (w5.setRow ga #[.int .u64 (pl Q 0), .int .u64 (pl Q 1), .int .u64 (pl Q 2), .int .u64 (pl Q 3), .int .u64 (pl Q 4), .int .u64 (pl Q 5), .int .u64 (pl Q 6), .int .u64 (pl Q 7)]) ga #[.int .u64 (pl Q 0), .int .u64 (pl Q 1), .int .u64 (pl Q 2), .int .u64 (pl Q 3), .int .u64 (pl Q 4), .int .u64 (pl Q 5), .int .u64 (pl Q 6), .int .u64 (pl Q 7)] 26 ∧ Blk (w5.setRow ga #[.int .u64 (pl Q 0), .int .u64 (pl Q 1), .int .u64 (pl Q 2), .int .u64 (pl Q 3), .int .u64 (pl Q 4), .int .u64 (pl Q 5), .int .u64 (pl Q 6), .int .u64 (pl Q 7)]) gr #[.int .u64 0, .int .u64 0, .int .u64 0, .int .u64 0, .int .u64 0, .int .u64 0, .int .u64 0, .int .u64 0] 26 ∧ Below w.heap.size w (w5.setRow ga #[.int .u64 (pl Q 0), .int .u64 (pl Q 1), .int .u64 (pl Q 2), .int .u64 (pl Q 3), .int .u64 (pl Q 4), .int .u64 (pl Q 5), .int .u64 (pl Q 6), .int .u64 (pl Q 7)]) ∧ ClO N0 (w5.setRow ga #[.int .u64 (pl Q 0), .int .u64 (pl Q 1), .int .u64 (pl Q 2), .int .u64 (pl Q 3), .int .u64 (pl Q 4), .int .u64 (pl Q 5), .int .u64 (pl Q 6), .int .u64 (pl Q 7)]) (some ⟨b, off, none⟩) L) := Lib.hid ⟨hM1.rowS _, (HM.out.2.1.grow hb5.out).rowO _ (by omega), bel_row (bel_trans HM.out.2.2.1 hb5.out) (by omega) _, (HM.out.2.2.2.mono hb5.out).row (by omega) _⟩
   have rg := hM1.row; have lg2 := hM1.lt
   rw [← hM1.rw]
   clear hM1 ho
   go_wp2_with fail
   go_roundw
   case rel =>
    refine ⟨i + 1, by omega, by go_num, Lib.hid ?_⟩
    rw [← HQ.out]
    exact HE2.out
   case measure => simp [intOf]; omega
  ·obtain rfl : i = n := by omega
   have hM := HM.out
   rw [HE.out] at hM
   obtain ⟨k1, k2, k3, _⟩ := hM
   have ho := HO.out
   have c1 := (k1.rowO (g := gr) #[.int .u64 0, .int .u64 0, .int .u64 0, .int .u64 0, .int .u64 0, .int .u64 0, .int .u64 0, .int .u64 0] (by omega)).cell
   have l1 := k1.lt
   have r2 := k2.row; have l2 := k2.lt
   have cF := (k2.rowS #[.int .u64 (pl R 0), .int .u64 (pl R 1), .int .u64 (pl R 2), .int .u64 (pl R 3), .int .u64 (pl R 4), .int .u64 (pl R 5), .int .u64 (pl R 6), .int .u64 (pl R 7)]).cell
   have hb5 := bel_row k3 (g := gr) (by omega) #[.int .u64 (pl R 0), .int .u64 (pl R 1), .int .u64 (pl R 2), .int .u64 (pl R 3), .int .u64 (pl R 4), .int .u64 (pl R 5), .int .u64 (pl R 6), .int .u64 (pl R 7)]
   rw [← k2.rw]
   clear k1 k2 k3 HM ho
   go_wp2_with fail
   exact bodyPost_ret (v := .tuple #[solV R, .int .i64 0]) (by simp [results, Tryz.results75, go_sem, cF]) rfl ⟨rfl, hb5⟩
set_option maxHeartbeats 8000000 in
theorem refMir2 (s : Sol) (w : World) : Calls Tryz.prog 75 #[solV s, .int .i64 2] w fun e w' => e = .returned (.tuple #[solV (imgS (mirC 2) s), .int .i64 0]) ∧ Below w.heap.size w w' := by
 have HC := Lib.hid fun W => refCells_open s W
 have hE := accP_end (mirC 2) s
 have hin7 : ∀ c ∈ cellsS s, inG c = true := fun c hc => has_in (mem_cellsS.1 hc)
 have hlen := cells512 s
 obtain ⟨L, hL⟩ : ∃ L, L = cellsS s := ⟨_, rfl⟩
 rw [← hL] at HC hE hin7 hlen
 clear hL
 obtain ⟨R, hR⟩ : ∃ R, R = imgS (mirC 2) s := ⟨_, rfl⟩
 rw [← hR] at hE ⊢
 clear hR
 obtain ⟨n, hn⟩ : ∃ n, n = L.length := ⟨_, rfl⟩
 rw [← hn] at HC hE hlen
 have h0 : accP (mirC 2) L 0 = 0 := by unfold accP; rfl
 have hst : ∀ i c, L[i]? = some c → withS (accP (mirC 2) L i) (mirC 2 c) = accP (mirC 2) L (i + 1) := fun i c h => accP_step h
 obtain ⟨A, hA⟩ : ∃ A, A = accP (mirC 2) L := ⟨_, rfl⟩
 rw [← hA] at hE h0 hst
 have H0 := Lib.hid h0
 have HE := Lib.hid hE
 have HST := Lib.hid hst
 have HI := Lib.hid hin7
 have HN := Lib.hid hn
 clear hA h0 hE hst hin7 hn
 have HZ := Lib.hid zero_sols
 go_enter Tryz.func75, Tryz.ntmps75
 go_wp2_with fail
 obtain ⟨W0, hW0⟩ : ∃ W0, W0 = ((w.alloc (.cells #[.int .u64 (pl s 0), .int .u64 (pl s 1), .int .u64 (pl s 2), .int .u64 (pl s 3), .int .u64 (pl s 4), .int .u64 (pl s 5), .int .u64 (pl s 6), .int .u64 (pl s 7)] 26)).alloc (.cells #[.int .u64 0, .int .u64 0, .int .u64 0, .int .u64 0, .int .u64 0, .int .u64 0, .int .u64 0, .int .u64 0] 26)).alloc (.cells #[.int .u64 0, .int .u64 0, .int .u64 0, .int .u64 0, .int .u64 0, .int .u64 0, .int .u64 0, .int .u64 0] 26) := ⟨_, rfl⟩
 have b0 : Blk W0 (w.heap.size + 1) #[.int .u64 0, .int .u64 0, .int .u64 0, .int .u64 0, .int .u64 0, .int .u64 0, .int .u64 0, .int .u64 0] 26 ∧ Blk W0 (w.heap.size + 1 + 1) #[.int .u64 0, .int .u64 0, .int .u64 0, .int .u64 0, .int .u64 0, .int .u64 0, .int .u64 0, .int .u64 0] 26 ∧ Below w.heap.size w W0 ∧ W0.heap.size = w.heap.size + 1 + 1 + 1 := by
  rw [hW0]
  exact ⟨(by repeat (first | with_reducible assumption | (refine Blk.at _ _ ?_; (simp; done)) | with_reducible refine Blk.alloc ?_ _ | with_reducible refine Blk.drew ?_ | with_reducible refine Blk.rowS ?_ _ | with_reducible refine Blk.rowO ?_ _ (by simp))), Blk.at _ _ (by simp), (by repeat (first | with_reducible exact bel_refl _ | with_reducible assumption | with_reducible refine bel_drewN ?_ _ | with_reducible refine bel_drew ?_ | with_reducible refine bel_alloc ?_ _ | with_reducible refine bel_row ?_ ?_ _ | with_reducible refine bel_set ?_ ?_ _ | refine bel_trans ?_ (by with_reducible assumption) | (simp; done) | (simp; omega))), by simp⟩
 rw [← hW0]
 clear hW0
 have HB := Lib.hid b0
 clear b0
 refine (HC.out _).mono ?_
 rintro e w1 ⟨⟨a, c, rfl, hcl⟩, hb⟩
 have HB1 := Lib.hid (And.intro (by rw [H0.out, HZ.out]; exact HB.out.2.1.grow hb : Blk w1 (w.heap.size + 1 + 1) #[.int .u64 (pl (A 0) 0), .int .u64 (pl (A 0) 1), .int .u64 (pl (A 0) 2), .int .u64 (pl (A 0) 3), .int .u64 (pl (A 0) 4), .int .u64 (pl (A 0) 5), .int .u64 (pl (A 0) 6), .int .u64 (pl (A 0) 7)] 26) (And.intro (HB.out.1.grow hb) (And.intro (bel_trans HB.out.2.2.1 hb) hcl)))
 have HB0 := Lib.hid HB.out.2.2.2
 clear hb hcl HB
 obtain ⟨gr, hgr⟩ : ∃ g, g = w.heap.size + 1 := ⟨_, rfl⟩
 obtain ⟨ga, hga⟩ : ∃ g, g = w.heap.size + 1 + 1 := ⟨_, rfl⟩
 obtain ⟨N0, hN0⟩ : ∃ g, g = W0.heap.size := ⟨_, rfl⟩
 have hs0 := HB0.out
 rw [← hN0] at HB1 hs0
 rw [← hga, ← hgr] at HB1
 rw [← hga, ← hgr]
 have HO : Hid (gr = w.heap.size + 1 ∧ ga = w.heap.size + 1 + 1 ∧ N0 = w.heap.size + 1 + 1 + 1) := Lib.hid ⟨hgr, hga, hs0⟩
 clear hgr hga hN0 hs0 HB0
 go_wp2_with fail
 go_loopw [8] (fun iv wx => ∃ i : Nat, i ≤ n ∧ iv = .int .i64 i ∧ Hid (Blk wx ga #[.int .u64 (pl (A i) 0), .int .u64 (pl (A i) 1), .int .u64 (pl (A i) 2), .int .u64 (pl (A i) 3), .int .u64 (pl (A i) 4), .int .u64 (pl (A i) 5), .int .u64 (pl (A i) 6), .int .u64 (pl (A i) 7)] 26 ∧ Blk wx gr #[.int .u64 0, .int .u64 0, .int .u64 0, .int .u64 0, .int .u64 0, .int .u64 0, .int .u64 0, .int .u64 0] 26 ∧ Below w.heap.size w wx ∧ ClO N0 wx a L)) (fun iv _ => n - (intOf iv).toNat)
 case atStart => exact ⟨0, by omega, rfl, HB1⟩
 case round =>
  clear HB1
  obtain ⟨i, hi, rfl, HM⟩ := hrel
  by_cases hin : i < n
  ·have hx : ∃ x, L[i]? = some x := ⟨L[i]'(by rw [← HN.out]; exact hin), by simp [← HN.out, hin]⟩
   obtain ⟨x, hx⟩ := hx
   have h1 := HST.out i x hx
   have hxg := HI.out x (List.mem_of_getElem? hx)
   have hxt : inG (mirC 2 x) = true := by rw [mir_in]; exact hxg
   have hxn := inG_iff.1 hxg
   obtain ⟨P, hP⟩ : ∃ P, P = A i := ⟨_, rfl⟩
   obtain ⟨Q, hQ⟩ : ∃ P, P = A (i + 1) := ⟨_, rfl⟩
   rw [← hP] at HM h1
   rw [← hQ] at h1
   obtain ⟨x0, x1, x2⟩ := x
   have hy : mirC 2 (x0, x1, x2) = (x0, x1, 7 - x2) := rfl
   rw [hy] at h1 hxt
   have HW1 := Lib.hid fun W => refWith_spec P (x0, x1, 7 - x2) hxt W
   rw [h1] at HW1
   simp only at hxn
   have e0 : IntKind.i64.wrap (7 - x2) = 7 - x2 := w64 ⟨by omega, by omega⟩
   have HQ := Lib.hid hQ
   have HX := Lib.hid hx
   obtain ⟨b, off, rfl, hcs, hNb⟩ := HM.out.2.2.2.at hx
   obtain ⟨z0, z1, z2⟩ := cl_cells hcs hx
   have lz := hcs.1
   clear h1 hxg hxt hP hQ hx hcs hNb hy hxn
   go_upto_region 9 with fail
   obtain ⟨wB, hwB⟩ : ∃ W, W = wr.alloc (.cells #[.int .i64 x0, .int .i64 x1, .int .i64 x2] 60) := ⟨_, rfl⟩
   obtain ⟨g9, hg9⟩ : ∃ g, g = wr.heap.size := ⟨_, rfl⟩
   have hB : Blk wB g9 #[.int .i64 x0, .int .i64 x1, .int .i64 x2] 60 ∧ Below wr.heap.size wr wB ∧ wr.heap.size ≤ g9 ∧ ga < g9 := by
    rw [hwB, hg9]
    exact ⟨Blk.new _ _ _, bel_alloc (bel_refl _) _, Nat.le_refl _, HM.out.1.lt⟩
   rw [← hwB, ← hg9]
   clear hwB hg9 z0 z1 z2 lz
   have HB := Lib.hid hB
   have k9 := hB.1
   have c9 := k9.cell; have l9 := k9.lt; have r9 := k9.row
   have hb9 := bel_row hB.2.1 hB.2.2.1 #[.int .i64 x0, .int .i64 x1, .int .i64 (7 - x2)]
   have HE9 := Lib.hid (And.intro (k9.rowS #[.int .i64 x0, .int .i64 x1, .int .i64 (7 - x2)]) hb9)
   have ca := (HM.out.1.grow HE9.out.2).cell; have la := (HM.out.1.grow HE9.out.2).lt
   have c99 := HE9.out.1.cell
   rw [← k9.rw]
   clear k9 hB hb9
   go_wp2_with fail
   refine (HW1.out _).mono ?_
   rintro e w5 ⟨rfl, hb⟩
   have hb5 := Lib.hid (bel_trans HE9.out.2 hb)
   clear hb c9 l9 r9 ca la c99
   have hM1 := HM.out.1.grow hb5.out
   have ho := HO.out
   have HE2 : Hid (Blk (w5.setRow ga #[.int .u64 (pl Q 0), .int .u64 (pl Q 1), .int .u64 (pl Q 2), .int .u64 (pl Q 3), .int .u64 (pl Q 4), .int .u64 (pl Q 5), .int .u64 (pl Q 6), .int .u64 (pl Q 7)]) ga #[.int .u64 (pl Q 0), .int .u64 (pl Q 1), .int .u64 (pl Q 2), .int .u64 (pl Q 3), .int .u64 (pl Q 4), .int .u64 (pl Q 5), .int .u64 (pl Q 6), .int .u64 (pl Q 7)] 26 ∧ Blk (w5.setRow ga #[.int .u64 (pl Q 0), .int .u64 (pl Q 1), .int .u64 (pl Q 2), .int .u64 (pl Q 3), .int .u64 (pl Q 4), .int .u64 (pl Q 5), .int .u64 (pl Q 6), .int .u64 (pl Q 7)]) gr #[.int .u64 0, .int .u64 0, .int .u64 0, .int .u64 0, .int .u64 0, .int .u64 0, .int .u64 0, .int .u64 0] 26 ∧ Below w.heap.size w (w5.setRow ga #[.int .u64 (pl Q 0), .int .u64 (pl Q 1), .int .u64 (pl Q 2), .int .u64 (pl Q 3), .int .u64 (pl Q 4), .int .u64 (pl Q 5), .int .u64 (pl Q 6), .int .u64 (pl Q 7)]) ∧ ClO N0 (w5.setRow ga #[.int .u64 (pl Q 0), .int .u64 (pl Q 1), .int .u64 (pl Q 2), .int .u64 (pl Q 3), .int .u64 (pl Q 4), .int .u64 (pl Q 5), .int .u64 (pl Q 6), .int .u64 (pl Q 7)]) (some ⟨b, off, none⟩) L) := Lib.hid ⟨hM1.rowS _, (HM.out.2.1.grow hb5.out).rowO _ (by omega), bel_row (bel_trans HM.out.2.2.1 hb5.out) (by omega) _, (HM.out.2.2.2.mono hb5.out).row (by omega) _⟩
   have rg := hM1.row; have lg2 := hM1.lt
   rw [← hM1.rw]
   clear hM1 ho
   go_wp2_with fail
   go_roundw
   case rel =>
    refine ⟨i + 1, by omega, by go_num, Lib.hid ?_⟩
    rw [← HQ.out]
    exact HE2.out
   case measure => simp [intOf]; omega
  ·obtain rfl : i = n := by omega
   have hM := HM.out
   rw [HE.out] at hM
   obtain ⟨k1, k2, k3, _⟩ := hM
   have ho := HO.out
   have c1 := (k1.rowO (g := gr) #[.int .u64 0, .int .u64 0, .int .u64 0, .int .u64 0, .int .u64 0, .int .u64 0, .int .u64 0, .int .u64 0] (by omega)).cell
   have l1 := k1.lt
   have r2 := k2.row; have l2 := k2.lt
   have cF := (k2.rowS #[.int .u64 (pl R 0), .int .u64 (pl R 1), .int .u64 (pl R 2), .int .u64 (pl R 3), .int .u64 (pl R 4), .int .u64 (pl R 5), .int .u64 (pl R 6), .int .u64 (pl R 7)]).cell
   have hb5 := bel_row k3 (g := gr) (by omega) #[.int .u64 (pl R 0), .int .u64 (pl R 1), .int .u64 (pl R 2), .int .u64 (pl R 3), .int .u64 (pl R 4), .int .u64 (pl R 5), .int .u64 (pl R 6), .int .u64 (pl R 7)]
   rw [← k2.rw]
   clear k1 k2 k3 HM ho
   go_wp2_with fail
   exact bodyPost_ret (v := .tuple #[solV R, .int .i64 0]) (by simp [results, Tryz.results75, go_sem, cF]) rfl ⟨rfl, hb5⟩
set_option maxHeartbeats 4000000 in
theorem refMirrored_n (s : Sol) (tt : Int) (w : World) : Calls Tryz.prog 75 #[solV s, .int .i64 tt] w fun e w' => e = .returned (.tuple #[solV (mirroredM s tt).1, .int .i64 (mirroredM s tt).2]) ∧ Below w.heap.size w w' := by
 by_cases hin : inB tt 0 2 = true
 ·have hM : mirroredM s tt = (imgS (mirC tt.toNat) s, 0) := by unfold mirroredM; rw [if_pos hin]
  rw [hM]
  have := inB_iff.1 hin
  obtain rfl | rfl | rfl : tt = 0 ∨ tt = 1 ∨ tt = 2 := by omega
  ·exact refMir0 s w
  ·exact refMir1 s w
  ·exact refMir2 s w
 ·have hM : mirroredM s tt = (0, 1) := by unfold mirroredM; rw [if_neg hin]
  rw [hM]
  have hno : tt < 0 ∨ 2 < tt := by
   have hh : ¬ (0 ≤ tt ∧ tt ≤ 2) := fun h => hin (inB_iff.2 h)
   omega
  clear hin hM
  have HZ := Lib.hid zero_solV
  rcases hno with h1 | h1
  all_goals
   have h2 : ¬ (0 ≤ tt ∧ tt ≤ 2) := by omega
   go_enter Tryz.func75, Tryz.ntmps75
   go_upto_region 1 with fail
   obtain ⟨W0, hW0⟩ : ∃ W0, W0 = (w.alloc (.cells #[.int .u64 (pl s 0), .int .u64 (pl s 1), .int .u64 (pl s 2), .int .u64 (pl s 3), .int .u64 (pl s 4), .int .u64 (pl s 5), .int .u64 (pl s 6), .int .u64 (pl s 7)] 26)).alloc (.cells #[.int .u64 0, .int .u64 0, .int .u64 0, .int .u64 0, .int .u64 0, .int .u64 0, .int .u64 0, .int .u64 0] 26) := ⟨_, rfl⟩
   have b1 : Blk W0 (w.heap.size + 1) #[.int .u64 0, .int .u64 0, .int .u64 0, .int .u64 0, .int .u64 0, .int .u64 0, .int .u64 0, .int .u64 0] 26 := by rw [hW0]; exact Blk.at _ _ (by simp)
   have hbw : Below w.heap.size w W0 := by rw [hW0]; exact (by repeat (first | with_reducible exact bel_refl _ | with_reducible assumption | with_reducible refine bel_drewN ?_ _ | with_reducible refine bel_drew ?_ | with_reducible refine bel_alloc ?_ _ | with_reducible refine bel_row ?_ ?_ _ | with_reducible refine bel_set ?_ ?_ _ | refine bel_trans ?_ (by with_reducible assumption) | (simp; done) | (simp; omega)))
   rw [← hW0]
   clear hW0
   have r1 := b1.row; have l1 := b1.lt
   have cF := (b1.rowS #[.int .u64 0, .int .u64 0, .int .u64 0, .int .u64 0, .int .u64 0, .int .u64 0, .int .u64 0, .int .u64 0]).cell
   have hb5 := bel_row hbw (g := w.heap.size + 1) (by omega) #[.int .u64 0, .int .u64 0, .int .u64 0, .int .u64 0, .int .u64 0, .int .u64 0, .int .u64 0, .int .u64 0]
   rw [← b1.rw]
   clear b1 hbw
   go_wp2_with fail
   exact bodyPost_ret (v := .tuple #[solV 0, .int .i64 1]) (by rw [HZ.out]; simp [results, Tryz.results75, go_sem, cF]) rfl ⟨rfl, hb5⟩
attribute [local irreducible] turnedM movedM
set_option maxHeartbeats 8000000 in
theorem refPlaced_n (s : Sol) (tt : Int) (d : Cl) (w : World) : Calls Tryz.prog 76 #[solV s, motV tt d] w fun e w' => e = .returned (.tuple #[solV (placedM s tt d).1, .int .i64 (placedM s tt d).2]) ∧ Below w.heap.size w w' := by
 have HMo := Lib.hid fun W => refMotion_spec tt d W
 have HZ := Lib.hid zero_solV
 cases hr : rightB tt d with
 | false =>
  have hM : placedM s tt d = (0, 1) := by unfold placedM; rw [if_neg (by rw [hr]; decide)]
  rw [hM]
  rw [hr] at HMo
  clear hM hr
  go_enter Tryz.func76, Tryz.ntmps76
  go_wp2_with fail
  obtain ⟨W0, hW0⟩ : ∃ W0, W0 = ((w.alloc (.cells #[.int .u64 (pl s 0), .int .u64 (pl s 1), .int .u64 (pl s 2), .int .u64 (pl s 3), .int .u64 (pl s 4), .int .u64 (pl s 5), .int .u64 (pl s 6), .int .u64 (pl s 7)] 26)).alloc (.cells #[.int .i64 tt, .int .i64 d.1, .int .i64 d.2.1, .int .i64 d.2.2] 23)).alloc (.cells #[.int .u64 0, .int .u64 0, .int .u64 0, .int .u64 0, .int .u64 0, .int .u64 0, .int .u64 0, .int .u64 0] 26) := ⟨_, rfl⟩
  have b0 : Blk W0 (w.heap.size + 1 + 1) #[.int .u64 0, .int .u64 0, .int .u64 0, .int .u64 0, .int .u64 0, .int .u64 0, .int .u64 0, .int .u64 0] 26 ∧ Below w.heap.size w W0 := by
   rw [hW0]
   exact ⟨Blk.at _ _ (by simp), (by repeat (first | with_reducible exact bel_refl _ | with_reducible assumption | with_reducible refine bel_drewN ?_ _ | with_reducible refine bel_drew ?_ | with_reducible refine bel_alloc ?_ _ | with_reducible refine bel_row ?_ ?_ _ | with_reducible refine bel_set ?_ ?_ _ | refine bel_trans ?_ (by with_reducible assumption) | (simp; done) | (simp; omega)))⟩
  rw [← hW0]
  clear hW0
  refine (HMo.out _).mono ?_
  rintro e w1 ⟨rfl, hb⟩
  have k2 := b0.1.grow hb
  have r2 := k2.row; have l2 := k2.lt
  have cF := (k2.rowS #[.int .u64 0, .int .u64 0, .int .u64 0, .int .u64 0, .int .u64 0, .int .u64 0, .int .u64 0, .int .u64 0]).cell
  have hb5 := bel_row (bel_trans b0.2 hb) (g := w.heap.size + 1 + 1) (by omega) #[.int .u64 0, .int .u64 0, .int .u64 0, .int .u64 0, .int .u64 0, .int .u64 0, .int .u64 0, .int .u64 0]
  rw [← k2.rw]
  clear k2 b0 hb
  go_wp2_with fail
  exact bodyPost_ret (v := .tuple #[solV 0, .int .i64 1]) (by rw [HZ.out]; simp [results, Tryz.results76, go_sem, cF]) rfl ⟨rfl, hb5⟩
 | true =>
  have hM : placedM s tt d = movedM (spunS s tt.toNat) d := by unfold placedM; rw [if_pos hr]
  have hin := (rightB_iff.1 hr).1
  have hTm : turnedM s tt = (spunS s tt.toNat, 0) := by unfold turnedM; rw [if_pos (inB_iff.2 hin)]
  have HTu := Lib.hid fun W => refTurned_n s tt W
  rw [hTm] at HTu
  rw [hM]
  rw [hr] at HMo
  obtain ⟨q, hq⟩ : ∃ q, q = spunS s tt.toNat := ⟨_, rfl⟩
  rw [← hq] at HTu ⊢
  have HMv := Lib.hid fun W => refMoved_n q d W
  obtain ⟨p, e, hpe⟩ : ∃ p e, movedM q d = (p, e) := ⟨_, _, rfl⟩
  rw [hpe] at HMv ⊢
  obtain ⟨d0, d1, d2⟩ := d
  clear hpe hq hM hr hTm hin
  go_enter Tryz.func76, Tryz.ntmps76
  go_wp2_with fail
  obtain ⟨W0, hW0⟩ : ∃ W0, W0 = ((w.alloc (.cells #[.int .u64 (pl s 0), .int .u64 (pl s 1), .int .u64 (pl s 2), .int .u64 (pl s 3), .int .u64 (pl s 4), .int .u64 (pl s 5), .int .u64 (pl s 6), .int .u64 (pl s 7)] 26)).alloc (.cells #[.int .i64 tt, .int .i64 d0, .int .i64 d1, .int .i64 d2] 23)).alloc (.cells #[.int .u64 0, .int .u64 0, .int .u64 0, .int .u64 0, .int .u64 0, .int .u64 0, .int .u64 0, .int .u64 0] 26) := ⟨_, rfl⟩
  have b0 : Blk W0 w.heap.size #[.int .u64 (pl s 0), .int .u64 (pl s 1), .int .u64 (pl s 2), .int .u64 (pl s 3), .int .u64 (pl s 4), .int .u64 (pl s 5), .int .u64 (pl s 6), .int .u64 (pl s 7)] 26 ∧ Blk W0 (w.heap.size + 1) #[.int .i64 tt, .int .i64 d0, .int .i64 d1, .int .i64 d2] 23 ∧ Blk W0 (w.heap.size + 1 + 1) #[.int .u64 0, .int .u64 0, .int .u64 0, .int .u64 0, .int .u64 0, .int .u64 0, .int .u64 0, .int .u64 0] 26 ∧ Below w.heap.size w W0 := by
   rw [hW0]
   exact ⟨(by repeat (first | with_reducible assumption | (refine Blk.at _ _ ?_; (simp; done)) | with_reducible refine Blk.alloc ?_ _ | with_reducible refine Blk.drew ?_ | with_reducible refine Blk.rowS ?_ _ | with_reducible refine Blk.rowO ?_ _ (by simp))), (by repeat (first | with_reducible assumption | (refine Blk.at _ _ ?_; (simp; done)) | with_reducible refine Blk.alloc ?_ _ | with_reducible refine Blk.drew ?_ | with_reducible refine Blk.rowS ?_ _ | with_reducible refine Blk.rowO ?_ _ (by simp))), Blk.at _ _ (by simp), (by repeat (first | with_reducible exact bel_refl _ | with_reducible assumption | with_reducible refine bel_drewN ?_ _ | with_reducible refine bel_drew ?_ | with_reducible refine bel_alloc ?_ _ | with_reducible refine bel_row ?_ ?_ _ | with_reducible refine bel_set ?_ ?_ _ | refine bel_trans ?_ (by with_reducible assumption) | (simp; done) | (simp; omega)))⟩
  rw [← hW0]
  clear hW0
  have HB := Lib.hid b0
  clear b0
  refine (HMo.out _).mono ?_
  rintro e1 w1 ⟨rfl, hb⟩
  have hb1 := Lib.hid hb
  have cs := (HB.out.1.grow hb).cell; have ls := (HB.out.1.grow hb).lt
  have cm := (HB.out.2.1.grow hb).cell; have lm := (HB.out.2.1.grow hb).lt
  clear hb
  go_wp2_with fail
  refine (HTu.out _).mono ?_
  rintro e1 w2 ⟨rfl, hb⟩
  have hb2 := Lib.hid (bel_trans hb1.out hb)
  clear hb cs ls cm lm
  have cm := ((HB.out.2.1.grow hb2.out).alloc (.cells #[.int .u64 (pl q 0), .int .u64 (pl q 1), .int .u64 (pl q 2), .int .u64 (pl q 3), .int .u64 (pl q 4), .int .u64 (pl q 5), .int .u64 (pl q 6), .int .u64 (pl q 7)] 26)).cell; have lm := ((HB.out.2.1.grow hb2.out).alloc (.cells #[.int .u64 (pl q 0), .int .u64 (pl q 1), .int .u64 (pl q 2), .int .u64 (pl q 3), .int .u64 (pl q 4), .int .u64 (pl q 5), .int .u64 (pl q 6), .int .u64 (pl q 7)] 26)).lt
  go_wp2_with fail
  refine (HMv.out _).mono ?_
  rintro e1 w3 ⟨rfl, hb⟩
  have hb3 := Lib.hid (bel_trans (bel_alloc hb2.out (.cells #[.int .u64 (pl q 0), .int .u64 (pl q 1), .int .u64 (pl q 2), .int .u64 (pl q 3), .int .u64 (pl q 4), .int .u64 (pl q 5), .int .u64 (pl q 6), .int .u64 (pl q 7)] 26)) hb)
  clear hb cm lm
  have k2 := HB.out.2.2.1.grow hb3.out
  have r2 := k2.row; have l2 := k2.lt
  have cF := (k2.rowS #[.int .u64 (pl p 0), .int .u64 (pl p 1), .int .u64 (pl p 2), .int .u64 (pl p 3), .int .u64 (pl p 4), .int .u64 (pl p 5), .int .u64 (pl p 6), .int .u64 (pl p 7)]).cell
  have hb5 := bel_row (bel_trans HB.out.2.2.2 hb3.out) (g := w.heap.size + 1 + 1) (by omega) #[.int .u64 (pl p 0), .int .u64 (pl p 1), .int .u64 (pl p 2), .int .u64 (pl p 3), .int .u64 (pl p 4), .int .u64 (pl p 5), .int .u64 (pl p 6), .int .u64 (pl p 7)]
  rw [← k2.rw]
  clear k2
  go_wp2_with fail
  exact bodyPost_ret (v := .tuple #[solV p, .int .i64 e]) (by simp [results, Tryz.results76, go_sem, cF]) rfl ⟨rfl, hb5⟩
end Go.Proofs.YtkfimbonmnoglaaGreatDoor
end
