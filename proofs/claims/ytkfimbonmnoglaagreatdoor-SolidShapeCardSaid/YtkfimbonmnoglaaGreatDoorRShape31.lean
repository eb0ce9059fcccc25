import Derived.Test.YtkfimbonmnoglaaGreatDoorRShape29
import Derived.Deep.Cut
/-
  Given contracts of functions of the program, and laws for them, one behind the other.
-/
set_option linter.unusedVariables false
set_option linter.unusedSimpArgs false
set_option linter.unusedSectionVars false
section
namespace Go.Proofs.YtkfimbonmnoglaaGreatDoor
open Go.RowKit Go.Rel Go.Draw Go.Solid
set_option maxRecDepth 100000
theorem wrap_small {x : Int} (h : -100 ≤ x ∧ x ≤ 100) : IntKind.i64.wrap x = x := w64 ⟨by omega, by omega⟩
theorem wrapQ {x : Int} (h : -100 ≤ x) (k : x ≤ 100) : IntKind.i64.wrap x = x := w64 ⟨by omega, by omega⟩
theorem wrapQ' {x : Int} (h : -100 ≤ x) (k : x ≤ 100) : wrap64 x = x := IntWalk.wrap64_in _ ⟨by omega, by omega⟩
set_option maxHeartbeats 4000000 in
theorem refFar_spec (a b : Cl) (ha : inG a = true) (hb : inG b = true) (w : World) : Calls Tryz.prog 146 #[clV a, clV b] w fun e w' => e = .returned (.tuple #[.int .i64 (farC a b).1, .int .i64 (farC a b).2]) ∧ Below w.heap.size w w' := by
 have ga := inG_iff.1 ha
 have gb := inG_iff.1 hb
 obtain ⟨a0, a1, a2⟩ := a
 obtain ⟨b0, b1, b2⟩ := b
 simp only at ga gb
 have hF : farC (a0, a1, a2) (b0, b1, b2) = (max (a0 - b0) (b0 - a0) + max (a1 - b1) (b1 - a1) + max (a2 - b2) (b2 - a2), max (max (max (a0 - b0) (b0 - a0)) (max (a1 - b1) (b1 - a1))) (max (a2 - b2) (b2 - a2))) := rfl
 rw [hF]
 have x0 : IntKind.i64.wrap (a0 - b0) = a0 - b0 := wrap_small ⟨by omega, by omega⟩
 have y0 : IntKind.i64.wrap (b0 - a0) = b0 - a0 := wrap_small ⟨by omega, by omega⟩
 have x1 : IntKind.i64.wrap (a1 - b1) = a1 - b1 := wrap_small ⟨by omega, by omega⟩
 have y1 : IntKind.i64.wrap (b1 - a1) = b1 - a1 := wrap_small ⟨by omega, by omega⟩
 have x2 : IntKind.i64.wrap (a2 - b2) = a2 - b2 := wrap_small ⟨by omega, by omega⟩
 have y2 : IntKind.i64.wrap (b2 - a2) = b2 - a2 := wrap_small ⟨by omega, by omega⟩
 have s1 : IntKind.i64.wrap (max (a0 - b0) (b0 - a0) + max (a1 - b1) (b1 - a1)) = max (a0 - b0) (b0 - a0) + max (a1 - b1) (b1 - a1) := wrap_small ⟨by omega, by omega⟩
 have s2 : IntKind.i64.wrap (max (a0 - b0) (b0 - a0) + max (a1 - b1) (b1 - a1) + max (a2 - b2) (b2 - a2)) = max (a0 - b0) (b0 - a0) + max (a1 - b1) (b1 - a1) + max (a2 - b2) (b2 - a2) := wrap_small ⟨by omega, by omega⟩
 have HGG := Lib.hid (And.intro ga gb)
 clear ha hb ga gb hF
 go_enter Tryz.func146, Tryz.ntmps146
 obtain ⟨A, hA⟩ : ∃ A, A = max (a0 - b0) (b0 - a0) + max (a1 - b1) (b1 - a1) + max (a2 - b2) (b2 - a2) := ⟨_, rfl⟩
 obtain ⟨B, hB⟩ : ∃ B, B = max (max (max (a0 - b0) (b0 - a0)) (max (a1 - b1) (b1 - a1))) (max (a2 - b2) (b2 - a2)) := ⟨_, rfl⟩
 have HAB := Lib.hid (And.intro hA hB)
 rw [← hA, ← hB]
 clear hA hB
 go_wp2_with fail
 all_goals refine bodyPost_ret (v := .tuple #[.int .i64 A, .int .i64 B]) ?_ rfl ⟨rfl, (by repeat (first | with_reducible exact bel_refl _ | with_reducible assumption | with_reducible refine bel_drewN ?_ _ | with_reducible refine bel_drew ?_ | with_reducible refine bel_alloc ?_ _ | with_reducible refine bel_row ?_ ?_ _ | with_reducible refine bel_set ?_ ?_ _ | refine bel_trans ?_ (by with_reducible assumption) | (simp; done) | (simp; omega)))⟩
 all_goals (have hA := HAB.out.1; have hB := HAB.out.2; have g := HGG.out; simp [results, Tryz.results146, go_sem])
 all_goals (first | omega | (refine ⟨?_, ?_⟩ <;> (try simp (disch := omega) only [wrapQ, wrapQ']) <;> first | omega | (split <;> omega)))
set_option maxHeartbeats 16000000 in
theorem refSome_spec (s : Sol) (l h : Cl) (hl : ∀ k, -1 ≤ co l k ∧ co l k ≤ 8) (hh : ∀ k, -1 ≤ co h k ∧ co h k ≤ 8) (w : World) : Calls Tryz.prog 112 #[solV s, clV l, clV h] w fun e w' => e = .returned (.bool (someB s l h)) ∧ Below w.heap.size w w' := by
 have HH := Lib.hid fun c W => refHas_spec s c W
 obtain ⟨l0, l1, l2⟩ := l
 obtain ⟨h0, h1, h2⟩ := h
 have gl : (-1 ≤ l0 ∧ l0 ≤ 8) ∧ (-1 ≤ l1 ∧ l1 ≤ 8) ∧ (-1 ≤ l2 ∧ l2 ≤ 8) := ⟨hl 0, hl 1, hl 2⟩
 have gh : (-1 ≤ h0 ∧ h0 ≤ 8) ∧ (-1 ≤ h1 ∧ h1 ≤ 8) ∧ (-1 ≤ h2 ∧ h2 ≤ 8) := ⟨hh 0, hh 1, hh 2⟩
 have hxs : ∀ z y x, x ≤ h0 → bkX (l0, l1, l2) (h0, h1, h2) z y x = (x, y, z) :: bkX (l0, l1, l2) (h0, h1, h2) z y (x + 1) := fun z y x k => bkX_step (l0, l1, l2) (h0, h1, h2) k
 have hxe : ∀ z y x, h0 < x → bkX (l0, l1, l2) (h0, h1, h2) z y x = bkY (l0, l1, l2) (h0, h1, h2) z (y + 1) := fun z y x k => bkX_end (l0, l1, l2) (h0, h1, h2) k
 have hys : ∀ z y, y ≤ h1 → bkY (l0, l1, l2) (h0, h1, h2) z y = bkX (l0, l1, l2) (h0, h1, h2) z y l0 := fun z y k => bkY_step (l0, l1, l2) (h0, h1, h2) k
 have hye : ∀ z y, h1 < y → bkY (l0, l1, l2) (h0, h1, h2) z y = bkH (l0, l1, l2) (h0, h1, h2) (z + 1) := fun z y k => bkY_end (l0, l1, l2) (h0, h1, h2) k
 have hzs : ∀ z, z ≤ h2 → bkH (l0, l1, l2) (h0, h1, h2) z = bkY (l0, l1, l2) (h0, h1, h2) z l1 := fun z k => bkH_step (l0, l1, l2) (h0, h1, h2) k
 have hze : ∀ z, h2 < z → bkH (l0, l1, l2) (h0, h1, h2) z = [] := fun z k => bkH_end (l0, l1, l2) (h0, h1, h2) k
 have hS : someB s (l0, l1, l2) (h0, h1, h2) = (bkH (l0, l1, l2) (h0, h1, h2) l2).any (hasS s) := rfl
 obtain ⟨FX, hFX⟩ : ∃ F, F = bkX (l0, l1, l2) (h0, h1, h2) := ⟨_, rfl⟩
 obtain ⟨FY, hFY⟩ : ∃ F, F = bkY (l0, l1, l2) (h0, h1, h2) := ⟨_, rfl⟩
 obtain ⟨FZ, hFZ⟩ : ∃ F, F = bkH (l0, l1, l2) (h0, h1, h2) := ⟨_, rfl⟩
 rw [← hFX] at hxs hxe hys
 rw [← hFY] at hxe hys hye hzs
 rw [← hFZ] at hye hzs hze hS
 obtain ⟨R, hR⟩ : ∃ R, R = someB s (l0, l1, l2) (h0, h1, h2) := ⟨_, rfl⟩
 rw [← hR] at hS ⊢
 have HXS := Lib.hid (And.intro hxs (And.intro hxe (And.intro hys (And.intro hye (And.intro hzs hze)))))
 have HR := Lib.hid hS
 have HG := Lib.hid (And.intro gl gh)
 clear hl hh gl gh hxs hxe hys hye hzs hze hFX hFY hFZ hR hS
 go_enter Tryz.func112, Tryz.ntmps112
 go_wp2_with fail
 obtain ⟨W0, hW0⟩ : ∃ W0, W0 = ((w.alloc (.cells #[.int .u64 (pl s 0), .int .u64 (pl s 1), .int .u64 (pl s 2), .int .u64 (pl s 3), .int .u64 (pl s 4), .int .u64 (pl s 5), .int .u64 (pl s 6), .int .u64 (pl s 7)] 26)).alloc (.cells #[.int .i64 l0, .int .i64 l1, .int .i64 l2] 60)).alloc (.cells #[.int .i64 h0, .int .i64 h1, .int .i64 h2] 60) := ⟨_, rfl⟩
 have HA : Hid (Blk W0 w.heap.size #[.int .u64 (pl s 0), .int .u64 (pl s 1), .int .u64 (pl s 2), .int .u64 (pl s 3), .int .u64 (pl s 4), .int .u64 (pl s 5), .int .u64 (pl s 6), .int .u64 (pl s 7)] 26 ∧ Blk W0 (w.heap.size + 1) #[.int .i64 l0, .int .i64 l1, .int .i64 l2] 60 ∧ Blk W0 (w.heap.size + 1 + 1) #[.int .i64 h0, .int .i64 h1, .int .i64 h2] 60 ∧ Below w.heap.size w W0) := Lib.hid (by
  rw [hW0]
  exact ⟨(by repeat (first | with_reducible assumption | (refine Blk.at _ _ ?_; (simp; done)) | with_reducible refine Blk.alloc ?_ _ | with_reducible refine Blk.drew ?_ | with_reducible refine Blk.rowS ?_ _ | with_reducible refine Blk.rowO ?_ _ (by simp))), (by repeat (first | with_reducible assumption | (refine Blk.at _ _ ?_; (simp; done)) | with_reducible refine Blk.alloc ?_ _ | with_reducible refine Blk.drew ?_ | with_reducible refine Blk.rowS ?_ _ | with_reducible refine Blk.rowO ?_ _ (by simp))), Blk.at _ _ (by simp), (by repeat (first | with_reducible exact bel_refl _ | with_reducible assumption | with_reducible refine bel_drewN ?_ _ | with_reducible refine bel_drew ?_ | with_reducible refine bel_alloc ?_ _ | with_reducible refine bel_row ?_ ?_ _ | with_reducible refine bel_set ?_ ?_ _ | refine bel_trans ?_ (by with_reducible assumption) | (simp; done) | (simp; omega)))⟩)
 rw [← hW0]
 clear hW0
 go_loopw [7] (fun zv wx => ∃ z : Int, l2 ≤ z ∧ zv = .int .i64 z ∧ Hid (z ≤ 9 ∧ R = (FZ z).any (hasS s) ∧ Blk wx w.heap.size #[.int .u64 (pl s 0), .int .u64 (pl s 1), .int .u64 (pl s 2), .int .u64 (pl s 3), .int .u64 (pl s 4), .int .u64 (pl s 5), .int .u64 (pl s 6), .int .u64 (pl s 7)] 26 ∧ Blk wx (w.heap.size + 1) #[.int .i64 l0, .int .i64 l1, .int .i64 l2] 60 ∧ Blk wx (w.heap.size + 1 + 1) #[.int .i64 h0, .int .i64 h1, .int .i64 h2] 60 ∧ Below w.heap.size w wx)) (fun zv _ => (10 - intOf zv).toNat)
 case atStart => exact ⟨l2, by omega, rfl, Lib.hid ⟨by have := HG.out.1; omega, HR.out, HA.out⟩⟩
 case round =>
  clear HA HR
  obtain ⟨z, hz1, rfl, HZl⟩ := hrel
  have cx := HZl.out.2.2.2.1.cell; have lx := HZl.out.2.2.2.1.lt
  have cy := HZl.out.2.2.2.2.1.cell; have ly := HZl.out.2.2.2.2.1.lt
  by_cases hz2 : z ≤ h2
  ·have hst := HZl.out.2.1
   rw [HXS.out.2.2.2.2.1 z hz2] at hst
   have HY0 := Lib.hid (And.intro hst HZl.out.2.2)
   have hz7 : -1 ≤ z ∧ z ≤ 8 := by have := HG.out; omega
   have hwz : wrap64 (z + 1) = z + 1 := IntWalk.wrap64_in _ ⟨by omega, by omega⟩
   clear hst HZl
   go_wp2_with fail
   clear cx lx cy ly
   go_loopw [8] (fun yv wx => ∃ y : Int, l1 ≤ y ∧ yv = .int .i64 y ∧ Hid (y ≤ 9 ∧ R = (FY z y).any (hasS s) ∧ Blk wx w.heap.size #[.int .u64 (pl s 0), .int .u64 (pl s 1), .int .u64 (pl s 2), .int .u64 (pl s 3), .int .u64 (pl s 4), .int .u64 (pl s 5), .int .u64 (pl s 6), .int .u64 (pl s 7)] 26 ∧ Blk wx (w.heap.size + 1) #[.int .i64 l0, .int .i64 l1, .int .i64 l2] 60 ∧ Blk wx (w.heap.size + 1 + 1) #[.int .i64 h0, .int .i64 h1, .int .i64 h2] 60 ∧ Below w.heap.size w wx)) (fun yv _ => (10 - intOf yv).toNat)
   case atStart => exact ⟨l1, by omega, rfl, Lib.hid ⟨by have := HG.out.1; omega, HY0.out⟩⟩
   case round =>
    clear HY0
    obtain ⟨y, hy1, rfl, HYl⟩ := hrel
    have cx := HYl.out.2.2.2.1.cell; have lx := HYl.out.2.2.2.1.lt
    have cy := HYl.out.2.2.2.2.1.cell; have ly := HYl.out.2.2.2.2.1.lt
    by_cases hy2 : y ≤ h1
    ·have hst := HYl.out.2.1
     rw [HXS.out.2.2.1 z y hy2] at hst
     have HX0 := Lib.hid (And.intro hst HYl.out.2.2)
     have hy7 : -1 ≤ y ∧ y ≤ 8 := by have := HG.out; omega
     have hwy : wrap64 (y + 1) = y + 1 := IntWalk.wrap64_in _ ⟨by omega, by omega⟩
     clear hst HYl
     go_wp2_with fail
     clear cx lx cy ly
     go_loopw [9] (fun xv wx => ∃ x : Int, l0 ≤ x ∧ xv = .int .i64 x ∧ Hid (x ≤ 9 ∧ R = (FX z y x).any (hasS s) ∧ Blk wx w.heap.size #[.int .u64 (pl s 0), .int .u64 (pl s 1), .int .u64 (pl s 2), .int .u64 (pl s 3), .int .u64 (pl s 4), .int .u64 (pl s 5), .int .u64 (pl s 6), .int .u64 (pl s 7)] 26 ∧ Blk wx (w.heap.size + 1) #[.int .i64 l0, .int .i64 l1, .int .i64 l2] 60 ∧ Blk wx (w.heap.size + 1 + 1) #[.int .i64 h0, .int .i64 h1, .int .i64 h2] 60 ∧ Below w.heap.size w wx)) (fun xv _ => (10 - intOf xv).toNat)
     case atStart => exact ⟨l0, by omega, rfl, Lib.hid ⟨by have := HG.out.1; omega, HX0.out⟩⟩
     case round =>
      clear HX0
      obtain ⟨x, hx1, rfl, HX⟩ := hrel
      have cx := HX.out.2.2.2.1.cell; have lx := HX.out.2.2.2.1.lt
      have cy := HX.out.2.2.2.2.1.cell; have ly := HX.out.2.2.2.2.1.lt
      by_cases hx2 : x ≤ h0
      ·have hst := HX.out.2.1
       rw [HXS.out.1 z y x hx2, List.any_cons] at hst
       have hx7 : -1 ≤ x ∧ x ≤ 8 := by have := HG.out; omega
       have hwx : wrap64 (x + 1) = x + 1 := IntWalk.wrap64_in _ ⟨by omega, by omega⟩
       have HW := Lib.hid fun W => HH.out (x, y, z) W
       obtain ⟨q, hq⟩ : ∃ q, q = hasS s (x, y, z) := ⟨_, rfl⟩
       rw [← hq] at HW hst
       have HS := Lib.hid hst
       have cs := HX.out.2.2.1.cell; have ls := HX.out.2.2.1.lt
       clear hst hq
       go_wp2_with fail
       clear cs ls cx lx cy ly
       refine (HW.out _).mono ?_
       rintro e w4 ⟨rfl, hb⟩
       have HE := Lib.hid (And.intro (HX.out.2.2.1.grow hb) (And.intro (HX.out.2.2.2.1.grow hb) (And.intro (HX.out.2.2.2.2.1.grow hb) (bel_trans HX.out.2.2.2.2.2 hb))))
       clear hb HX
       cases q
       ·have HS2 : Hid (R = (FX z y (x + 1)).any (hasS s)) := Lib.hid (by rw [HS.out]; rfl)
        clear HS
        go_wp2_with fail
        go_roundw
        case rel => exact ⟨x + 1, by omega, by go_num, Lib.hid ⟨by omega, HS2.out, HE.out⟩⟩
        case measure => simp [intOf]; omega
       ·have HS2 : Hid (R = true) := Lib.hid (by rw [HS.out]; rfl)
        clear HS
        go_wp2_with fail
        go_ret
        exact ⟨ret_bool HS2.out.symm, HE.out.2.2.2⟩
      ·have hst := HX.out.2.1
       rw [HXS.out.2.1 z y x (by omega)] at hst
       have HE := Lib.hid (And.intro hst HX.out.2.2)
       clear hst HX
       go_wp2_with fail
       go_roundw
       case rel => exact ⟨y + 1, by omega, by go_num, Lib.hid ⟨by omega, HE.out⟩⟩
       case measure => simp [intOf]; omega
    ·have hst := HYl.out.2.1
     rw [HXS.out.2.2.2.1 z y (by omega)] at hst
     have HE := Lib.hid (And.intro hst HYl.out.2.2)
     clear hst HYl
     go_wp2_with fail
     go_roundw
     case rel => exact ⟨z + 1, by omega, by go_num, Lib.hid ⟨by omega, HE.out⟩⟩
     case measure => simp [intOf]; omega
  ·have hst := HZl.out.2.1
   rw [HXS.out.2.2.2.2.2 z (by omega)] at hst
   have HE := Lib.hid (And.intro hst HZl.out.2.2.2.2.2)
   clear hst HZl
   go_wp2_with fail
   go_ret
   exact ⟨ret_bool HE.out.1.symm, HE.out.2⟩
end Go.Proofs.YtkfimbonmnoglaaGreatDoor
end
