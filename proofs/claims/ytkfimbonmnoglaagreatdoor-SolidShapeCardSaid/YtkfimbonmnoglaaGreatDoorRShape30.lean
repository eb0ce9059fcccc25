import Derived.Test.YtkfimbonmnoglaaGreatDoorRShape29
import Derived.Deep.Cut
import Derived.Laws.AppendOwn
/-
  Given contracts of functions of the program, and laws for them, one behind the other.
-/
set_option linter.unusedVariables false
set_option linter.unusedSimpArgs false
set_option linter.unusedSectionVars false
section
namespace Go.Proofs.YtkfimbonmnoglaaGreatDoor
open Go.RowKit Go.Rel Go.Draw Go.Solid
set_option maxRecDepth 100000
attribute [local irreducible] bkH bkY bkX addL
set_option maxHeartbeats 16000000 in
theorem refBlock_n (l h : Cl) (w : World) : Calls Tryz.prog 68 #[boxV l h] w fun e w' => e = .returned (.tuple #[solV (blockM l h).1, .int .i64 (blockM l h).2]) ∧ Below w.heap.size w w' := by
 have HL := Lib.hid fun W => inGrid_spec l W
 have HH := Lib.hid fun W => inGrid_spec h W
 have HZ := Lib.hid zero_sols
 have HZV := Lib.hid zero_solV
 obtain ⟨l0, l1, l2⟩ := l
 obtain ⟨h0, h1, h2⟩ := h
 cases hl : inG (l0, l1, l2) with
 | false =>
  have hM : blockM (l0, l1, l2) (h0, h1, h2) = (0, 1) := if_neg (by unfold okBox; simp [hl])
  rw [hM]
  rw [hl] at HL
  clear hM hl
  go_enter Tryz.func68, Tryz.ntmps68
  go_wp2_with fail
  obtain ⟨W0, hW0⟩ : ∃ W0, W0 = (w.alloc (.cells #[.int .i64 l0, .int .i64 l1, .int .i64 l2, .int .i64 h0, .int .i64 h1, .int .i64 h2] 62)).alloc (.cells #[.int .u64 0, .int .u64 0, .int .u64 0, .int .u64 0, .int .u64 0, .int .u64 0, .int .u64 0, .int .u64 0] 26) := ⟨_, rfl⟩
  have b0 : Blk W0 w.heap.size #[.int .i64 l0, .int .i64 l1, .int .i64 l2, .int .i64 h0, .int .i64 h1, .int .i64 h2] 62 ∧ Blk W0 (w.heap.size + 1) #[.int .u64 0, .int .u64 0, .int .u64 0, .int .u64 0, .int .u64 0, .int .u64 0, .int .u64 0, .int .u64 0] 26 ∧ Below w.heap.size w W0 ∧ W0.heap.size = w.heap.size + 1 + 1 := by
   rw [hW0]
   exact ⟨(by repeat (first | with_reducible assumption | (refine Blk.at _ _ ?_; (simp; done)) | with_reducible refine Blk.alloc ?_ _ | with_reducible refine Blk.drew ?_ | with_reducible refine Blk.rowS ?_ _ | with_reducible refine Blk.rowO ?_ _ (by simp))), Blk.at _ _ (by simp), (by repeat (first | with_reducible exact bel_refl _ | with_reducible assumption | with_reducible refine bel_drewN ?_ _ | with_reducible refine bel_drew ?_ | with_reducible refine bel_alloc ?_ _ | with_reducible refine bel_row ?_ ?_ _ | with_reducible refine bel_set ?_ ?_ _ | refine bel_trans ?_ (by with_reducible assumption) | (simp; done) | (simp; omega))), by simp⟩
  rw [← hW0]
  clear hW0
  have HB := Lib.hid b0
  clear b0
  refine (HL.out _).mono ?_
  rintro e w1 ⟨rfl, hb⟩
  have HB1 := Lib.hid (And.intro (HB.out.1.grow hb) (And.intro (HB.out.2.1.grow hb) (bel_trans HB.out.2.2.1 hb)))
  clear hb
  have k2 := HB1.out.2.1
  have cx := (HB1.out.1.rowO (g := w.heap.size + 1) #[.int .u64 0, .int .u64 0, .int .u64 0, .int .u64 0, .int .u64 0, .int .u64 0, .int .u64 0, .int .u64 0] (by omega)).cell; have lx := HB1.out.1.lt
  have cxx := HB1.out.1.cell
  have r2 := k2.row; have l2' := k2.lt
  have cF := (k2.rowS #[.int .u64 0, .int .u64 0, .int .u64 0, .int .u64 0, .int .u64 0, .int .u64 0, .int .u64 0, .int .u64 0]).cell
  have hb5 := bel_row HB1.out.2.2 (g := w.heap.size + 1) (by omega) #[.int .u64 0, .int .u64 0, .int .u64 0, .int .u64 0, .int .u64 0, .int .u64 0, .int .u64 0, .int .u64 0]
  rw [← k2.rw]
  clear k2
  go_wp2_with fail
  exact bodyPost_ret (v := .tuple #[solV 0, .int .i64 1]) (by rw [HZV.out]; simp [results, Tryz.results68, go_sem, cF]) rfl ⟨rfl, hb5⟩
 | true =>
  rw [hl] at HL
  cases hh : inG (h0, h1, h2) with
  | false =>
   have hM : blockM (l0, l1, l2) (h0, h1, h2) = (0, 1) := if_neg (by unfold okBox; simp [hh])
   rw [hM]
   rw [hh] at HH
   clear hM hl hh
   go_enter Tryz.func68, Tryz.ntmps68
   go_wp2_with fail
   obtain ⟨W0, hW0⟩ : ∃ W0, W0 = (w.alloc (.cells #[.int .i64 l0, .int .i64 l1, .int .i64 l2, .int .i64 h0, .int .i64 h1, .int .i64 h2] 62)).alloc (.cells #[.int .u64 0, .int .u64 0, .int .u64 0, .int .u64 0, .int .u64 0, .int .u64 0, .int .u64 0, .int .u64 0] 26) := ⟨_, rfl⟩
   have b0 : Blk W0 w.heap.size #[.int .i64 l0, .int .i64 l1, .int .i64 l2, .int .i64 h0, .int .i64 h1, .int .i64 h2] 62 ∧ Blk W0 (w.heap.size + 1) #[.int .u64 0, .int .u64 0, .int .u64 0, .int .u64 0, .int .u64 0, .int .u64 0, .int .u64 0, .int .u64 0] 26 ∧ Below w.heap.size w W0 ∧ W0.heap.size = w.heap.size + 1 + 1 := by
    rw [hW0]
    exact ⟨(by repeat (first | with_reducible assumption | (refine Blk.at _ _ ?_; (simp; done)) | with_reducible refine Blk.alloc ?_ _ | with_reducible refine Blk.drew ?_ | with_reducible refine Blk.rowS ?_ _ | with_reducible refine Blk.rowO ?_ _ (by simp))), Blk.at _ _ (by simp), (by repeat (first | with_reducible exact bel_refl _ | with_reducible assumption | with_reducible refine bel_drewN ?_ _ | with_reducible refine bel_drew ?_ | with_reducible refine bel_alloc ?_ _ | with_reducible refine bel_row ?_ ?_ _ | with_reducible refine bel_set ?_ ?_ _ | refine bel_trans ?_ (by with_reducible assumption) | (simp; done) | (simp; omega))), by simp⟩
   rw [← hW0]
   clear hW0
   have HB := Lib.hid b0
   clear b0
   refine (HL.out _).mono ?_
   rintro e w1 ⟨rfl, hb⟩
   have HB1 := Lib.hid (And.intro (HB.out.1.grow hb) (And.intro (HB.out.2.1.grow hb) (bel_trans HB.out.2.2.1 hb)))
   clear hb
   have cx := HB1.out.1.cell; have lx := HB1.out.1.lt
   go_wp2_with fail
   refine (HH.out _).mono ?_
   rintro e w2 ⟨rfl, hb⟩
   have HB2 := Lib.hid (And.intro (HB1.out.1.grow hb) (And.intro (HB1.out.2.1.grow hb) (bel_trans HB1.out.2.2 hb)))
   clear hb cx lx
   have k2 := HB2.out.2.1
   have cx := (HB2.out.1.rowO (g := w.heap.size + 1) #[.int .u64 0, .int .u64 0, .int .u64 0, .int .u64 0, .int .u64 0, .int .u64 0, .int .u64 0, .int .u64 0] (by omega)).cell; have lx := HB2.out.1.lt
   have cxx := HB2.out.1.cell
   have r2 := k2.row; have l2' := k2.lt
   have cF := (k2.rowS #[.int .u64 0, .int .u64 0, .int .u64 0, .int .u64 0, .int .u64 0, .int .u64 0, .int .u64 0, .int .u64 0]).cell
   have hb5 := bel_row HB2.out.2.2 (g := w.heap.size + 1) (by omega) #[.int .u64 0, .int .u64 0, .int .u64 0, .int .u64 0, .int .u64 0, .int .u64 0, .int .u64 0, .int .u64 0]
   rw [← k2.rw]
   clear k2
   go_wp2_with fail
   exact bodyPost_ret (v := .tuple #[solV 0, .int .i64 1]) (by rw [HZV.out]; simp [results, Tryz.results68, go_sem, cF]) rfl ⟨rfl, hb5⟩
  | true =>
   rw [hh] at HH
   by_cases k0 : l0 ≤ h0
   ·by_cases k1 : l1 ≤ h1
    ·by_cases k2' : l2 ≤ h2
     ·have hM : blockM (l0, l1, l2) (h0, h1, h2) = (addL 0 (bkH (l0, l1, l2) (h0, h1, h2) l2), 0) := if_pos (by unfold okBox; simp [hl, hh, k0, k1, k2'])
      rw [hM]
      have gl := inG_iff.1 hl
      have gh := inG_iff.1 hh
      simp only at gl gh
      have hxs : ∀ z y x, x ≤ h0 → bkX (l0, l1, l2) (h0, h1, h2) z y x = (x, y, z) :: bkX (l0, l1, l2) (h0, h1, h2) z y (x + 1) := fun z y x k => bkX_step (l0, l1, l2) (h0, h1, h2) k
      have hxe : ∀ z y x, h0 < x → bkX (l0, l1, l2) (h0, h1, h2) z y x = bkY (l0, l1, l2) (h0, h1, h2) z (y + 1) := fun z y x k => bkX_end (l0, l1, l2) (h0, h1, h2) k
      have hys : ∀ z y, y ≤ h1 → bkY (l0, l1, l2) (h0, h1, h2) z y = bkX (l0, l1, l2) (h0, h1, h2) z y l0 := fun z y k => bkY_step (l0, l1, l2) (h0, h1, h2) k
      have hye : ∀ z y, h1 < y → bkY (l0, l1, l2) (h0, h1, h2) z y = bkH (l0, l1, l2) (h0, h1, h2) (z + 1) := fun z y k => bkY_end (l0, l1, l2) (h0, h1, h2) k
      have hzs : ∀ z, z ≤ h2 → bkH (l0, l1, l2) (h0, h1, h2) z = bkY (l0, l1, l2) (h0, h1, h2) z l1 := fun z k => bkH_step (l0, l1, l2) (h0, h1, h2) k
      have hze : ∀ z, h2 < z → bkH (l0, l1, l2) (h0, h1, h2) z = [] := fun z k => bkH_end (l0, l1, l2) (h0, h1, h2) k
      obtain ⟨FX, hFX⟩ : ∃ F, F = bkX (l0, l1, l2) (h0, h1, h2) := ⟨_, rfl⟩
      obtain ⟨FY, hFY⟩ : ∃ F, F = bkY (l0, l1, l2) (h0, h1, h2) := ⟨_, rfl⟩
      obtain ⟨FZ, hFZ⟩ : ∃ F, F = bkH (l0, l1, l2) (h0, h1, h2) := ⟨_, rfl⟩
      rw [← hFX] at hxs hxe hys
      rw [← hFY] at hxe hys hye hzs
      rw [← hFZ] at hye hzs hze ⊢
      have hcons : ∀ a c L, addL a (c :: L) = addL (withS a c) L := fun a c L => addL_cons a c L
      have hnil : ∀ a, addL a [] = a := addL_nil
      obtain ⟨R, hR⟩ : ∃ R, R = addL 0 (FZ l2) := ⟨_, rfl⟩
      rw [← hR]
      have HXS := Lib.hid (And.intro hxs (And.intro hxe (And.intro hys (And.intro hye (And.intro hzs hze)))))
      have HAD := Lib.hid (And.intro hcons hnil)
      have HR := Lib.hid hR
      have HG := Lib.hid (And.intro gl gh)
      have HK := Lib.hid (And.intro k0 (And.intro k1 k2'))
      clear hM hl hh gl gh hxs hxe hys hye hzs hze hFX hFY hFZ hcons hnil hR
      go_enter Tryz.func68, Tryz.ntmps68
      go_wp2_with fail
      obtain ⟨W0, hW0⟩ : ∃ W0, W0 = (w.alloc (.cells #[.int .i64 l0, .int .i64 l1, .int .i64 l2, .int .i64 h0, .int .i64 h1, .int .i64 h2] 62)).alloc (.cells #[.int .u64 0, .int .u64 0, .int .u64 0, .int .u64 0, .int .u64 0, .int .u64 0, .int .u64 0, .int .u64 0] 26) := ⟨_, rfl⟩
      have b0 : Blk W0 w.heap.size #[.int .i64 l0, .int .i64 l1, .int .i64 l2, .int .i64 h0, .int .i64 h1, .int .i64 h2] 62 ∧ Blk W0 (w.heap.size + 1) #[.int .u64 0, .int .u64 0, .int .u64 0, .int .u64 0, .int .u64 0, .int .u64 0, .int .u64 0, .int .u64 0] 26 ∧ Below w.heap.size w W0 ∧ W0.heap.size = w.heap.size + 1 + 1 := by
       rw [hW0]
       exact ⟨(by repeat (first | with_reducible assumption | (refine Blk.at _ _ ?_; (simp; done)) | with_reducible refine Blk.alloc ?_ _ | with_reducible refine Blk.drew ?_ | with_reducible refine Blk.rowS ?_ _ | with_reducible refine Blk.rowO ?_ _ (by simp))), Blk.at _ _ (by simp), (by repeat (first | with_reducible exact bel_refl _ | with_reducible assumption | with_reducible refine bel_drewN ?_ _ | with_reducible refine bel_drew ?_ | with_reducible refine bel_alloc ?_ _ | with_reducible refine bel_row ?_ ?_ _ | with_reducible refine bel_set ?_ ?_ _ | refine bel_trans ?_ (by with_reducible assumption) | (simp; done) | (simp; omega))), by simp⟩
      rw [← hW0]
      clear hW0
      have HB := Lib.hid b0
      clear b0
      refine (HL.out _).mono ?_
      rintro e w1 ⟨rfl, hb⟩
      have HB1 := Lib.hid (And.intro (HB.out.1.grow hb) (And.intro (HB.out.2.1.grow hb) (bel_trans HB.out.2.2.1 hb)))
      clear hb
      have cx := HB1.out.1.cell; have lx := HB1.out.1.lt
      go_wp2_with fail
      refine (HH.out _).mono ?_
      rintro e w2 ⟨rfl, hb⟩
      have HB2 := Lib.hid (And.intro (HB1.out.1.grow hb) (And.intro (HB1.out.2.1.grow hb) (bel_trans HB1.out.2.2 hb)))
      clear hb cx lx
      have cx := HB2.out.1.cell; have lx := HB2.out.1.lt
      go_wp2_with fail
      clear cx lx k0 k1 k2'
      obtain ⟨wA, hwA⟩ : ∃ x, x = w2.alloc (.cells #[.int .u64 0, .int .u64 0, .int .u64 0, .int .u64 0, .int .u64 0, .int .u64 0, .int .u64 0, .int .u64 0] 26) := ⟨_, rfl⟩
      obtain ⟨ga, hga⟩ : ∃ x, x = w2.heap.size := ⟨_, rfl⟩
      have HA : Hid (Blk wA ga #[.int .u64 (pl (0 : Sol) 0), .int .u64 (pl (0 : Sol) 1), .int .u64 (pl (0 : Sol) 2), .int .u64 (pl (0 : Sol) 3), .int .u64 (pl (0 : Sol) 4), .int .u64 (pl (0 : Sol) 5), .int .u64 (pl (0 : Sol) 6), .int .u64 (pl (0 : Sol) 7)] 26 ∧ Blk wA w.heap.size #[.int .i64 l0, .int .i64 l1, .int .i64 l2, .int .i64 h0, .int .i64 h1, .int .i64 h2] 62 ∧ Blk wA (w.heap.size + 1) #[.int .u64 0, .int .u64 0, .int .u64 0, .int .u64 0, .int .u64 0, .int .u64 0, .int .u64 0, .int .u64 0] 26 ∧ Below w.heap.size w wA) := Lib.hid (by
       rw [hwA, hga, HZ.out]
       exact ⟨Blk.new _ _ _, HB2.out.1.alloc _, HB2.out.2.1.alloc _, bel_alloc HB2.out.2.2 _⟩)
      have HO : Hid (w.heap.size + 1 < ga) := Lib.hid (by rw [hga]; exact HB2.out.2.1.lt)
      rw [← hwA, ← hga]
      clear hwA hga HB2 HB1 HB
      have cx := HA.out.2.1.cell; have lx := HA.out.2.1.lt
      go_wp2_with fail
      clear cx lx
      go_loopw [5] (fun zv wx => ∃ (z : Int) (A : Sol), l2 ≤ z ∧ zv = .int .i64 z ∧ Hid (z ≤ 8 ∧ R = addL A (FZ z) ∧ Blk wx ga #[.int .u64 (pl A 0), .int .u64 (pl A 1), .int .u64 (pl A 2), .int .u64 (pl A 3), .int .u64 (pl A 4), .int .u64 (pl A 5), .int .u64 (pl A 6), .int .u64 (pl A 7)] 26 ∧ Blk wx w.heap.size #[.int .i64 l0, .int .i64 l1, .int .i64 l2, .int .i64 h0, .int .i64 h1, .int .i64 h2] 62 ∧ Blk wx (w.heap.size + 1) #[.int .u64 0, .int .u64 0, .int .u64 0, .int .u64 0, .int .u64 0, .int .u64 0, .int .u64 0, .int .u64 0] 26 ∧ Below w.heap.size w wx)) (fun zv _ => (9 - intOf zv).toNat)
      case atStart => exact ⟨l2, 0, by omega, rfl, Lib.hid ⟨by have := HG.out.1; omega, HR.out, HA.out⟩⟩
      case round =>
       clear HA HR
       obtain ⟨z, A, hz1, rfl, HZl⟩ := hrel
       have cx := HZl.out.2.2.2.1.cell; have lx := HZl.out.2.2.2.1.lt
       by_cases hz2 : z ≤ h2
       ·have hst := HZl.out.2.1
        rw [HXS.out.2.2.2.2.1 z hz2] at hst
        have HY0 := Lib.hid (And.intro hst HZl.out.2.2)
        have hz7 : 0 ≤ z ∧ z ≤ 7 := by have := HG.out; omega
        have hwz : wrap64 (z + 1) = z + 1 := IntWalk.wrap64_in _ ⟨by omega, by omega⟩
        clear hst HZl
        go_wp2_with fail
        clear cx lx
        go_loopw [6] (fun yv wx => ∃ (y : Int) (A : Sol), l1 ≤ y ∧ yv = .int .i64 y ∧ Hid (y ≤ 8 ∧ R = addL A (FY z y) ∧ Blk wx ga #[.int .u64 (pl A 0), .int .u64 (pl A 1), .int .u64 (pl A 2), .int .u64 (pl A 3), .int .u64 (pl A 4), .int .u64 (pl A 5), .int .u64 (pl A 6), .int .u64 (pl A 7)] 26 ∧ Blk wx w.heap.size #[.int .i64 l0, .int .i64 l1, .int .i64 l2, .int .i64 h0, .int .i64 h1, .int .i64 h2] 62 ∧ Blk wx (w.heap.size + 1) #[.int .u64 0, .int .u64 0, .int .u64 0, .int .u64 0, .int .u64 0, .int .u64 0, .int .u64 0, .int .u64 0] 26 ∧ Below w.heap.size w wx)) (fun yv _ => (9 - intOf yv).toNat)
        case atStart => exact ⟨l1, A, by omega, rfl, Lib.hid ⟨by have := HG.out.1; omega, HY0.out⟩⟩
        case round =>
         clear HY0
         obtain ⟨y, A, hy1, rfl, HYl⟩ := hrel
         have cx := HYl.out.2.2.2.1.cell; have lx := HYl.out.2.2.2.1.lt
         by_cases hy2 : y ≤ h1
         ·have hst := HYl.out.2.1
          rw [HXS.out.2.2.1 z y hy2] at hst
          have HX0 := Lib.hid (And.intro hst HYl.out.2.2)
          have hy7 : 0 ≤ y ∧ y ≤ 7 := by have := HG.out; omega
          have hwy : wrap64 (y + 1) = y + 1 := IntWalk.wrap64_in _ ⟨by omega, by omega⟩
          clear hst HYl
          go_wp2_with fail
          clear cx lx
          go_loopw [7] (fun xv wx => ∃ (x : Int) (A : Sol), l0 ≤ x ∧ xv = .int .i64 x ∧ Hid (x ≤ 8 ∧ R = addL A (FX z y x) ∧ Blk wx ga #[.int .u64 (pl A 0), .int .u64 (pl A 1), .int .u64 (pl A 2), .int .u64 (pl A 3), .int .u64 (pl A 4), .int .u64 (pl A 5), .int .u64 (pl A 6), .int .u64 (pl A 7)] 26 ∧ Blk wx w.heap.size #[.int .i64 l0, .int .i64 l1, .int .i64 l2, .int .i64 h0, .int .i64 h1, .int .i64 h2] 62 ∧ Blk wx (w.heap.size + 1) #[.int .u64 0, .int .u64 0, .int .u64 0, .int .u64 0, .int .u64 0, .int .u64 0, .int .u64 0, .int .u64 0] 26 ∧ Below w.heap.size w wx)) (fun xv _ => (9 - intOf xv).toNat)
          case atStart => exact ⟨l0, A, by omega, rfl, Lib.hid ⟨by have := HG.out.1; omega, HX0.out⟩⟩
          case round =>
           clear HX0
           obtain ⟨x, A, hx1, rfl, HX⟩ := hrel
           have cx := HX.out.2.2.2.1.cell; have lx := HX.out.2.2.2.1.lt
           by_cases hx2 : x ≤ h0
           ·have hst := HX.out.2.1
            rw [HXS.out.1 z y x hx2, HAD.out.1] at hst
            have hx7 : 0 ≤ x ∧ x ≤ 7 := by have := HG.out; omega
            have hwx : wrap64 (x + 1) = x + 1 := IntWalk.wrap64_in _ ⟨by omega, by omega⟩
            have hin : inG (x, y, z) = true := inG_iff.2 ⟨hx7, hy7, hz7⟩
            have HW := Lib.hid fun W => refWith_spec A (x, y, z) hin W
            obtain ⟨Q, hQ⟩ : ∃ Q, Q = withS A (x, y, z) := ⟨_, rfl⟩
            rw [← hQ] at HW hst
            have HS := Lib.hid hst
            clear hst hQ hin
            have ca := HX.out.2.2.1.cell; have la := HX.out.2.2.1.lt
            go_wp2_with fail
            clear ca la cx lx
            refine (HW.out _).mono ?_
            rintro e w4 ⟨rfl, hb⟩
            have kA := HX.out.2.2.1.grow hb
            have ho := HO.out
            have HE := Lib.hid (And.intro HS.out (And.intro (kA.rowS #[.int .u64 (pl Q 0), .int .u64 (pl Q 1), .int .u64 (pl Q 2), .int .u64 (pl Q 3), .int .u64 (pl Q 4), .int .u64 (pl Q 5), .int .u64 (pl Q 6), .int .u64 (pl Q 7)]) (And.intro ((HX.out.2.2.2.1.grow hb).rowO (g := ga) #[.int .u64 (pl Q 0), .int .u64 (pl Q 1), .int .u64 (pl Q 2), .int .u64 (pl Q 3), .int .u64 (pl Q 4), .int .u64 (pl Q 5), .int .u64 (pl Q 6), .int .u64 (pl Q 7)] (by omega)) (And.intro ((HX.out.2.2.2.2.1.grow hb).rowO (g := ga) #[.int .u64 (pl Q 0), .int .u64 (pl Q 1), .int .u64 (pl Q 2), .int .u64 (pl Q 3), .int .u64 (pl Q 4), .int .u64 (pl Q 5), .int .u64 (pl Q 6), .int .u64 (pl Q 7)] (by omega)) (bel_row (bel_trans HX.out.2.2.2.2.2 hb) (g := ga) (by omega) #[.int .u64 (pl Q 0), .int .u64 (pl Q 1), .int .u64 (pl Q 2), .int .u64 (pl Q 3), .int .u64 (pl Q 4), .int .u64 (pl Q 5), .int .u64 (pl Q 6), .int .u64 (pl Q 7)])))))
            have ra := kA.row; have la := kA.lt
            rw [← kA.rw]
            clear kA ho hb HX
            go_wp2_with fail
            go_roundw
            case rel => exact ⟨x + 1, Q, by omega, by go_num, Lib.hid ⟨by omega, HE.out⟩⟩
            case measure => simp [intOf]; omega
           ·have hst := HX.out.2.1
            rw [HXS.out.2.1 z y x (by omega)] at hst
            have HE := Lib.hid (And.intro hst HX.out.2.2)
            clear hst HX
            go_wp2_with fail
            go_roundw
            case rel => exact ⟨y + 1, A, by omega, by go_num, Lib.hid ⟨by omega, HE.out⟩⟩
            case measure => simp [intOf]; omega
         ·have hst := HYl.out.2.1
          rw [HXS.out.2.2.2.1 z y (by omega)] at hst
          have HE := Lib.hid (And.intro hst HYl.out.2.2)
          clear hst HYl
          go_wp2_with fail
          go_roundw
          case rel => exact ⟨z + 1, A, by omega, by go_num, Lib.hid ⟨by omega, HE.out⟩⟩
          case measure => simp [intOf]; omega
       ·have hst := HZl.out.2.1
        rw [HXS.out.2.2.2.2.2 z (by omega), HAD.out.2] at hst
        have HR := Lib.hid hst
        obtain ⟨-, -, q1, -, q2, q3⟩ := HZl.out
        have ho := HO.out
        have c1 := (q1.rowO (g := w.heap.size + 1) #[.int .u64 0, .int .u64 0, .int .u64 0, .int .u64 0, .int .u64 0, .int .u64 0, .int .u64 0, .int .u64 0] (by omega)).cell
        have l1' := q1.lt
        have cxx := (HZl.out.2.2.2.1.rowO (g := w.heap.size + 1) #[.int .u64 0, .int .u64 0, .int .u64 0, .int .u64 0, .int .u64 0, .int .u64 0, .int .u64 0, .int .u64 0] (by omega)).cell
        have r2 := q2.row; have l2' := q2.lt
        have cF := (q2.rowS #[.int .u64 (pl A 0), .int .u64 (pl A 1), .int .u64 (pl A 2), .int .u64 (pl A 3), .int .u64 (pl A 4), .int .u64 (pl A 5), .int .u64 (pl A 6), .int .u64 (pl A 7)]).cell
        have hb5 := bel_row q3 (g := w.heap.size + 1) (by omega) #[.int .u64 (pl A 0), .int .u64 (pl A 1), .int .u64 (pl A 2), .int .u64 (pl A 3), .int .u64 (pl A 4), .int .u64 (pl A 5), .int .u64 (pl A 6), .int .u64 (pl A 7)]
        rw [← q2.rw]
        clear q1 q2 q3 HZl ho hst
        go_wp2_with fail
        exact bodyPost_ret (v := .tuple #[solV A, .int .i64 0]) (by simp [results, Tryz.results68, go_sem, cF]) rfl ⟨by rw [HR.out], hb5⟩
     ·have hM : blockM (l0, l1, l2) (h0, h1, h2) = (0, 1) := if_neg (by unfold okBox; simp [show ¬ (l2 ≤ h2) from k2'])
      rw [hM]
      have k22 : h2 < l2 := by omega
      clear hM hl hh
      go_enter Tryz.func68, Tryz.ntmps68
      go_wp2_with fail
      obtain ⟨W0, hW0⟩ : ∃ W0, W0 = (w.alloc (.cells #[.int .i64 l0, .int .i64 l1, .int .i64 l2, .int .i64 h0, .int .i64 h1, .int .i64 h2] 62)).alloc (.cells #[.int .u64 0, .int .u64 0, .int .u64 0, .int .u64 0, .int .u64 0, .int .u64 0, .int .u64 0, .int .u64 0] 26) := ⟨_, rfl⟩
      have b0 : Blk W0 w.heap.size #[.int .i64 l0, .int .i64 l1, .int .i64 l2, .int .i64 h0, .int .i64 h1, .int .i64 h2] 62 ∧ Blk W0 (w.heap.size + 1) #[.int .u64 0, .int .u64 0, .int .u64 0, .int .u64 0, .int .u64 0, .int .u64 0, .int .u64 0, .int .u64 0] 26 ∧ Below w.heap.size w W0 ∧ W0.heap.size = w.heap.size + 1 + 1 := by
       rw [hW0]
       exact ⟨(by repeat (first | with_reducible assumption | (refine Blk.at _ _ ?_; (simp; done)) | with_reducible refine Blk.alloc ?_ _ | with_reducible refine Blk.drew ?_ | with_reducible refine Blk.rowS ?_ _ | with_reducible refine Blk.rowO ?_ _ (by simp))), Blk.at _ _ (by simp), (by repeat (first | with_reducible exact bel_refl _ | with_reducible assumption | with_reducible refine bel_drewN ?_ _ | with_reducible refine bel_drew ?_ | with_reducible refine bel_alloc ?_ _ | with_reducible refine bel_row ?_ ?_ _ | with_reducible refine bel_set ?_ ?_ _ | refine bel_trans ?_ (by with_reducible assumption) | (simp; done) | (simp; omega))), by simp⟩
      rw [← hW0]
      clear hW0
      have HB := Lib.hid b0
      clear b0
      refine (HL.out _).mono ?_
      rintro e w1 ⟨rfl, hb⟩
      have HB1 := Lib.hid (And.intro (HB.out.1.grow hb) (And.intro (HB.out.2.1.grow hb) (bel_trans HB.out.2.2.1 hb)))
      clear hb
      have cx := HB1.out.1.cell; have lx := HB1.out.1.lt
      go_wp2_with fail
      refine (HH.out _).mono ?_
      rintro e w2 ⟨rfl, hb⟩
      have HB2 := Lib.hid (And.intro (HB1.out.1.grow hb) (And.intro (HB1.out.2.1.grow hb) (bel_trans HB1.out.2.2 hb)))
      clear hb cx lx
      have k2 := HB2.out.2.1
      have cx := (HB2.out.1.rowO (g := w.heap.size + 1) #[.int .u64 0, .int .u64 0, .int .u64 0, .int .u64 0, .int .u64 0, .int .u64 0, .int .u64 0, .int .u64 0] (by omega)).cell; have lx := HB2.out.1.lt
      have cxx := HB2.out.1.cell
      have r2 := k2.row; have l2' := k2.lt
      have cF := (k2.rowS #[.int .u64 0, .int .u64 0, .int .u64 0, .int .u64 0, .int .u64 0, .int .u64 0, .int .u64 0, .int .u64 0]).cell
      have hb5 := bel_row HB2.out.2.2 (g := w.heap.size + 1) (by omega) #[.int .u64 0, .int .u64 0, .int .u64 0, .int .u64 0, .int .u64 0, .int .u64 0, .int .u64 0, .int .u64 0]
      rw [← k2.rw]
      clear k2
      go_wp2_with fail
      exact bodyPost_ret (v := .tuple #[solV 0, .int .i64 1]) (by rw [HZV.out]; simp [results, Tryz.results68, go_sem, cF]) rfl ⟨rfl, hb5⟩
    ·have hM : blockM (l0, l1, l2) (h0, h1, h2) = (0, 1) := if_neg (by unfold okBox; simp [show ¬ (l1 ≤ h1) from k1])
     rw [hM]
     have k22 : h1 < l1 := by omega
     clear hM hl hh
     go_enter Tryz.func68, Tryz.ntmps68
     go_wp2_with fail
     obtain ⟨W0, hW0⟩ : ∃ W0, W0 = (w.alloc (.cells #[.int .i64 l0, .int .i64 l1, .int .i64 l2, .int .i64 h0, .int .i64 h1, .int .i64 h2] 62)).alloc (.cells #[.int .u64 0, .int .u64 0, .int .u64 0, .int .u64 0, .int .u64 0, .int .u64 0, .int .u64 0, .int .u64 0] 26) := ⟨_, rfl⟩
     have b0 : Blk W0 w.heap.size #[.int .i64 l0, .int .i64 l1, .int .i64 l2, .int .i64 h0, .int .i64 h1, .int .i64 h2] 62 ∧ Blk W0 (w.heap.size + 1) #[.int .u64 0, .int .u64 0, .int .u64 0, .int .u64 0, .int .u64 0, .int .u64 0, .int .u64 0, .int .u64 0] 26 ∧ Below w.heap.size w W0 ∧ W0.heap.size = w.heap.size + 1 + 1 := by
      rw [hW0]
      exact ⟨(by repeat (first | with_reducible assumption | (refine Blk.at _ _ ?_; (simp; done)) | with_reducible refine Blk.alloc ?_ _ | with_reducible refine Blk.drew ?_ | with_reducible refine Blk.rowS ?_ _ | with_reducible refine Blk.rowO ?_ _ (by simp))), Blk.at _ _ (by simp), (by repeat (first | with_reducible exact bel_refl _ | with_reducible assumption | with_reducible refine bel_drewN ?_ _ | with_reducible refine bel_drew ?_ | with_reducible refine bel_alloc ?_ _ | with_reducible refine bel_row ?_ ?_ _ | with_reducible refine bel_set ?_ ?_ _ | refine bel_trans ?_ (by with_reducible assumption) | (simp; done) | (simp; omega))), by simp⟩
     rw [← hW0]
     clear hW0
     have HB := Lib.hid b0
     clear b0
     refine (HL.out _).mono ?_
     rintro e w1 ⟨rfl, hb⟩
     have HB1 := Lib.hid (And.intro (HB.out.1.grow hb) (And.intro (HB.out.2.1.grow hb) (bel_trans HB.out.2.2.1 hb)))
     clear hb
     have cx := HB1.out.1.cell; have lx := HB1.out.1.lt
     go_wp2_with fail
     refine (HH.out _).mono ?_
     rintro e w2 ⟨rfl, hb⟩
     have HB2 := Lib.hid (And.intro (HB1.out.1.grow hb) (And.intro (HB1.out.2.1.grow hb) (bel_trans HB1.out.2.2 hb)))
     clear hb cx lx
     have k2 := HB2.out.2.1
     have cx := (HB2.out.1.rowO (g := w.heap.size + 1) #[.int .u64 0, .int .u64 0, .int .u64 0, .int .u64 0, .int .u64 0, .int .u64 0, .int .u64 0, .int .u64 0] (by omega)).cell; have lx := HB2.out.1.lt
     have cxx := HB2.out.1.cell
     have r2 := k2.row; have l2' := k2.lt
     have cF := (k2.rowS #[.int .u64 0, .int .u64 0, .int .u64 0, .int .u64 0, .int .u64 0, .int .u64 0, .int .u64 0, .int .u64 0]).cell
     have hb5 := bel_row HB2.out.2.2 (g := w.heap.size + 1) (by omega) #[.int .u64 0, .int .u64 0, .int .u64 0, .int .u64 0, .int .u64 0, .int .u64 0, .int .u64 0, .int .u64 0]
     rw [← k2.rw]
     clear k2
     go_wp2_with fail
     exact bodyPost_ret (v := .tuple #[solV 0, .int .i64 1]) (by rw [HZV.out]; simp [results, Tryz.results68, go_sem, cF]) rfl ⟨rfl, hb5⟩
   ·have hM : blockM (l0, l1, l2) (h0, h1, h2) = (0, 1) := if_neg (by unfold okBox; simp [show ¬ (l0 ≤ h0) from k0])
    rw [hM]
    have k22 : h0 < l0 := by omega
    clear hM hl hh
    go_enter Tryz.func68, Tryz.ntmps68
    go_wp2_with fail
    obtain ⟨W0, hW0⟩ : ∃ W0, W0 = (w.alloc (.cells #[.int .i64 l0, .int .i64 l1, .int .i64 l2, .int .i64 h0, .int .i64 h1, .int .i64 h2] 62)).alloc (.cells #[.int .u64 0, .int .u64 0, .int .u64 0, .int .u64 0, .int .u64 0, .int .u64 0, .int .u64 0, .int .u64 0] 26) := ⟨_, rfl⟩
    have b0 : Blk W0 w.heap.size #[.int .i64 l0, .int .i64 l1, .int .i64 l2, .int .i64 h0, .int .i64 h1, .int .i64 h2] 62 ∧ Blk W0 (w.heap.size + 1) #[.int .u64 0, .int .u64 0, .int .u64 0, .int .u64 0, .int .u64 0, .int .u64 0, .int .u64 0, .int .u64 0] 26 ∧ Below w.heap.size w W0 ∧ W0.heap.size = w.heap.size + 1 + 1 := by
     rw [hW0]
     exact ⟨(by repeat (first | with_reducible assumption | (refine Blk.at _ _ ?_; (simp; done)) | with_reducible refine Blk.alloc ?_ _ | with_reducible refine Blk.drew ?_ | with_reducible refine Blk.rowS ?_ _ | with_reducible refine Blk.rowO ?_ _ (by simp))), Blk.at _ _ (by simp), (by repeat (first | with_reducible exact bel_refl _ | with_reducible assumption | with_reducible refine bel_drewN ?_ _ | with_reducible refine bel_drew ?_ | with_reducible refine bel_alloc ?_ _ | with_reducible refine bel_row ?_ ?_ _ | with_reducible refine bel_set ?_ ?_ _ | refine bel_trans ?_ (by with_reducible assumption) | (simp; done) | (simp; omega))), by simp⟩
    rw [← hW0]
    clear hW0
    have HB := Lib.hid b0
    clear b0
    refine (HL.out _).mono ?_
    rintro e w1 ⟨rfl, hb⟩
    have HB1 := Lib.hid (And.intro (HB.out.1.grow hb) (And.intro (HB.out.2.1.grow hb) (bel_trans HB.out.2.2.1 hb)))
    clear hb
    have cx := HB1.out.1.cell; have lx := HB1.out.1.lt
    go_wp2_with fail
    refine (HH.out _).mono ?_
    rintro e w2 ⟨rfl, hb⟩
    have HB2 := Lib.hid (And.intro (HB1.out.1.grow hb) (And.intro (HB1.out.2.1.grow hb) (bel_trans HB1.out.2.2 hb)))
    clear hb cx lx
    have k2 := HB2.out.2.1
    have cx := (HB2.out.1.rowO (g := w.heap.size + 1) #[.int .u64 0, .int .u64 0, .int .u64 0, .int .u64 0, .int .u64 0, .int .u64 0, .int .u64 0, .int .u64 0] (by omega)).cell; have lx := HB2.out.1.lt
    have cxx := HB2.out.1.cell
    have r2 := k2.row; have l2' := k2.lt
    have cF := (k2.rowS #[.int .u64 0, .int .u64 0, .int .u64 0, .int .u64 0, .int .u64 0, .int .u64 0, .int .u64 0, .int .u64 0]).cell
    have hb5 := bel_row HB2.out.2.2 (g := w.heap.size + 1) (by omega) #[.int .u64 0, .int .u64 0, .int .u64 0, .int .u64 0, .int .u64 0, .int .u64 0, .int .u64 0, .int .u64 0]
    rw [← k2.rw]
    clear k2
    go_wp2_with fail
    exact bodyPost_ret (v := .tuple #[solV 0, .int .i64 1]) (by rw [HZV.out]; simp [results, Tryz.results68, go_sem, cF]) rfl ⟨rfl, hb5⟩
end Go.Proofs.YtkfimbonmnoglaaGreatDoor
end
section
namespace Go.Proofs.YtkfimbonmnoglaaGreatDoor
open Go.RowKit Go.Rel Go.Draw Go.Solid
set_option maxRecDepth 100000
attribute [local go_sem] Oper.semAt_some
theorem drops_ne {a b : List Sol} {k : Nat} {x y : Sol} (ha : a[k]? = some x) (hb : b[k]? = some y) (h : x ≠ y) : a ≠ b := fun e => by
 rw [e, hb] at ha
 exact h (Option.some.inj ha).symm
set_option maxHeartbeats 4000000 in
theorem same_lens_no {la lb : List Sol} (w : World) {pa pb : Option Addr} {ca cb : Nat} (hn : la.length ≠ lb.length) :
  Calls Tryz.prog 33 #[.slice pa la.length ca, .slice pb lb.length cb] w fun e w' => e = .returned (.bool false) ∧ Below w.heap.size w w' := by
 have hd : (((la.length : Nat) : Int) != ((lb.length : Nat) : Int)) = true := by rw [bne_iff_ne]; omega
 clear hn
 go_enter Tryz.func33, Tryz.ntmps33
 go_wp2_with fail
 go_ret
 exact ⟨rfl, (by repeat (first | with_reducible exact bel_refl _ | with_reducible assumption | with_reducible refine bel_drewN ?_ _ | with_reducible refine bel_drew ?_ | with_reducible refine bel_alloc ?_ _ | with_reducible refine bel_row ?_ ?_ _ | with_reducible refine bel_set ?_ ?_ _ | refine bel_trans ?_ (by with_reducible assumption) | (simp; done) | (simp; omega)))⟩
set_option maxHeartbeats 4000000 in
theorem same_sols {la lb : List Sol} {w : World} {pa pb : Option Addr} {ca cb : Nat} (hoa : SlO w pa la) (hob : SlO w pb lb) (hsz : la.length ≤ 1000000) :
  Calls Tryz.prog 33 #[.slice pa la.length ca, .slice pb lb.length cb] w fun e w' => e = .returned (.bool (decide (la = lb))) ∧ Below w.heap.size w w' := by
 by_cases hn : la.length = lb.length
 ·have hd : (((la.length : Nat) : Int) != ((lb.length : Nat) : Int)) = false := by rw [bne_eq_false_iff_eq]; omega
  have HO := Lib.hid (And.intro hoa (And.intro hob hn))
  obtain ⟨R, hR⟩ : ∃ R, R = decide (la = lb) := ⟨_, rfl⟩
  rw [← hR]
  have HR := Lib.hid hR
  clear hoa hob hR
  obtain ⟨m, hm⟩ : ∃ m, m = lb.length := ⟨_, rfl⟩
  rw [← hm] at HO hd ⊢
  have HM := Lib.hid hm
  clear hm
  go_enter Tryz.func33, Tryz.ntmps33
  go_wp2_with fail
  go_loopw [5] (fun iv wx => ∃ i : Nat, i ≤ la.length ∧ iv = .int .i64 i ∧ Hid (la.take i = lb.take i ∧ Below w.heap.size w wx)) (fun iv _ => la.length - (intOf iv).toNat)
  case atStart => exact ⟨0, Nat.zero_le _, rfl, Lib.hid ⟨rfl, Below.refl _ _⟩⟩
  case round =>
   obtain ⟨i, hi, rfl, HI⟩ := hrel
   by_cases hlt : i < la.length
   ·have hd0 : decide ((i : Int) < (la.length : Int)) = true := decide_eq_true (by omega)
    have hi9 : (i : Int) < (la.length : Int) := by omega
    have hn0 := HO.out.2.2
    have hj9 : (i : Int) < (m : Int) := by omega
    have hlm := HM.out
    obtain ⟨x, hx⟩ : ∃ x, la[i]? = some x := ⟨la[i], by simp [hlt]⟩
    obtain ⟨y, hy⟩ : ∃ y, lb[i]? = some y := ⟨lb[i]'(by omega), List.getElem?_eq_getElem _⟩
    obtain ⟨b1, o1, rfl, hC1⟩ := HO.out.1.at hx
    obtain ⟨b2, o2, rfl, hC2⟩ := HO.out.2.1.at hy
    have hCa := hC1.mono HI.out.2 hC1.1
    have hCb := hC2.mono HI.out.2 hC2.1
    have HCC := Lib.hid (And.intro hCa hCb)
    have HXY := Lib.hid (And.intro hx hy)
    obtain ⟨wB, hwB⟩ : ∃ wB, wB = wr := ⟨_, rfl⟩
    rw [← hwB] at HI HCC ⊢
    clear hCa hCb hx hy hwB hlm
    go_wp2_with fail
    obtain ⟨Q, hQ⟩ : ∃ Q, Q = (x != y) := ⟨_, rfl⟩
    have HQ := Lib.hid hQ
    clear hQ
    refine wp_region_val Grows (fun _ _ _ => True) [Is (.slice (some ⟨b1, o1, none⟩) la.length ca), Is (.int .i64 (i : Int)), Is (.pointer (some ⟨b1, o1 + i * 8, none⟩)), Is (solV x), Is (.slice (some ⟨b2, o2, none⟩) m cb), Is (.int .i64 (i : Int)), Is (.pointer (some ⟨b2, o2 + i * 8, none⟩)), Is (solV y), Is (.bool Q)] (by kernel_rfl) (by kernel_rfl) rfl Grows.refl (fun _ _ _ => Grows.trans) (stable_mem ⟨fun _ _ _ h _ => h, fun _ _ _ h _ => h, fun _ _ _ h _ => h, fun _ _ _ h _ => h, fun _ _ _ h _ => h, fun _ _ _ h _ => h, fun _ _ _ h _ => h, fun _ _ _ h _ => h, fun _ _ _ h _ => h, trivial⟩) wB (Below.drew (Below.refl _ _)) trivial ?_
    refine val_cons ?_ (fun v0 => ?_)
    ·intro L vs w1 hvs hat hb hI hF; try simp [factsI, Region.binds, Is] at hF
     have hc := (Grows.cells hb).1
     clear hI
     go_simp
     try simp [upd]
     try first | exact Grows.refl _ | exact trivial | exact ⟨Grows.refl _, trivial⟩
    refine val_cons ?_ (fun v1 => ?_)
    ·intro L vs w1 hvs hat hb hI hF; try simp [factsI, Region.binds, Is] at hF
     have hc := (Grows.cells hb).1
     clear hI
     go_simp
     try simp [upd]
     try first | exact Grows.refl _ | exact trivial | exact ⟨Grows.refl _, trivial⟩
    refine val_cons ?_ (fun v2 => ?_)
    ·intro L vs w1 hvs hat hb hI hF; try simp [factsI, Region.binds, Is] at hF
     have hc := (Grows.cells hb).1
     clear hI
     go_simp
     try simp [upd]
     try first | exact Grows.refl _ | exact trivial | exact ⟨Grows.refl _, trivial⟩
    refine val_cons ?_ (fun v3 => ?_)
    ·intro L vs w1 hvs hat hb hI hF; try simp [factsI, Region.binds, Is] at hF
     have hCw := HCC.out.1.mono (show Below wB.heap.size wB w1 from hb) HCC.out.1.1
     obtain ⟨z0, z1, z2, z3, z4, z5, z6, z7⟩ := sol_cells hCw HXY.out.1
     have lz := hCw.1
     clear hCw
     go_simp
     first | exact Grows.refl _ | exact ⟨Grows.refl _, trivial⟩
    refine val_cons ?_ (fun v4 => ?_)
    ·intro L vs w1 hvs hat hb hI hF; try simp [factsI, Region.binds, Is] at hF
     have hc := (Grows.cells hb).1
     clear hI
     go_simp
     try simp [upd]
     try first | exact Grows.refl _ | exact trivial | exact ⟨Grows.refl _, trivial⟩
    refine val_cons ?_ (fun v5 => ?_)
    ·intro L vs w1 hvs hat hb hI hF; try simp [factsI, Region.binds, Is] at hF
     have hc := (Grows.cells hb).1
     clear hI
     go_simp
     try simp [upd]
     try first | exact Grows.refl _ | exact trivial | exact ⟨Grows.refl _, trivial⟩
    refine val_cons ?_ (fun v6 => ?_)
    ·intro L vs w1 hvs hat hb hI hF; try simp [factsI, Region.binds, Is] at hF
     have hc := (Grows.cells hb).1
     clear hI
     go_simp
     try simp [upd]
     try first | exact Grows.refl _ | exact trivial | exact ⟨Grows.refl _, trivial⟩
    refine val_cons ?_ (fun v7 => ?_)
    ·intro L vs w1 hvs hat hb hI hF; try simp [factsI, Region.binds, Is] at hF
     have hCw := HCC.out.2.mono (show Below wB.heap.size wB w1 from hb) HCC.out.2.1
     obtain ⟨z0, z1, z2, z3, z4, z5, z6, z7⟩ := sol_cells hCw HXY.out.2
     have lz := hCw.1
     clear hCw
     go_simp
     first | exact Grows.refl _ | exact ⟨Grows.refl _, trivial⟩
    refine val_cons ?_ (fun v8 => ?_)
    ·intro L vs w1 hvs hat hb hI hF; try simp [factsI, Region.binds, Is] at hF
     have hq := HQ.out
     go_simp
     exact ⟨Grows.refl _, by simp [bne]⟩
    refine val_nil ?_
    intro vs w1 hvs hb hI hF
    simp [Is, Nat.forall_lt_succ_right] at hF
    simp only [Act.put, List.setIfInBounds_toArray, List.set_cons_succ, List.set_cons_zero, hF]
    clear hF
    have hbB := Lib.hid (show Below wB.heap.size wB w1 from hb)
    clear hb hvs
    cases hq : Q with
    | true =>
     have hRf : R = false := by rw [HR.out]; exact decide_eq_false (drops_ne HXY.out.1 HXY.out.2 (by have h1 := HQ.out; rw [hq] at h1; exact bne_iff_ne.1 h1.symm))
     have HRf := Lib.hid hRf
     clear hRf
     go_wp2_with fail
     go_ret
     exact ⟨by rw [HRf.out]; rfl, HI.out.2.trans (hbB.out.mono HI.out.2.size)⟩
    | false =>
     have he : x = y := by
      have h1 := HQ.out
      rw [hq] at h1
      exact bne_eq_false_iff_eq.1 h1.symm
     have HT := Lib.hid (show la.take (i + 1) = lb.take (i + 1) by rw [List.take_add_one, List.take_add_one, HXY.out.1, HXY.out.2, HI.out.1, he])
     clear he
     go_wp2_with fail
     go_roundw
     case rel => exact ⟨i + 1, by omega, by go_num, Lib.hid ⟨HT.out, HI.out.2.trans (hbB.out.mono HI.out.2.size)⟩⟩
     case measure => simp [intOf]; omega
   ·have hd0 : decide ((i : Int) < (la.length : Int)) = false := decide_eq_false (by omega)
    have hi9 : ¬ (i : Int) < (la.length : Int) := by omega
    have hRt : R = true := by
     rw [HR.out]
     have h1 := HI.out.1
     rw [List.take_of_length_le (by omega), List.take_of_length_le (by have := HO.out.2.2; have := HM.out; omega)] at h1
     exact decide_eq_true h1
    have HRt := Lib.hid hRt
    clear hRt
    go_wp2_with fail
    go_ret
    exact ⟨by rw [HRt.out]; rfl, HI.out.2⟩
 ·have : decide (la = lb) = false := decide_eq_false fun e => hn (by rw [e])
  rw [this]
  exact same_lens_no w hn
end Go.Proofs.YtkfimbonmnoglaaGreatDoor
end
section
namespace Go.Proofs.YtkfimbonmnoglaaGreatDoor
open Go.RowKit Go.Rel Go.Draw Go.Solid
set_option maxRecDepth 100000
attribute [local go_sem] Oper.semAt_some
/-- append, by what it answers -/
theorem wpList_append_run {P : Program} {w : World} {ops : Array Oper} {rest : List Oper} {o : Oper} {a : Act} {Q : Exit → Act → World → Prop} (hgd : o.guard = none) (s x : Operand) (t u : TypeId)
  (ho : o.op = .call { callee := .builtin .append, args := #[s, x], argTypes := #[t, u] }) (v xv : Value) (hs : a.eval s = v) (hx : a.eval x = xv) {v' : Value} {w' : World}
  (hr : (Builtin.append_ #[t, u] o.type #[v, xv]).run P w = .ok v' w') (h : wpList P ops Q rest (a.put o.dst v') w') : wpList P ops Q (o :: rest) a w := by
 refine wpList_plain hgd fun K hK => ?_
 unfold Oper.wp execOp
 simp only [ho, resolve, invoke, builtin, Sem.run_bind, Sem.run_pure, Result.andThen_ok, List.map_toArray, List.map_cons, List.map_nil, hs, hx, hr]
 exact hK _ _ h
theorem own_wide {W W' : World} {base : Nat} {v : Value} {l : List Sol} (h : OwnSo W base v l) (hb : Below W.heap.size W W') : OwnSo W' base v l := own_gb h hb
attribute [local irreducible] putS rank
end Go.Proofs.YtkfimbonmnoglaaGreatDoor
end
section
namespace Go.Proofs.YtkfimbonmnoglaaGreatDoor
open Go.RowKit Go.Rel Go.Draw Go.Solid
set_option maxRecDepth 100000
attribute [local irreducible] imageS spunS imgF putS
theorem OwnSo.opened {W : World} {base : Nat} {v : Value} {l : List Sol} (h : OwnSo W base v l) : ∃ a c, v = .slice a l.length c ∧ SlO W a l := h.sl.opened
attribute [local irreducible] imagesS canonS
attribute [local go_sem] Oper.semAt_some
end Go.Proofs.YtkfimbonmnoglaaGreatDoor
end
