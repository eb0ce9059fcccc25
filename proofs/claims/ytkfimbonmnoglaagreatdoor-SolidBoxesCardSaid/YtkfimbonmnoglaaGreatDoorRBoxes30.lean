import Derived.Test.YtkfimbonmnoglaaGreatDoorRBoxes28
import Derived.Deep.Cut
/-
  Given contracts of functions of the program, and laws for them, one behind the other.
-/
set_option linter.unusedVariables false
set_option linter.unusedSimpArgs false
set_option linter.unusedSectionVars false
section
namespace Go.Proofs.YtkfimbonmnoglaaGreatDoor
open Go.RowKit Go.Rel Go.Draw Go.Solid
set_option maxRecDepth 100000
theorem z_nat {z : Int} (h : 0 ≤ z ∧ z ≤ 7) : ∃ Z : Nat, z = Z ∧ Z < 8 ∧ (Z : Int) < 8 := ⟨z.toNat, by omega, by omega, by omega⟩
attribute [local irreducible] bkH bkY bkX addL
set_option maxHeartbeats 16000000 in
theorem block_n (l h : Cl) (w : World) : Calls Tryz.prog 67 #[boxV l h] w fun e w' => e = .returned (.tuple #[solV (blockM l h).1, .int .i64 (blockM l h).2]) ∧ Below w.heap.size w w' := by
 have HL := Lib.hid fun W => inside_spec l W
 have HH := Lib.hid fun W => inside_spec h W
 have HZ := Lib.hid zero_sols
 have HZV := Lib.hid zero_solV
 obtain ⟨l0, l1, l2⟩ := l
 obtain ⟨h0, h1, h2⟩ := h
 cases hl : inG (l0, l1, l2) with
 | false =>
  have hM : blockM (l0, l1, l2) (h0, h1, h2) = (0, 1) := if_neg (by unfold okBox; simp [hl])
  rw [hM]
  rw [hl] at HL
  clear hM hl
  go_enter Tryz.func67, Tryz.ntmps67
  go_wp2_with fail
  obtain ⟨W0, hW0⟩ : ∃ W0, W0 = (w.alloc (.cells #[.int .i64 l0, .int .i64 l1, .int .i64 l2, .int .i64 h0, .int .i64 h1, .int .i64 h2] 62)).alloc (.cells #[.int .u64 0, .int .u64 0, .int .u64 0, .int .u64 0, .int .u64 0, .int .u64 0, .int .u64 0, .int .u64 0] 26) := ⟨_, rfl⟩
  have b0 : Blk W0 w.heap.size #[.int .i64 l0, .int .i64 l1, .int .i64 l2, .int .i64 h0, .int .i64 h1, .int .i64 h2] 62 ∧ Blk W0 (w.heap.size + 1) #[.int .u64 0, .int .u64 0, .int .u64 0, .int .u64 0, .int .u64 0, .int .u64 0, .int .u64 0, .int .u64 0] 26 ∧ Below w.heap.size w W0 ∧ W0.heap.size = w.heap.size + 1 + 1 := by
   rw [hW0]
   exact ⟨(by repeat (first | with_reducible assumption | (refine Blk.at _ _ ?_; (simp; done)) | with_reducible refine Blk.alloc ?_ _ | with_reducible refine Blk.drew ?_ | with_reducible refine Blk.rowS ?_ _ | with_reducible refine Blk.rowO ?_ _ (by simp))), Blk.at _ _ (by simp), (by repeat (first | with_reducible exact bel_refl _ | with_reducible assumption | with_reducible refine bel_drewN ?_ _ | with_reducible refine bel_drew ?_ | with_reducible refine bel_alloc ?_ _ | with_reducible refine bel_row ?_ ?_ _ | with_reducible refine bel_set ?_ ?_ _ | refine bel_trans ?_ (by with_reducible assumption) | (simp; done) | (simp; omega))), by simp⟩
  rw [← hW0]
  clear hW0
  have HB := Lib.hid b0
  clear b0
  refine (HL.out _).mono ?_
  rintro e w1 ⟨rfl, hb⟩
  have HB1 := Lib.hid (And.intro (HB.out.1.grow hb) (And.intro (HB.out.2.1.grow hb) (bel_trans HB.out.2.2.1 hb)))
  clear hb
  have k2 := HB1.out.2.1
  have cx := (HB1.out.1.rowO (g := w.heap.size + 1) #[.int .u64 0, .int .u64 0, .int .u64 0, .int .u64 0, .int .u64 0, .int .u64 0, .int .u64 0, .int .u64 0] (by omega)).cell; have lx := HB1.out.1.lt
  have cxx := HB1.out.1.cell
  have r2 := k2.row; have l2' := k2.lt
  have cF := (k2.rowS #[.int .u64 0, .int .u64 0, .int .u64 0, .int .u64 0, .int .u64 0, .int .u64 0, .int .u64 0, .int .u64 0]).cell
  have hb5 := bel_row HB1.out.2.2 (g := w.heap.size + 1) (by omega) #[.int .u64 0, .int .u64 0, .int .u64 0, .int .u64 0, .int .u64 0, .int .u64 0, .int .u64 0, .int .u64 0]
  rw [← k2.rw]
  clear k2
  go_wp2_with fail
  exact bodyPost_ret (v := .tuple #[solV 0, .int .i64 1]) (by rw [HZV.out]; simp [results, Tryz.results67, go_sem, cF]) rfl ⟨rfl, hb5⟩
 | true =>
  rw [hl] at HL
  cases hh : inG (h0, h1, h2) with
  | false =>
   have hM : blockM (l0, l1, l2) (h0, h1, h2) = (0, 1) := if_neg (by unfold okBox; simp [hh])
   rw [hM]
   rw [hh] at HH
   clear hM hl hh
   go_enter Tryz.func67, Tryz.ntmps67
   go_wp2_with fail
   obtain ⟨W0, hW0⟩ : ∃ W0, W0 = (w.alloc (.cells #[.int .i64 l0, .int .i64 l1, .int .i64 l2, .int .i64 h0, .int .i64 h1, .int .i64 h2] 62)).alloc (.cells #[.int .u64 0, .int .u64 0, .int .u64 0, .int .u64 0, .int .u64 0, .int .u64 0, .int .u64 0, .int .u64 0] 26) := ⟨_, rfl⟩
   have b0 : Blk W0 w.heap.size #[.int .i64 l0, .int .i64 l1, .int .i64 l2, .int .i64 h0, .int .i64 h1, .int .i64 h2] 62 ∧ Blk W0 (w.heap.size + 1) #[.int .u64 0, .int .u64 0, .int .u64 0, .int .u64 0, .int .u64 0, .int .u64 0, .int .u64 0, .int .u64 0] 26 ∧ Below w.heap.size w W0 ∧ W0.heap.size = w.heap.size + 1 + 1 := by
    rw [hW0]
    exact ⟨(by repeat (first | with_reducible assumption | (refine Blk.at _ _ ?_; (simp; done)) | with_reducible refine Blk.alloc ?_ _ | with_reducible refine Blk.drew ?_ | with_reducible refine Blk.rowS ?_ _ | with_reducible refine Blk.rowO ?_ _ (by simp))), Blk.at _ _ (by simp), (by repeat (first | with_reducible exact bel_refl _ | with_reducible assumption | with_reducible refine bel_drewN ?_ _ | with_reducible refine bel_drew ?_ | with_reducible refine bel_alloc ?_ _ | with_reducible refine bel_row ?_ ?_ _ | with_reducible refine bel_set ?_ ?_ _ | refine bel_trans ?_ (by with_reducible assumption) | (simp; done) | (simp; omega))), by simp⟩
   rw [← hW0]
   clear hW0
   have HB := Lib.hid b0
   clear b0
   refine (HL.out _).mono ?_
   rintro e w1 ⟨rfl, hb⟩
   have HB1 := Lib.hid (And.intro (HB.out.1.grow hb) (And.intro (HB.out.2.1.grow hb) (bel_trans HB.out.2.2.1 hb)))
   clear hb
   have cx := HB1.out.1.cell; have lx := HB1.out.1.lt
   go_wp2_with fail
   refine (HH.out _).mono ?_
   rintro e w2 ⟨rfl, hb⟩
   have HB2 := Lib.hid (And.intro (HB1.out.1.grow hb) (And.intro (HB1.out.2.1.grow hb) (bel_trans HB1.out.2.2 hb)))
   clear hb cx lx
   have k2 := HB2.out.2.1
   have cx := (HB2.out.1.rowO (g := w.heap.size + 1) #[.int .u64 0, .int .u64 0, .int .u64 0, .int .u64 0, .int .u64 0, .int .u64 0, .int .u64 0, .int .u64 0] (by omega)).cell; have lx := HB2.out.1.lt
   have cxx := HB2.out.1.cell
   have r2 := k2.row; have l2' := k2.lt
   have cF := (k2.rowS #[.int .u64 0, .int .u64 0, .int .u64 0, .int .u64 0, .int .u64 0, .int .u64 0, .int .u64 0, .int .u64 0]).cell
   have hb5 := bel_row HB2.out.2.2 (g := w.heap.size + 1) (by omega) #[.int .u64 0, .int .u64 0, .int .u64 0, .int .u64 0, .int .u64 0, .int .u64 0, .int .u64 0, .int .u64 0]
   rw [← k2.rw]
   clear k2
   go_wp2_with fail
   exact bodyPost_ret (v := .tuple #[solV 0, .int .i64 1]) (by rw [HZV.out]; simp [results, Tryz.results67, go_sem, cF]) rfl ⟨rfl, hb5⟩
  | true =>
   rw [hh] at HH
   by_cases k0 : l0 ≤ h0
   ·by_cases k1 : l1 ≤ h1
    ·by_cases k2' : l2 ≤ h2
     ·have hM : blockM (l0, l1, l2) (h0, h1, h2) = (addL 0 (bkH (l0, l1, l2) (h0, h1, h2) l2), 0) := if_pos (by unfold okBox; simp [hl, hh, k0, k1, k2'])
      rw [hM]
      have gl := inG_iff.1 hl
      have gh := inG_iff.1 hh
      simp only at gl gh
      have hxs : ∀ z y x, x ≤ h0 → bkX (l0, l1, l2) (h0, h1, h2) z y x = (x, y, z) :: bkX (l0, l1, l2) (h0, h1, h2) z y (x + 1) := fun z y x k => bkX_step (l0, l1, l2) (h0, h1, h2) k
      have hxe : ∀ z y x, h0 < x → bkX (l0, l1, l2) (h0, h1, h2) z y x = bkY (l0, l1, l2) (h0, h1, h2) z (y + 1) := fun z y x k => bkX_end (l0, l1, l2) (h0, h1, h2) k
      have hys : ∀ z y, y ≤ h1 → bkY (l0, l1, l2) (h0, h1, h2) z y = bkX (l0, l1, l2) (h0, h1, h2) z y l0 := fun z y k => bkY_step (l0, l1, l2) (h0, h1, h2) k
      have hye : ∀ z y, h1 < y → bkY (l0, l1, l2) (h0, h1, h2) z y = bkH (l0, l1, l2) (h0, h1, h2) (z + 1) := fun z y k => bkY_end (l0, l1, l2) (h0, h1, h2) k
      have hzs : ∀ z, z ≤ h2 → bkH (l0, l1, l2) (h0, h1, h2) z = bkY (l0, l1, l2) (h0, h1, h2) z l1 := fun z k => bkH_step (l0, l1, l2) (h0, h1, h2) k
      have hze : ∀ z, h2 < z → bkH (l0, l1, l2) (h0, h1, h2) z = [] := fun z k => bkH_end (l0, l1, l2) (h0, h1, h2) k
      obtain ⟨FX, hFX⟩ : ∃ F, F = bkX (l0, l1, l2) (h0, h1, h2) := ⟨_, rfl⟩
      obtain ⟨FY, hFY⟩ : ∃ F, F = bkY (l0, l1, l2) (h0, h1, h2) := ⟨_, rfl⟩
      obtain ⟨FZ, hFZ⟩ : ∃ F, F = bkH (l0, l1, l2) (h0, h1, h2) := ⟨_, rfl⟩
      rw [← hFX] at hxs hxe hys
      rw [← hFY] at hxe hys hye hzs
      rw [← hFZ] at hye hzs hze ⊢
      have hcons : ∀ a c L, addL a (c :: L) = addL (withS a c) L := fun a c L => addL_cons a c L
      have hnil : ∀ a, addL a [] = a := addL_nil
      obtain ⟨R, hR⟩ : ∃ R, R = addL 0 (FZ l2) := ⟨_, rfl⟩
      rw [← hR]
      have HXS := Lib.hid (And.intro hxs (And.intro hxe (And.intro hys (And.intro hye (And.intro hzs hze)))))
      have HAD := Lib.hid (And.intro hcons hnil)
      have HR := Lib.hid hR
      have HG := Lib.hid (And.intro gl gh)
      have HK := Lib.hid (And.intro k0 (And.intro k1 k2'))
      clear hM hl hh gl gh hxs hxe hys hye hzs hze hFX hFY hFZ hcons hnil hR
      go_enter Tryz.func67, Tryz.ntmps67
      go_wp2_with fail
      obtain ⟨W0, hW0⟩ : ∃ W0, W0 = (w.alloc (.cells #[.int .i64 l0, .int .i64 l1, .int .i64 l2, .int .i64 h0, .int .i64 h1, .int .i64 h2] 62)).alloc (.cells #[.int .u64 0, .int .u64 0, .int .u64 0, .int .u64 0, .int .u64 0, .int .u64 0, .int .u64 0, .int .u64 0] 26) := ⟨_, rfl⟩
      have b0 : Blk W0 w.heap.size #[.int .i64 l0, .int .i64 l1, .int .i64 l2, .int .i64 h0, .int .i64 h1, .int .i64 h2] 62 ∧ Blk W0 (w.heap.size + 1) #[.int .u64 0, .int .u64 0, .int .u64 0, .int .u64 0, .int .u64 0, .int .u64 0, .int .u64 0, .int .u64 0] 26 ∧ Below w.heap.size w W0 ∧ W0.heap.size = w.heap.size + 1 + 1 := by
       rw [hW0]
       exact ⟨(by repeat (first | with_reducible assumption | (refine Blk.at _ _ ?_; (simp; done)) | with_reducible refine Blk.alloc ?_ _ | with_reducible refine Blk.drew ?_ | with_reducible refine Blk.rowS ?_ _ | with_reducible refine Blk.rowO ?_ _ (by simp))), Blk.at _ _ (by simp), (by repeat (first | with_reducible exact bel_refl _ | with_reducible assumption | with_reducible refine bel_drewN ?_ _ | with_reducible refine bel_drew ?_ | with_reducible refine bel_alloc ?_ _ | with_reducible refine bel_row ?_ ?_ _ | with_reducible refine bel_set ?_ ?_ _ | refine bel_trans ?_ (by with_reducible assumption) | (simp; done) | (simp; omega))), by simp⟩
      rw [← hW0]
      clear hW0
      have HB := Lib.hid b0
      clear b0
      refine (HL.out _).mono ?_
      rintro e w1 ⟨rfl, hb⟩
      have HB1 := Lib.hid (And.intro (HB.out.1.grow hb) (And.intro (HB.out.2.1.grow hb) (bel_trans HB.out.2.2.1 hb)))
      clear hb
      have cx := HB1.out.1.cell; have lx := HB1.out.1.lt
      go_wp2_with fail
      refine (HH.out _).mono ?_
      rintro e w2 ⟨rfl, hb⟩
      have HB2 := Lib.hid (And.intro (HB1.out.1.grow hb) (And.intro (HB1.out.2.1.grow hb) (bel_trans HB1.out.2.2 hb)))
      clear hb cx lx
      have cx := HB2.out.1.cell; have lx := HB2.out.1.lt
      go_wp2_with fail
      clear cx lx k0 k1 k2'
      obtain ⟨wA, hwA⟩ : ∃ x, x = w2.alloc (.cells #[.int .u64 0, .int .u64 0, .int .u64 0, .int .u64 0, .int .u64 0, .int .u64 0, .int .u64 0, .int .u64 0] 26) := ⟨_, rfl⟩
      obtain ⟨ga, hga⟩ : ∃ x, x = w2.heap.size := ⟨_, rfl⟩
      have HA : Hid (Blk wA ga #[.int .u64 (pl (0 : Sol) 0), .int .u64 (pl (0 : Sol) 1), .int .u64 (pl (0 : Sol) 2), .int .u64 (pl (0 : Sol) 3), .int .u64 (pl (0 : Sol) 4), .int .u64 (pl (0 : Sol) 5), .int .u64 (pl (0 : Sol) 6), .int .u64 (pl (0 : Sol) 7)] 26 ∧ Blk wA w.heap.size #[.int .i64 l0, .int .i64 l1, .int .i64 l2, .int .i64 h0, .int .i64 h1, .int .i64 h2] 62 ∧ Blk wA (w.heap.size + 1) #[.int .u64 0, .int .u64 0, .int .u64 0, .int .u64 0, .int .u64 0, .int .u64 0, .int .u64 0, .int .u64 0] 26 ∧ Below w.heap.size w wA) := Lib.hid (by
       rw [hwA, hga, HZ.out]
       exact ⟨Blk.new _ _ _, HB2.out.1.alloc _, HB2.out.2.1.alloc _, bel_alloc HB2.out.2.2 _⟩)
      have HO : Hid (w.heap.size + 1 < ga) := Lib.hid (by rw [hga]; exact HB2.out.2.1.lt)
      rw [← hwA, ← hga]
      clear hwA hga HB2 HB1 HB
      have cx := HA.out.2.1.cell; have lx := HA.out.2.1.lt
      go_wp2_with fail
      clear cx lx
      go_loopw [5] (fun zv wx => ∃ (z : Int) (A : Sol), l2 ≤ z ∧ zv = .int .i64 z ∧ Hid (z ≤ 8 ∧ R = addL A (FZ z) ∧ Blk wx ga #[.int .u64 (pl A 0), .int .u64 (pl A 1), .int .u64 (pl A 2), .int .u64 (pl A 3), .int .u64 (pl A 4), .int .u64 (pl A 5), .int .u64 (pl A 6), .int .u64 (pl A 7)] 26 ∧ Blk wx w.heap.size #[.int .i64 l0, .int .i64 l1, .int .i64 l2, .int .i64 h0, .int .i64 h1, .int .i64 h2] 62 ∧ Blk wx (w.heap.size + 1) #[.int .u64 0, .int .u64 0, .int .u64 0, .int .u64 0, .int .u64 0, .int .u64 0, .int .u64 0, .int .u64 0] 26 ∧ Below w.heap.size w wx)) (fun zv _ => (9 - intOf zv).toNat)
      case atStart => exact ⟨l2, 0, by omega, rfl, Lib.hid ⟨by have := HG.out.1; omega, HR.out, HA.out⟩⟩
      case round =>
       clear HA HR
       obtain ⟨z, A, hz1, rfl, HZl⟩ := hrel
       have cx := HZl.out.2.2.2.1.cell; have lx := HZl.out.2.2.2.1.lt
       by_cases hz2 : z ≤ h2
       ·have hst := HZl.out.2.1
        rw [HXS.out.2.2.2.2.1 z hz2] at hst
        have HY0 := Lib.hid (And.intro hst HZl.out.2.2)
        have hz7 : 0 ≤ z ∧ z ≤ 7 := by have := HG.out; omega
        have hwz : wrap64 (z + 1) = z + 1 := IntWalk.wrap64_in _ ⟨by omega, by omega⟩
        clear hst HZl
        go_wp2_with fail
        clear cx lx
        go_loopw [6] (fun yv wx => ∃ (y : Int) (A : Sol), l1 ≤ y ∧ yv = .int .i64 y ∧ Hid (y ≤ 8 ∧ R = addL A (FY z y) ∧ Blk wx ga #[.int .u64 (pl A 0), .int .u64 (pl A 1), .int .u64 (pl A 2), .int .u64 (pl A 3), .int .u64 (pl A 4), .int .u64 (pl A 5), .int .u64 (pl A 6), .int .u64 (pl A 7)] 26 ∧ Blk wx w.heap.size #[.int .i64 l0, .int .i64 l1, .int .i64 l2, .int .i64 h0, .int .i64 h1, .int .i64 h2] 62 ∧ Blk wx (w.heap.size + 1) #[.int .u64 0, .int .u64 0, .int .u64 0, .int .u64 0, .int .u64 0, .int .u64 0, .int .u64 0, .int .u64 0] 26 ∧ Below w.heap.size w wx)) (fun yv _ => (9 - intOf yv).toNat)
        case atStart => exact ⟨l1, A, by omega, rfl, Lib.hid ⟨by have := HG.out.1; omega, HY0.out⟩⟩
        case round =>
         clear HY0
         obtain ⟨y, A, hy1, rfl, HYl⟩ := hrel
         have cx := HYl.out.2.2.2.1.cell; have lx := HYl.out.2.2.2.1.lt
         by_cases hy2 : y ≤ h1
         ·have hst := HYl.out.2.1
          rw [HXS.out.2.2.1 z y hy2] at hst
          have HX0 := Lib.hid (And.intro hst HYl.out.2.2)
          have hy7 : 0 ≤ y ∧ y ≤ 7 := by have := HG.out; omega
          have hwy : wrap64 (y + 1) = y + 1 := IntWalk.wrap64_in _ ⟨by omega, by omega⟩
          clear hst HYl
          go_wp2_with fail
          clear cx lx
          go_loopw [7] (fun xv wx => ∃ (x : Int) (A : Sol), l0 ≤ x ∧ xv = .int .i64 x ∧ Hid (x ≤ 8 ∧ R = addL A (FX z y x) ∧ Blk wx ga #[.int .u64 (pl A 0), .int .u64 (pl A 1), .int .u64 (pl A 2), .int .u64 (pl A 3), .int .u64 (pl A 4), .int .u64 (pl A 5), .int .u64 (pl A 6), .int .u64 (pl A 7)] 26 ∧ Blk wx w.heap.size #[.int .i64 l0, .int .i64 l1, .int .i64 l2, .int .i64 h0, .int .i64 h1, .int .i64 h2] 62 ∧ Blk wx (w.heap.size + 1) #[.int .u64 0, .int .u64 0, .int .u64 0, .int .u64 0, .int .u64 0, .int .u64 0, .int .u64 0, .int .u64 0] 26 ∧ Below w.heap.size w wx)) (fun xv _ => (9 - intOf xv).toNat)
          case atStart => exact ⟨l0, A, by omega, rfl, Lib.hid ⟨by have := HG.out.1; omega, HX0.out⟩⟩
          case round =>
           clear HX0
           obtain ⟨x, A, hx1, rfl, HX⟩ := hrel
           have cx := HX.out.2.2.2.1.cell; have lx := HX.out.2.2.2.1.lt
           by_cases hx2 : x ≤ h0
           ·have hst := HX.out.2.1
            rw [HXS.out.1 z y x hx2, HAD.out.1] at hst
            have hx7 : 0 ≤ x ∧ x ≤ 7 := by have := HG.out; omega
            have hwx : wrap64 (x + 1) = x + 1 := IntWalk.wrap64_in _ ⟨by omega, by omega⟩
            have hin : inG (x, y, z) = true := inG_iff.2 ⟨hx7, hy7, hz7⟩
            obtain ⟨Z, rfl, hZ8, hz9⟩ := z_nat hz7
            have hin0 : inG (x, y, 0) = true := inG_iff.2 ⟨hx7, hy7, by simp only; omega⟩
            have HW := Lib.hid fun W => bit_spec hin0 W
            have hbp : bitP (x, y, 0) = bitP (x, y, (Z : Int)) := rfl
            rw [hbp] at HW
            have eo := or_cell A hin (Z := Z) rfl
            have hcs := cell_set A hin (Z := Z) rfl
            obtain ⟨Q, hQ⟩ : ∃ Q, Q = withS A (x, y, (Z : Int)) := ⟨_, rfl⟩
            have hQ2 : A ||| Go.Solid.one (bitN (x, y, (Z : Int))) = Q := by rw [hQ]; rfl
            rw [hQ2] at eo hcs
            rw [← hQ] at hst
            obtain ⟨bp, hbp2⟩ : ∃ b, b = bitP (x, y, (Z : Int)) := ⟨_, rfl⟩
            rw [← hbp2] at HW eo
            have HS := Lib.hid hst
            have HEO := Lib.hid eo
            have HCS := Lib.hid hcs
            have kA := HX.out.2.2.1
            have cz0 : wr.cell? ⟨ga, Z, none⟩ = some (.int .u64 (pl A Z)) := by rw [kA.cell]; exact getZ A hZ8
            have HCZ := Lib.hid cz0
            have fz := kA.free Z
            clear hst hQ hQ2 hin hin0 hbp hbp2 eo hcs cz0 kA
            go_wp2_with fail
            clear cx lx
            refine wp_region_grow 9 [Is (.int .i64 (Z : Int)), Is (.pointer (some ⟨ga, Z, none⟩)), Is (.int .u64 (pl A Z)), Is (.int .i64 x), Is (.int .i64 y), Is (.agg #[.int .i64 x, .int .i64 y, .int .i64 0]), Is (.int .u64 (uI bp)), Is (.int .u64 (pl Q Z)), Is (.pointer (some ⟨ga, Z, none⟩))] (by kernel_rfl) (by kernel_rfl) rfl ⟨fun _ _ _ h _ => h, fun _ _ _ h _ => h, fun _ _ _ h _ => h, fun _ _ _ h _ => h, fun _ _ _ h _ => h, fun _ _ _ h _ => h, fun _ _ _ h _ => h, fun _ _ _ h _ => h, fun _ _ _ h _ => h, trivial⟩ ?_
            simp only [List.take_succ_cons, List.take_zero, List.drop_succ_cons, List.drop_zero]
            refine rel_cons ?_ (fun v0 => ?_)
            ·intro w1 hb hF; have hc := (Grows.cells hb).1; have hf := (Grows.cells hb).2; try simp [facts, Is] at hF
             go_simp
             exact Grows.refl _
            refine rel_cons ?_ (fun v1 => ?_)
            ·intro w1 hb hF; have hc := (Grows.cells hb).1; have hf := (Grows.cells hb).2; try simp [facts, Is] at hF
             have hz8 := hZ8
             have hz10 := hz9
             go_simp
             first | exact Grows.refl _ | exact ⟨Grows.refl _, trivial⟩
            refine rel_cons ?_ (fun v2 => ?_)
            ·intro w1 hb hF; have hc := (Grows.cells hb).1; have hf := (Grows.cells hb).2; try simp [facts, Is] at hF
             have cz := HCZ.out
             have lA := HX.out.2.2.1.lt
             go_simp
             first | exact Grows.refl _ | exact ⟨Grows.refl _, trivial⟩
            iterate 3 (refine rel_cons ?_ (fun _ => ?_); · intro w1 hb hF; have hc := (Grows.cells hb).1; have hf := (Grows.cells hb).2; (try simp [facts, Is] at hF); go_simp; exact Grows.refl _)
            refine rel_cons ?_ (fun v6 => ?_)
            ·intro w1 hb hF; have hc := (Grows.cells hb).1; have hf := (Grows.cells hb).2; try simp [facts, Is] at hF
             go_simp
             refine (HW.out _).mono ?_
             rintro e w2 ⟨rfl, hb2⟩
             first | exact ⟨rfl, hb2⟩ | exact ⟨_, rfl, hb2, trivial, rfl⟩
            refine rel_cons ?_ (fun v7 => ?_)
            ·intro w1 hb hF; have hc := (Grows.cells hb).1; have hf := (Grows.cells hb).2; try simp [facts, Is] at hF
             have eo := HEO.out
             go_simp
             first | exact Grows.refl _ | exact ⟨Grows.refl _, trivial⟩ | exact ⟨Grows.refl _, eo⟩
            refine rel_cons ?_ (fun v8 => ?_)
            ·intro w1 hb hF; have hc := (Grows.cells hb).1; have hf := (Grows.cells hb).2; try simp [facts, Is] at hF
             have hz8 := hZ8
             have hz10 := hz9
             go_simp
             first | exact Grows.refl _ | exact ⟨Grows.refl _, trivial⟩
            refine rel_nil ?_
            intro w1 hb hF
            simp [Is, Nat.forall_lt_succ_right] at hF
            simp only [Act.put, List.setIfInBounds_toArray, List.set_cons_succ, List.set_cons_zero, hF]
            clear hF
            have hbw : Below wr.heap.size wr w1 := hb
            have kA := HX.out.2.2.1.grow hbw
            have ho := HO.out
            have HE := Lib.hid (And.intro HS.out (And.intro (kA.rowS #[.int .u64 (pl Q 0), .int .u64 (pl Q 1), .int .u64 (pl Q 2), .int .u64 (pl Q 3), .int .u64 (pl Q 4), .int .u64 (pl Q 5), .int .u64 (pl Q 6), .int .u64 (pl Q 7)]) (And.intro ((HX.out.2.2.2.1.grow hbw).rowO (g := ga) #[.int .u64 (pl Q 0), .int .u64 (pl Q 1), .int .u64 (pl Q 2), .int .u64 (pl Q 3), .int .u64 (pl Q 4), .int .u64 (pl Q 5), .int .u64 (pl Q 6), .int .u64 (pl Q 7)] (by omega)) (And.intro ((HX.out.2.2.2.2.1.grow hbw).rowO (g := ga) #[.int .u64 (pl Q 0), .int .u64 (pl Q 1), .int .u64 (pl Q 2), .int .u64 (pl Q 3), .int .u64 (pl Q 4), .int .u64 (pl Q 5), .int .u64 (pl Q 6), .int .u64 (pl Q 7)] (by omega)) (bel_row (bel_trans HX.out.2.2.2.2.2 hbw) (g := ga) (by omega) #[.int .u64 (pl Q 0), .int .u64 (pl Q 1), .int .u64 (pl Q 2), .int .u64 (pl Q 3), .int .u64 (pl Q 4), .int .u64 (pl Q 5), .int .u64 (pl Q 6), .int .u64 (pl Q 7)])))))
            have hset : (#[.int .u64 (pl A 0), .int .u64 (pl A 1), .int .u64 (pl A 2), .int .u64 (pl A 3), .int .u64 (pl A 4), .int .u64 (pl A 5), .int .u64 (pl A 6), .int .u64 (pl A 7)] : Array Value).setIfInBounds Z (.int .u64 (pl Q Z)) = #[.int .u64 (pl Q 0), .int .u64 (pl Q 1), .int .u64 (pl Q 2), .int .u64 (pl Q 3), .int .u64 (pl Q 4), .int .u64 (pl Q 5), .int .u64 (pl Q 6), .int .u64 (pl Q 7)] := HCS.out
            have ra := kA.row; have la := kA.lt
            have fA := kA.free Z
            have cA := kA.cell Z
            rw [← kA.rw]
            clear kA ho hb hbw HX
            go_wp2_with fail
            go_roundw
            case rel => exact ⟨x + 1, Q, by omega, by go_num, Lib.hid ⟨by omega, HE.out⟩⟩
            case measure => simp [intOf]; omega
           ·have hst := HX.out.2.1
            rw [HXS.out.2.1 z y x (by omega)] at hst
            have HE := Lib.hid (And.intro hst HX.out.2.2)
            clear hst HX
            go_wp2_with fail
            go_roundw
            case rel => exact ⟨y + 1, A, by omega, by go_num, Lib.hid ⟨by omega, HE.out⟩⟩
            case measure => simp [intOf]; omega
         ·have hst := HYl.out.2.1
          rw [HXS.out.2.2.2.1 z y (by omega)] at hst
          have HE := Lib.hid (And.intro hst HYl.out.2.2)
          clear hst HYl
          go_wp2_with fail
          go_roundw
          case rel => exact ⟨z + 1, A, by omega, by go_num, Lib.hid ⟨by omega, HE.out⟩⟩
          case measure => simp [intOf]; omega
       ·have hst := HZl.out.2.1
        rw [HXS.out.2.2.2.2.2 z (by omega), HAD.out.2] at hst
        have HR := Lib.hid hst
        obtain ⟨-, -, q1, -, q2, q3⟩ := HZl.out
        have ho := HO.out
        have c1 := (q1.rowO (g := w.heap.size + 1) #[.int .u64 0, .int .u64 0, .int .u64 0, .int .u64 0, .int .u64 0, .int .u64 0, .int .u64 0, .int .u64 0] (by omega)).cell
        have l1' := q1.lt
        have cxx := (HZl.out.2.2.2.1.rowO (g := w.heap.size + 1) #[.int .u64 0, .int .u64 0, .int .u64 0, .int .u64 0, .int .u64 0, .int .u64 0, .int .u64 0, .int .u64 0] (by omega)).cell
        have r2 := q2.row; have l2' := q2.lt
        have cF := (q2.rowS #[.int .u64 (pl A 0), .int .u64 (pl A 1), .int .u64 (pl A 2), .int .u64 (pl A 3), .int .u64 (pl A 4), .int .u64 (pl A 5), .int .u64 (pl A 6), .int .u64 (pl A 7)]).cell
        have hb5 := bel_row q3 (g := w.heap.size + 1) (by omega) #[.int .u64 (pl A 0), .int .u64 (pl A 1), .int .u64 (pl A 2), .int .u64 (pl A 3), .int .u64 (pl A 4), .int .u64 (pl A 5), .int .u64 (pl A 6), .int .u64 (pl A 7)]
        rw [← q2.rw]
        clear q1 q2 q3 HZl ho hst
        go_wp2_with fail
        exact bodyPost_ret (v := .tuple #[solV A, .int .i64 0]) (by simp [results, Tryz.results67, go_sem, cF]) rfl ⟨by rw [HR.out], hb5⟩
     ·have hM : blockM (l0, l1, l2) (h0, h1, h2) = (0, 1) := if_neg (by unfold okBox; simp [show ¬ (l2 ≤ h2) from k2'])
      rw [hM]
      have k22 : h2 < l2 := by omega
      clear hM hl hh
      go_enter Tryz.func67, Tryz.ntmps67
      go_wp2_with fail
      obtain ⟨W0, hW0⟩ : ∃ W0, W0 = (w.alloc (.cells #[.int .i64 l0, .int .i64 l1, .int .i64 l2, .int .i64 h0, .int .i64 h1, .int .i64 h2] 62)).alloc (.cells #[.int .u64 0, .int .u64 0, .int .u64 0, .int .u64 0, .int .u64 0, .int .u64 0, .int .u64 0, .int .u64 0] 26) := ⟨_, rfl⟩
      have b0 : Blk W0 w.heap.size #[.int .i64 l0, .int .i64 l1, .int .i64 l2, .int .i64 h0, .int .i64 h1, .int .i64 h2] 62 ∧ Blk W0 (w.heap.size + 1) #[.int .u64 0, .int .u64 0, .int .u64 0, .int .u64 0, .int .u64 0, .int .u64 0, .int .u64 0, .int .u64 0] 26 ∧ Below w.heap.size w W0 ∧ W0.heap.size = w.heap.size + 1 + 1 := by
       rw [hW0]
       exact ⟨(by repeat (first | with_reducible assumption | (refine Blk.at _ _ ?_; (simp; done)) | with_reducible refine Blk.alloc ?_ _ | with_reducible refine Blk.drew ?_ | with_reducible refine Blk.rowS ?_ _ | with_reducible refine Blk.rowO ?_ _ (by simp))), Blk.at _ _ (by simp), (by repeat (first | with_reducible exact bel_refl _ | with_reducible assumption | with_reducible refine bel_drewN ?_ _ | with_reducible refine bel_drew ?_ | with_reducible refine bel_alloc ?_ _ | with_reducible refine bel_row ?_ ?_ _ | with_reducible refine bel_set ?_ ?_ _ | refine bel_trans ?_ (by with_reducible assumption) | (simp; done) | (simp; omega))), by simp⟩
      rw [← hW0]
      clear hW0
      have HB := Lib.hid b0
      clear b0
      refine (HL.out _).mono ?_
      rintro e w1 ⟨rfl, hb⟩
      have HB1 := Lib.hid (And.intro (HB.out.1.grow hb) (And.intro (HB.out.2.1.grow hb) (bel_trans HB.out.2.2.1 hb)))
      clear hb
      have cx := HB1.out.1.cell; have lx := HB1.out.1.lt
      go_wp2_with fail
      refine (HH.out _).mono ?_
      rintro e w2 ⟨rfl, hb⟩
      have HB2 := Lib.hid (And.intro (HB1.out.1.grow hb) (And.intro (HB1.out.2.1.grow hb) (bel_trans HB1.out.2.2 hb)))
      clear hb cx lx
      have k2 := HB2.out.2.1
      have cx := (HB2.out.1.rowO (g := w.heap.size + 1) #[.int .u64 0, .int .u64 0, .int .u64 0, .int .u64 0, .int .u64 0, .int .u64 0, .int .u64 0, .int .u64 0] (by omega)).cell; have lx := HB2.out.1.lt
      have cxx := HB2.out.1.cell
      have r2 := k2.row; have l2' := k2.lt
      have cF := (k2.rowS #[.int .u64 0, .int .u64 0, .int .u64 0, .int .u64 0, .int .u64 0, .int .u64 0, .int .u64 0, .int .u64 0]).cell
      have hb5 := bel_row HB2.out.2.2 (g := w.heap.size + 1) (by omega) #[.int .u64 0, .int .u64 0, .int .u64 0, .int .u64 0, .int .u64 0, .int .u64 0, .int .u64 0, .int .u64 0]
      rw [← k2.rw]
      clear k2
      go_wp2_with fail
      exact bodyPost_ret (v := .tuple #[solV 0, .int .i64 1]) (by rw [HZV.out]; simp [results, Tryz.results67, go_sem, cF]) rfl ⟨rfl, hb5⟩
    ·have hM : blockM (l0, l1, l2) (h0, h1, h2) = (0, 1) := if_neg (by unfold okBox; simp [show ¬ (l1 ≤ h1) from k1])
     rw [hM]
     have k22 : h1 < l1 := by omega
     clear hM hl hh
     go_enter Tryz.func67, Tryz.ntmps67
     go_wp2_with fail
     obtain ⟨W0, hW0⟩ : ∃ W0, W0 = (w.alloc (.cells #[.int .i64 l0, .int .i64 l1, .int .i64 l2, .int .i64 h0, .int .i64 h1, .int .i64 h2] 62)).alloc (.cells #[.int .u64 0, .int .u64 0, .int .u64 0, .int .u64 0, .int .u64 0, .int .u64 0, .int .u64 0, .int .u64 0] 26) := ⟨_, rfl⟩
     have b0 : Blk W0 w.heap.size #[.int .i64 l0, .int .i64 l1, .int .i64 l2, .int .i64 h0, .int .i64 h1, .int .i64 h2] 62 ∧ Blk W0 (w.heap.size + 1) #[.int .u64 0, .int .u64 0, .int .u64 0, .int .u64 0, .int .u64 0, .int .u64 0, .int .u64 0, .int .u64 0] 26 ∧ Below w.heap.size w W0 ∧ W0.heap.size = w.heap.size + 1 + 1 := by
      rw [hW0]
      exact ⟨(by repeat (first | with_reducible assumption | (refine Blk.at _ _ ?_; (simp; done)) | with_reducible refine Blk.alloc ?_ _ | with_reducible refine Blk.drew ?_ | with_reducible refine Blk.rowS ?_ _ | with_reducible refine Blk.rowO ?_ _ (by simp))), Blk.at _ _ (by simp), (by repeat (first | with_reducible exact bel_refl _ | with_reducible assumption | with_reducible refine bel_drewN ?_ _ | with_reducible refine bel_drew ?_ | with_reducible refine bel_alloc ?_ _ | with_reducible refine bel_row ?_ ?_ _ | with_reducible refine bel_set ?_ ?_ _ | refine bel_trans ?_ (by with_reducible assumption) | (simp; done) | (simp; omega))), by simp⟩
     rw [← hW0]
     clear hW0
     have HB := Lib.hid b0
     clear b0
     refine (HL.out _).mono ?_
     rintro e w1 ⟨rfl, hb⟩
     have HB1 := Lib.hid (And.intro (HB.out.1.grow hb) (And.intro (HB.out.2.1.grow hb) (bel_trans HB.out.2.2.1 hb)))
     clear hb
     have cx := HB1.out.1.cell; have lx := HB1.out.1.lt
     go_wp2_with fail
     refine (HH.out _).mono ?_
     rintro e w2 ⟨rfl, hb⟩
     have HB2 := Lib.hid (And.intro (HB1.out.1.grow hb) (And.intro (HB1.out.2.1.grow hb) (bel_trans HB1.out.2.2 hb)))
     clear hb cx lx
     have k2 := HB2.out.2.1
     have cx := (HB2.out.1.rowO (g := w.heap.size + 1) #[.int .u64 0, .int .u64 0, .int .u64 0, .int .u64 0, .int .u64 0, .int .u64 0, .int .u64 0, .int .u64 0] (by omega)).cell; have lx := HB2.out.1.lt
     have cxx := HB2.out.1.cell
     have r2 := k2.row; have l2' := k2.lt
     have cF := (k2.rowS #[.int .u64 0, .int .u64 0, .int .u64 0, .int .u64 0, .int .u64 0, .int .u64 0, .int .u64 0, .int .u64 0]).cell
     have hb5 := bel_row HB2.out.2.2 (g := w.heap.size + 1) (by omega) #[.int .u64 0, .int .u64 0, .int .u64 0, .int .u64 0, .int .u64 0, .int .u64 0, .int .u64 0, .int .u64 0]
     rw [← k2.rw]
     clear k2
     go_wp2_with fail
     exact bodyPost_ret (v := .tuple #[solV 0, .int .i64 1]) (by rw [HZV.out]; simp [results, Tryz.results67, go_sem, cF]) rfl ⟨rfl, hb5⟩
   ·have hM : blockM (l0, l1, l2) (h0, h1, h2) = (0, 1) := if_neg (by unfold okBox; simp [show ¬ (l0 ≤ h0) from k0])
    rw [hM]
    have k22 : h0 < l0 := by omega
    clear hM hl hh
    go_enter Tryz.func67, Tryz.ntmps67
    go_wp2_with fail
    obtain ⟨W0, hW0⟩ : ∃ W0, W0 = (w.alloc (.cells #[.int .i64 l0, .int .i64 l1, .int .i64 l2, .int .i64 h0, .int .i64 h1, .int .i64 h2] 62)).alloc (.cells #[.int .u64 0, .int .u64 0, .int .u64 0, .int .u64 0, .int .u64 0, .int .u64 0, .int .u64 0, .int .u64 0] 26) := ⟨_, rfl⟩
    have b0 : Blk W0 w.heap.size #[.int .i64 l0, .int .i64 l1, .int .i64 l2, .int .i64 h0, .int .i64 h1, .int .i64 h2] 62 ∧ Blk W0 (w.heap.size + 1) #[.int .u64 0, .int .u64 0, .int .u64 0, .int .u64 0, .int .u64 0, .int .u64 0, .int .u64 0, .int .u64 0] 26 ∧ Below w.heap.size w W0 ∧ W0.heap.size = w.heap.size + 1 + 1 := by
     rw [hW0]
     exact ⟨(by repeat (first | with_reducible assumption | (refine Blk.at _ _ ?_; (simp; done)) | with_reducible refine Blk.alloc ?_ _ | with_reducible refine Blk.drew ?_ | with_reducible refine Blk.rowS ?_ _ | with_reducible refine Blk.rowO ?_ _ (by simp))), Blk.at _ _ (by simp), (by repeat (first | with_reducible exact bel_refl _ | with_reducible assumption | with_reducible refine bel_drewN ?_ _ | with_reducible refine bel_drew ?_ | with_reducible refine bel_alloc ?_ _ | with_reducible refine bel_row ?_ ?_ _ | with_reducible refine bel_set ?_ ?_ _ | refine bel_trans ?_ (by with_reducible assumption) | (simp; done) | (simp; omega))), by simp⟩
    rw [← hW0]
    clear hW0
    have HB := Lib.hid b0
    clear b0
    refine (HL.out _).mono ?_
    rintro e w1 ⟨rfl, hb⟩
    have HB1 := Lib.hid (And.intro (HB.out.1.grow hb) (And.intro (HB.out.2.1.grow hb) (bel_trans HB.out.2.2.1 hb)))
    clear hb
    have cx := HB1.out.1.cell; have lx := HB1.out.1.lt
    go_wp2_with fail
    refine (HH.out _).mono ?_
    rintro e w2 ⟨rfl, hb⟩
    have HB2 := Lib.hid (And.intro (HB1.out.1.grow hb) (And.intro (HB1.out.2.1.grow hb) (bel_trans HB1.out.2.2 hb)))
    clear hb cx lx
    have k2 := HB2.out.2.1
    have cx := (HB2.out.1.rowO (g := w.heap.size + 1) #[.int .u64 0, .int .u64 0, .int .u64 0, .int .u64 0, .int .u64 0, .int .u64 0, .int .u64 0, .int .u64 0] (by omega)).cell; have lx := HB2.out.1.lt
    have cxx := HB2.out.1.cell
    have r2 := k2.row; have l2' := k2.lt
    have cF := (k2.rowS #[.int .u64 0, .int .u64 0, .int .u64 0, .int .u64 0, .int .u64 0, .int .u64 0, .int .u64 0, .int .u64 0]).cell
    have hb5 := bel_row HB2.out.2.2 (g := w.heap.size + 1) (by omega) #[.int .u64 0, .int .u64 0, .int .u64 0, .int .u64 0, .int .u64 0, .int .u64 0, .int .u64 0, .int .u64 0]
    rw [← k2.rw]
    clear k2
    go_wp2_with fail
    exact bodyPost_ret (v := .tuple #[solV 0, .int .i64 1]) (by rw [HZV.out]; simp [results, Tryz.results67, go_sem, cF]) rfl ⟨rfl, hb5⟩
set_option maxHeartbeats 16000000 in
theorem refBlock_n (l h : Cl) (w : World) : Calls Tryz.prog 68 #[boxV l h] w fun e w' => e = .returned (.tuple #[solV (blockM l h).1, .int .i64 (blockM l h).2]) ∧ Below w.heap.size w w' := by
 have HL := Lib.hid fun W => inGrid_spec l W
 have HH := Lib.hid fun W => inGrid_spec h W
 have HZ := Lib.hid zero_sols
 have HZV := Lib.hid zero_solV
 obtain ⟨l0, l1, l2⟩ := l
 obtain ⟨h0, h1, h2⟩ := h
 cases hl : inG (l0, l1, l2) with
 | false =>
  have hM : blockM (l0, l1, l2) (h0, h1, h2) = (0, 1) := if_neg (by unfold okBox; simp [hl])
  rw [hM]
  rw [hl] at HL
  clear hM hl
  go_enter Tryz.func68, Tryz.ntmps68
  go_wp2_with fail
  obtain ⟨W0, hW0⟩ : ∃ W0, W0 = (w.alloc (.cells #[.int .i64 l0, .int .i64 l1, .int .i64 l2, .int .i64 h0, .int .i64 h1, .int .i64 h2] 62)).alloc (.cells #[.int .u64 0, .int .u64 0, .int .u64 0, .int .u64 0, .int .u64 0, .int .u64 0, .int .u64 0, .int .u64 0] 26) := ⟨_, rfl⟩
  have b0 : Blk W0 w.heap.size #[.int .i64 l0, .int .i64 l1, .int .i64 l2, .int .i64 h0, .int .i64 h1, .int .i64 h2] 62 ∧ Blk W0 (w.heap.size + 1) #[.int .u64 0, .int .u64 0, .int .u64 0, .int .u64 0, .int .u64 0, .int .u64 0, .int .u64 0, .int .u64 0] 26 ∧ Below w.heap.size w W0 ∧ W0.heap.size = w.heap.size + 1 + 1 := by
   rw [hW0]
   exact ⟨(by repeat (first | with_reducible assumption | (refine Blk.at _ _ ?_; (simp; done)) | with_reducible refine Blk.alloc ?_ _ | with_reducible refine Blk.drew ?_ | with_reducible refine Blk.rowS ?_ _ | with_reducible refine Blk.rowO ?_ _ (by simp))), Blk.at _ _ (by simp), (by repeat (first | with_reducible exact bel_refl _ | with_reducible assumption | with_reducible refine bel_drewN ?_ _ | with_reducible refine bel_drew ?_ | with_reducible refine bel_alloc ?_ _ | with_reducible refine bel_row ?_ ?_ _ | with_reducible refine bel_set ?_ ?_ _ | refine bel_trans ?_ (by with_reducible assumption) | (simp; done) | (simp; omega))), by simp⟩
  rw [← hW0]
  clear hW0
  have HB := Lib.hid b0
  clear b0
  refine (HL.out _).mono ?_
  rintro e w1 ⟨rfl, hb⟩
  have HB1 := Lib.hid (And.intro (HB.out.1.grow hb) (And.intro (HB.out.2.1.grow hb) (bel_trans HB.out.2.2.1 hb)))
  clear hb
  have k2 := HB1.out.2.1
  have cx := (HB1.out.1.rowO (g := w.heap.size + 1) #[.int .u64 0, .int .u64 0, .int .u64 0, .int .u64 0, .int .u64 0, .int .u64 0, .int .u64 0, .int .u64 0] (by omega)).cell; have lx := HB1.out.1.lt
  have cxx := HB1.out.1.cell
  have r2 := k2.row; have l2' := k2.lt
  have cF := (k2.rowS #[.int .u64 0, .int .u64 0, .int .u64 0, .int .u64 0, .int .u64 0, .int .u64 0, .int .u64 0, .int .u64 0]).cell
  have hb5 := bel_row HB1.out.2.2 (g := w.heap.size + 1) (by omega) #[.int .u64 0, .int .u64 0, .int .u64 0, .int .u64 0, .int .u64 0, .int .u64 0, .int .u64 0, .int .u64 0]
  rw [← k2.rw]
  clear k2
  go_wp2_with fail
  exact bodyPost_ret (v := .tuple #[solV 0, .int .i64 1]) (by rw [HZV.out]; simp [results, Tryz.results68, go_sem, cF]) rfl ⟨rfl, hb5⟩
 | true =>
  rw [hl] at HL
  cases hh : inG (h0, h1, h2) with
  | false =>
   have hM : blockM (l0, l1, l2) (h0, h1, h2) = (0, 1) := if_neg (by unfold okBox; simp [hh])
   rw [hM]
   rw [hh] at HH
   clear hM hl hh
   go_enter Tryz.func68, Tryz.ntmps68
   go_wp2_with fail
   obtain ⟨W0, hW0⟩ : ∃ W0, W0 = (w.alloc (.cells #[.int .i64 l0, .int .i64 l1, .int .i64 l2, .int .i64 h0, .int .i64 h1, .int .i64 h2] 62)).alloc (.cells #[.int .u64 0, .int .u64 0, .int .u64 0, .int .u64 0, .int .u64 0, .int .u64 0, .int .u64 0, .int .u64 0] 26) := ⟨_, rfl⟩
   have b0 : Blk W0 w.heap.size #[.int .i64 l0, .int .i64 l1, .int .i64 l2, .int .i64 h0, .int .i64 h1, .int .i64 h2] 62 ∧ Blk W0 (w.heap.size + 1) #[.int .u64 0, .int .u64 0, .int .u64 0, .int .u64 0, .int .u64 0, .int .u64 0, .int .u64 0, .int .u64 0] 26 ∧ Below w.heap.size w W0 ∧ W0.heap.size = w.heap.size + 1 + 1 := by
    rw [hW0]
    exact ⟨(by repeat (first | with_reducible assumption | (refine Blk.at _ _ ?_; (simp; done)) | with_reducible refine Blk.alloc ?_ _ | with_reducible refine Blk.drew ?_ | with_reducible refine Blk.rowS ?_ _ | with_reducible refine Blk.rowO ?_ _ (by simp))), Blk.at _ _ (by simp), (by repeat (first | with_reducible exact bel_refl _ | with_reducible assumption | with_reducible refine bel_drewN ?_ _ | with_reducible refine bel_drew ?_ | with_reducible refine bel_alloc ?_ _ | with_reducible refine bel_row ?_ ?_ _ | with_reducible refine bel_set ?_ ?_ _ | refine bel_trans ?_ (by with_reducible assumption) | (simp; done) | (simp; omega))), by simp⟩
   rw [← hW0]
   clear hW0
   have HB := Lib.hid b0
   clear b0
   refine (HL.out _).mono ?_
   rintro e w1 ⟨rfl, hb⟩
   have HB1 := Lib.hid (And.intro (HB.out.1.grow hb) (And.intro (HB.out.2.1.grow hb) (bel_trans HB.out.2.2.1 hb)))
   clear hb
   have cx := HB1.out.1.cell; have lx := HB1.out.1.lt
   go_wp2_with fail
   refine (HH.out _).mono ?_
   rintro e w2 ⟨rfl, hb⟩
   have HB2 := Lib.hid (And.intro (HB1.out.1.grow hb) (And.intro (HB1.out.2.1.grow hb) (bel_trans HB1.out.2.2 hb)))
   clear hb cx lx
   have k2 := HB2.out.2.1
   have cx := (HB2.out.1.rowO (g := w.heap.size + 1) #[.int .u64 0, .int .u64 0, .int .u64 0, .int .u64 0, .int .u64 0, .int .u64 0, .int .u64 0, .int .u64 0] (by omega)).cell; have lx := HB2.out.1.lt
   have cxx := HB2.out.1.cell
   have r2 := k2.row; have l2' := k2.lt
   have cF := (k2.rowS #[.int .u64 0, .int .u64 0, .int .u64 0, .int .u64 0, .int .u64 0, .int .u64 0, .int .u64 0, .int .u64 0]).cell
   have hb5 := bel_row HB2.out.2.2 (g := w.heap.size + 1) (by omega) #[.int .u64 0, .int .u64 0, .int .u64 0, .int .u64 0, .int .u64 0, .int .u64 0, .int .u64 0, .int .u64 0]
   rw [← k2.rw]
   clear k2
   go_wp2_with fail
   exact bodyPost_ret (v := .tuple #[solV 0, .int .i64 1]) (by rw [HZV.out]; simp [results, Tryz.results68, go_sem, cF]) rfl ⟨rfl, hb5⟩
  | true =>
   rw [hh] at HH
   by_cases k0 : l0 ≤ h0
   ·by_cases k1 : l1 ≤ h1
    ·by_cases k2' : l2 ≤ h2
     ·have hM : blockM (l0, l1, l2) (h0, h1, h2) = (addL 0 (bkH (l0, l1, l2) (h0, h1, h2) l2), 0) := if_pos (by unfold okBox; simp [hl, hh, k0, k1, k2'])
      rw [hM]
      have gl := inG_iff.1 hl
      have gh := inG_iff.1 hh
      simp only at gl gh
      have hxs : ∀ z y x, x ≤ h0 → bkX (l0, l1, l2) (h0, h1, h2) z y x = (x, y, z) :: bkX (l0, l1, l2) (h0, h1, h2) z y (x + 1) := fun z y x k => bkX_step (l0, l1, l2) (h0, h1, h2) k
      have hxe : ∀ z y x, h0 < x → bkX (l0, l1, l2) (h0, h1, h2) z y x = bkY (l0, l1, l2) (h0, h1, h2) z (y + 1) := fun z y x k => bkX_end (l0, l1, l2) (h0, h1, h2) k
      have hys : ∀ z y, y ≤ h1 → bkY (l0, l1, l2) (h0, h1, h2) z y = bkX (l0, l1, l2) (h0, h1, h2) z y l0 := fun z y k => bkY_step (l0, l1, l2) (h0, h1, h2) k
      have hye : ∀ z y, h1 < y → bkY (l0, l1, l2) (h0, h1, h2) z y = bkH (l0, l1, l2) (h0, h1, h2) (z + 1) := fun z y k => bkY_end (l0, l1, l2) (h0, h1, h2) k
      have hzs : ∀ z, z ≤ h2 → bkH (l0, l1, l2) (h0, h1, h2) z = bkY (l0, l1, l2) (h0, h1, h2) z l1 := fun z k => bkH_step (l0, l1, l2) (h0, h1, h2) k
      have hze : ∀ z, h2 < z → bkH (l0, l1, l2) (h0, h1, h2) z = [] := fun z k => bkH_end (l0, l1, l2) (h0, h1, h2) k
      obtain ⟨FX, hFX⟩ : ∃ F, F = bkX (l0, l1, l2) (h0, h1, h2) := ⟨_, rfl⟩
      obtain ⟨FY, hFY⟩ : ∃ F, F = bkY (l0, l1, l2) (h0, h1, h2) := ⟨_, rfl⟩
      obtain ⟨FZ, hFZ⟩ : ∃ F, F = bkH (l0, l1, l2) (h0, h1, h2) := ⟨_, rfl⟩
      rw [← hFX] at hxs hxe hys
      rw [← hFY] at hxe hys hye hzs
      rw [← hFZ] at hye hzs hze ⊢
      have hcons : ∀ a c L, addL a (c :: L) = addL (withS a c) L := fun a c L => addL_cons a c L
      have hnil : ∀ a, addL a [] = a := addL_nil
      obtain ⟨R, hR⟩ : ∃ R, R = addL 0 (FZ l2) := ⟨_, rfl⟩
      rw [← hR]
      have HXS := Lib.hid (And.intro hxs (And.intro hxe (And.intro hys (And.intro hye (And.intro hzs hze)))))
      have HAD := Lib.hid (And.intro hcons hnil)
      have HR := Lib.hid hR
      have HG := Lib.hid (And.intro gl gh)
      have HK := Lib.hid (And.intro k0 (And.intro k1 k2'))
      clear hM hl hh gl gh hxs hxe hys hye hzs hze hFX hFY hFZ hcons hnil hR
      go_enter Tryz.func68, Tryz.ntmps68
      go_wp2_with fail
      obtain ⟨W0, hW0⟩ : ∃ W0, W0 = (w.alloc (.cells #[.int .i64 l0, .int .i64 l1, .int .i64 l2, .int .i64 h0, .int .i64 h1, .int .i64 h2] 62)).alloc (.cells #[.int .u64 0, .int .u64 0, .int .u64 0, .int .u64 0, .int .u64 0, .int .u64 0, .int .u64 0, .int .u64 0] 26) := ⟨_, rfl⟩
      have b0 : Blk W0 w.heap.size #[.int .i64 l0, .int .i64 l1, .int .i64 l2, .int .i64 h0, .int .i64 h1, .int .i64 h2] 62 ∧ Blk W0 (w.heap.size + 1) #[.int .u64 0, .int .u64 0, .int .u64 0, .int .u64 0, .int .u64 0, .int .u64 0, .int .u64 0, .int .u64 0] 26 ∧ Below w.heap.size w W0 ∧ W0.heap.size = w.heap.size + 1 + 1 := by
       rw [hW0]
       exact ⟨(by repeat (first | with_reducible assumption | (refine Blk.at _ _ ?_; (simp; done)) | with_reducible refine Blk.alloc ?_ _ | with_reducible refine Blk.drew ?_ | with_reducible refine Blk.rowS ?_ _ | with_reducible refine Blk.rowO ?_ _ (by simp))), Blk.at _ _ (by simp), (by repeat (first | with_reducible exact bel_refl _ | with_reducible assumption | with_reducible refine bel_drewN ?_ _ | with_reducible refine bel_drew ?_ | with_reducible refine bel_alloc ?_ _ | with_reducible refine bel_row ?_ ?_ _ | with_reducible refine bel_set ?_ ?_ _ | refine bel_trans ?_ (by with_reducible assumption) | (simp; done) | (simp; omega))), by simp⟩
      rw [← hW0]
      clear hW0
      have HB := Lib.hid b0
      clear b0
      refine (HL.out _).mono ?_
      rintro e w1 ⟨rfl, hb⟩
      have HB1 := Lib.hid (And.intro (HB.out.1.grow hb) (And.intro (HB.out.2.1.grow hb) (bel_trans HB.out.2.2.1 hb)))
      clear hb
      have cx := HB1.out.1.cell; have lx := HB1.out.1.lt
      go_wp2_with fail
      refine (HH.out _).mono ?_
      rintro e w2 ⟨rfl, hb⟩
      have HB2 := Lib.hid (And.intro (HB1.out.1.grow hb) (And.intro (HB1.out.2.1.grow hb) (bel_trans HB1.out.2.2 hb)))
      clear hb cx lx
      have cx := HB2.out.1.cell; have lx := HB2.out.1.lt
      go_wp2_with fail
      clear cx lx k0 k1 k2'
      obtain ⟨wA, hwA⟩ : ∃ x, x = w2.alloc (.cells #[.int .u64 0, .int .u64 0, .int .u64 0, .int .u64 0, .int .u64 0, .int .u64 0, .int .u64 0, .int .u64 0] 26) := ⟨_, rfl⟩
      obtain ⟨ga, hga⟩ : ∃ x, x = w2.heap.size := ⟨_, rfl⟩
      have HA : Hid (Blk wA ga #[.int .u64 (pl (0 : Sol) 0), .int .u64 (pl (0 : Sol) 1), .int .u64 (pl (0 : Sol) 2), .int .u64 (pl (0 : Sol) 3), .int .u64 (pl (0 : Sol) 4), .int .u64 (pl (0 : Sol) 5), .int .u64 (pl (0 : Sol) 6), .int .u64 (pl (0 : Sol) 7)] 26 ∧ Blk wA w.heap.size #[.int .i64 l0, .int .i64 l1, .int .i64 l2, .int .i64 h0, .int .i64 h1, .int .i64 h2] 62 ∧ Blk wA (w.heap.size + 1) #[.int .u64 0, .int .u64 0, .int .u64 0, .int .u64 0, .int .u64 0, .int .u64 0, .int .u64 0, .int .u64 0] 26 ∧ Below w.heap.size w wA) := Lib.hid (by
       rw [hwA, hga, HZ.out]
       exact ⟨Blk.new _ _ _, HB2.out.1.alloc _, HB2.out.2.1.alloc _, bel_alloc HB2.out.2.2 _⟩)
      have HO : Hid (w.heap.size + 1 < ga) := Lib.hid (by rw [hga]; exact HB2.out.2.1.lt)
      rw [← hwA, ← hga]
      clear hwA hga HB2 HB1 HB
      have cx := HA.out.2.1.cell; have lx := HA.out.2.1.lt
      go_wp2_with fail
      clear cx lx
      go_loopw [5] (fun zv wx => ∃ (z : Int) (A : Sol), l2 ≤ z ∧ zv = .int .i64 z ∧ Hid (z ≤ 8 ∧ R = addL A (FZ z) ∧ Blk wx ga #[.int .u64 (pl A 0), .int .u64 (pl A 1), .int .u64 (pl A 2), .int .u64 (pl A 3), .int .u64 (pl A 4), .int .u64 (pl A 5), .int .u64 (pl A 6), .int .u64 (pl A 7)] 26 ∧ Blk wx w.heap.size #[.int .i64 l0, .int .i64 l1, .int .i64 l2, .int .i64 h0, .int .i64 h1, .int .i64 h2] 62 ∧ Blk wx (w.heap.size + 1) #[.int .u64 0, .int .u64 0, .int .u64 0, .int .u64 0, .int .u64 0, .int .u64 0, .int .u64 0, .int .u64 0] 26 ∧ Below w.heap.size w wx)) (fun zv _ => (9 - intOf zv).toNat)
      case atStart => exact ⟨l2, 0, by omega, rfl, Lib.hid ⟨by have := HG.out.1; omega, HR.out, HA.out⟩⟩
      case round =>
       clear HA HR
       obtain ⟨z, A, hz1, rfl, HZl⟩ := hrel
       have cx := HZl.out.2.2.2.1.cell; have lx := HZl.out.2.2.2.1.lt
       by_cases hz2 : z ≤ h2
       ·have hst := HZl.out.2.1
        rw [HXS.out.2.2.2.2.1 z hz2] at hst
        have HY0 := Lib.hid (And.intro hst HZl.out.2.2)
        have hz7 : 0 ≤ z ∧ z ≤ 7 := by have := HG.out; omega
        have hwz : wrap64 (z + 1) = z + 1 := IntWalk.wrap64_in _ ⟨by omega, by omega⟩
        clear hst HZl
        go_wp2_with fail
        clear cx lx
        go_loopw [6] (fun yv wx => ∃ (y : Int) (A : Sol), l1 ≤ y ∧ yv = .int .i64 y ∧ Hid (y ≤ 8 ∧ R = addL A (FY z y) ∧ Blk wx ga #[.int .u64 (pl A 0), .int .u64 (pl A 1), .int .u64 (pl A 2), .int .u64 (pl A 3), .int .u64 (pl A 4), .int .u64 (pl A 5), .int .u64 (pl A 6), .int .u64 (pl A 7)] 26 ∧ Blk wx w.heap.size #[.int .i64 l0, .int .i64 l1, .int .i64 l2, .int .i64 h0, .int .i64 h1, .int .i64 h2] 62 ∧ Blk wx (w.heap.size + 1) #[.int .u64 0, .int .u64 0, .int .u64 0, .int .u64 0, .int .u64 0, .int .u64 0, .int .u64 0, .int .u64 0] 26 ∧ Below w.heap.size w wx)) (fun yv _ => (9 - intOf yv).toNat)
        case atStart => exact ⟨l1, A, by omega, rfl, Lib.hid ⟨by have := HG.out.1; omega, HY0.out⟩⟩
        case round =>
         clear HY0
         obtain ⟨y, A, hy1, rfl, HYl⟩ := hrel
         have cx := HYl.out.2.2.2.1.cell; have lx := HYl.out.2.2.2.1.lt
         by_cases hy2 : y ≤ h1
         ·have hst := HYl.out.2.1
          rw [HXS.out.2.2.1 z y hy2] at hst
          have HX0 := Lib.hid (And.intro hst HYl.out.2.2)
          have hy7 : 0 ≤ y ∧ y ≤ 7 := by have := HG.out; omega
          have hwy : wrap64 (y + 1) = y + 1 := IntWalk.wrap64_in _ ⟨by omega, by omega⟩
          clear hst HYl
          go_wp2_with fail
          clear cx lx
          go_loopw [7] (fun xv wx => ∃ (x : Int) (A : Sol), l0 ≤ x ∧ xv = .int .i64 x ∧ Hid (x ≤ 8 ∧ R = addL A (FX z y x) ∧ Blk wx ga #[.int .u64 (pl A 0), .int .u64 (pl A 1), .int .u64 (pl A 2), .int .u64 (pl A 3), .int .u64 (pl A 4), .int .u64 (pl A 5), .int .u64 (pl A 6), .int .u64 (pl A 7)] 26 ∧ Blk wx w.heap.size #[.int .i64 l0, .int .i64 l1, .int .i64 l2, .int .i64 h0, .int .i64 h1, .int .i64 h2] 62 ∧ Blk wx (w.heap.size + 1) #[.int .u64 0, .int .u64 0, .int .u64 0, .int .u64 0, .int .u64 0, .int .u64 0, .int .u64 0, .int .u64 0] 26 ∧ Below w.heap.size w wx)) (fun xv _ => (9 - intOf xv).toNat)
          case atStart => exact ⟨l0, A, by omega, rfl, Lib.hid ⟨by have := HG.out.1; omega, HX0.out⟩⟩
          case round =>
           clear HX0
           obtain ⟨x, A, hx1, rfl, HX⟩ := hrel
           have cx := HX.out.2.2.2.1.cell; have lx := HX.out.2.2.2.1.lt
           by_cases hx2 : x ≤ h0
           ·have hst := HX.out.2.1
            rw [HXS.out.1 z y x hx2, HAD.out.1] at hst
            have hx7 : 0 ≤ x ∧ x ≤ 7 := by have := HG.out; omega
            have hwx : wrap64 (x + 1) = x + 1 := IntWalk.wrap64_in _ ⟨by omega, by omega⟩
            have hin : inG (x, y, z) = true := inG_iff.2 ⟨hx7, hy7, hz7⟩
            have HW := Lib.hid fun W => refWith_spec A (x, y, z) hin W
            obtain ⟨Q, hQ⟩ : ∃ Q, Q = withS A (x, y, z) := ⟨_, rfl⟩
            rw [← hQ] at HW hst
            have HS := Lib.hid hst
            clear hst hQ hin
            have ca := HX.out.2.2.1.cell; have la := HX.out.2.2.1.lt
            go_wp2_with fail
            clear ca la cx lx
            refine (HW.out _).mono ?_
            rintro e w4 ⟨rfl, hb⟩
            have kA := HX.out.2.2.1.grow hb
            have ho := HO.out
            have HE := Lib.hid (And.intro HS.out (And.intro (kA.rowS #[.int .u64 (pl Q 0), .int .u64 (pl Q 1), .int .u64 (pl Q 2), .int .u64 (pl Q 3), .int .u64 (pl Q 4), .int .u64 (pl Q 5), .int .u64 (pl Q 6), .int .u64 (pl Q 7)]) (And.intro ((HX.out.2.2.2.1.grow hb).rowO (g := ga) #[.int .u64 (pl Q 0), .int .u64 (pl Q 1), .int .u64 (pl Q 2), .int .u64 (pl Q 3), .int .u64 (pl Q 4), .int .u64 (pl Q 5), .int .u64 (pl Q 6), .int .u64 (pl Q 7)] (by omega)) (And.intro ((HX.out.2.2.2.2.1.grow hb).rowO (g := ga) #[.int .u64 (pl Q 0), .int .u64 (pl Q 1), .int .u64 (pl Q 2), .int .u64 (pl Q 3), .int .u64 (pl Q 4), .int .u64 (pl Q 5), .int .u64 (pl Q 6), .int .u64 (pl Q 7)] (by omega)) (bel_row (bel_trans HX.out.2.2.2.2.2 hb) (g := ga) (by omega) #[.int .u64 (pl Q 0), .int .u64 (pl Q 1), .int .u64 (pl Q 2), .int .u64 (pl Q 3), .int .u64 (pl Q 4), .int .u64 (pl Q 5), .int .u64 (pl Q 6), .int .u64 (pl Q 7)])))))
            have ra := kA.row; have la := kA.lt
            rw [← kA.rw]
            clear kA ho hb HX
            go_wp2_with fail
            go_roundw
            case rel => exact ⟨x + 1, Q, by omega, by go_num, Lib.hid ⟨by omega, HE.out⟩⟩
            case measure => simp [intOf]; omega
           ·have hst := HX.out.2.1
            rw [HXS.out.2.1 z y x (by omega)] at hst
            have HE := Lib.hid (And.intro hst HX.out.2.2)
            clear hst HX
            go_wp2_with fail
            go_roundw
            case rel => exact ⟨y + 1, A, by omega, by go_num, Lib.hid ⟨by omega, HE.out⟩⟩
            case measure => simp [intOf]; omega
         ·have hst := HYl.out.2.1
          rw [HXS.out.2.2.2.1 z y (by omega)] at hst
          have HE := Lib.hid (And.intro hst HYl.out.2.2)
          clear hst HYl
          go_wp2_with fail
          go_roundw
          case rel => exact ⟨z + 1, A, by omega, by go_num, Lib.hid ⟨by omega, HE.out⟩⟩
          case measure => simp [intOf]; omega
       ·have hst := HZl.out.2.1
        rw [HXS.out.2.2.2.2.2 z (by omega), HAD.out.2] at hst
        have HR := Lib.hid hst
        obtain ⟨-, -, q1, -, q2, q3⟩ := HZl.out
        have ho := HO.out
        have c1 := (q1.rowO (g := w.heap.size + 1) #[.int .u64 0, .int .u64 0, .int .u64 0, .int .u64 0, .int .u64 0, .int .u64 0, .int .u64 0, .int .u64 0] (by omega)).cell
        have l1' := q1.lt
        have cxx := (HZl.out.2.2.2.1.rowO (g := w.heap.size + 1) #[.int .u64 0, .int .u64 0, .int .u64 0, .int .u64 0, .int .u64 0, .int .u64 0, .int .u64 0, .int .u64 0] (by omega)).cell
        have r2 := q2.row; have l2' := q2.lt
        have cF := (q2.rowS #[.int .u64 (pl A 0), .int .u64 (pl A 1), .int .u64 (pl A 2), .int .u64 (pl A 3), .int .u64 (pl A 4), .int .u64 (pl A 5), .int .u64 (pl A 6), .int .u64 (pl A 7)]).cell
        have hb5 := bel_row q3 (g := w.heap.size + 1) (by omega) #[.int .u64 (pl A 0), .int .u64 (pl A 1), .int .u64 (pl A 2), .int .u64 (pl A 3), .int .u64 (pl A 4), .int .u64 (pl A 5), .int .u64 (pl A 6), .int .u64 (pl A 7)]
        rw [← q2.rw]
        clear q1 q2 q3 HZl ho hst
        go_wp2_with fail
        exact bodyPost_ret (v := .tuple #[solV A, .int .i64 0]) (by simp [results, Tryz.results68, go_sem, cF]) rfl ⟨by rw [HR.out], hb5⟩
     ·have hM : blockM (l0, l1, l2) (h0, h1, h2) = (0, 1) := if_neg (by unfold okBox; simp [show ¬ (l2 ≤ h2) from k2'])
      rw [hM]
      have k22 : h2 < l2 := by omega
      clear hM hl hh
      go_enter Tryz.func68, Tryz.ntmps68
      go_wp2_with fail
      obtain ⟨W0, hW0⟩ : ∃ W0, W0 = (w.alloc (.cells #[.int .i64 l0, .int .i64 l1, .int .i64 l2, .int .i64 h0, .int .i64 h1, .int .i64 h2] 62)).alloc (.cells #[.int .u64 0, .int .u64 0, .int .u64 0, .int .u64 0, .int .u64 0, .int .u64 0, .int .u64 0, .int .u64 0] 26) := ⟨_, rfl⟩
      have b0 : Blk W0 w.heap.size #[.int .i64 l0, .int .i64 l1, .int .i64 l2, .int .i64 h0, .int .i64 h1, .int .i64 h2] 62 ∧ Blk W0 (w.heap.size + 1) #[.int .u64 0, .int .u64 0, .int .u64 0, .int .u64 0, .int .u64 0, .int .u64 0, .int .u64 0, .int .u64 0] 26 ∧ Below w.heap.size w W0 ∧ W0.heap.size = w.heap.size + 1 + 1 := by
       rw [hW0]
       exact ⟨(by repeat (first | with_reducible assumption | (refine Blk.at _ _ ?_; (simp; done)) | with_reducible refine Blk.alloc ?_ _ | with_reducible refine Blk.drew ?_ | with_reducible refine Blk.rowS ?_ _ | with_reducible refine Blk.rowO ?_ _ (by simp))), Blk.at _ _ (by simp), (by repeat (first | with_reducible exact bel_refl _ | with_reducible assumption | with_reducible refine bel_drewN ?_ _ | with_reducible refine bel_drew ?_ | with_reducible refine bel_alloc ?_ _ | with_reducible refine bel_row ?_ ?_ _ | with_reducible refine bel_set ?_ ?_ _ | refine bel_trans ?_ (by with_reducible assumption) | (simp; done) | (simp; omega))), by simp⟩
      rw [← hW0]
      clear hW0
      have HB := Lib.hid b0
      clear b0
      refine (HL.out _).mono ?_
      rintro e w1 ⟨rfl, hb⟩
      have HB1 := Lib.hid (And.intro (HB.out.1.grow hb) (And.intro (HB.out.2.1.grow hb) (bel_trans HB.out.2.2.1 hb)))
      clear hb
      have cx := HB1.out.1.cell; have lx := HB1.out.1.lt
      go_wp2_with fail
      refine (HH.out _).mono ?_
      rintro e w2 ⟨rfl, hb⟩
      have HB2 := Lib.hid (And.intro (HB1.out.1.grow hb) (And.intro (HB1.out.2.1.grow hb) (bel_trans HB1.out.2.2 hb)))
      clear hb cx lx
      have k2 := HB2.out.2.1
      have cx := (HB2.out.1.rowO (g := w.heap.size + 1) #[.int .u64 0, .int .u64 0, .int .u64 0, .int .u64 0, .int .u64 0, .int .u64 0, .int .u64 0, .int .u64 0] (by omega)).cell; have lx := HB2.out.1.lt
      have cxx := HB2.out.1.cell
      have r2 := k2.row; have l2' := k2.lt
      have cF := (k2.rowS #[.int .u64 0, .int .u64 0, .int .u64 0, .int .u64 0, .int .u64 0, .int .u64 0, .int .u64 0, .int .u64 0]).cell
      have hb5 := bel_row HB2.out.2.2 (g := w.heap.size + 1) (by omega) #[.int .u64 0, .int .u64 0, .int .u64 0, .int .u64 0, .int .u64 0, .int .u64 0, .int .u64 0, .int .u64 0]
      rw [← k2.rw]
      clear k2
      go_wp2_with fail
      exact bodyPost_ret (v := .tuple #[solV 0, .int .i64 1]) (by rw [HZV.out]; simp [results, Tryz.results68, go_sem, cF]) rfl ⟨rfl, hb5⟩
    ·have hM : blockM (l0, l1, l2) (h0, h1, h2) = (0, 1) := if_neg (by unfold okBox; simp [show ¬ (l1 ≤ h1) from k1])
     rw [hM]
     have k22 : h1 < l1 := by omega
     clear hM hl hh
     go_enter Tryz.func68, Tryz.ntmps68
     go_wp2_with fail
     obtain ⟨W0, hW0⟩ : ∃ W0, W0 = (w.alloc (.cells #[.int .i64 l0, .int .i64 l1, .int .i64 l2, .int .i64 h0, .int .i64 h1, .int .i64 h2] 62)).alloc (.cells #[.int .u64 0, .int .u64 0, .int .u64 0, .int .u64 0, .int .u64 0, .int .u64 0, .int .u64 0, .int .u64 0] 26) := ⟨_, rfl⟩
     have b0 : Blk W0 w.heap.size #[.int .i64 l0, .int .i64 l1, .int .i64 l2, .int .i64 h0, .int .i64 h1, .int .i64 h2] 62 ∧ Blk W0 (w.heap.size + 1) #[.int .u64 0, .int .u64 0, .int .u64 0, .int .u64 0, .int .u64 0, .int .u64 0, .int .u64 0, .int .u64 0] 26 ∧ Below w.heap.size w W0 ∧ W0.heap.size = w.heap.size + 1 + 1 := by
      rw [hW0]
      exact ⟨(by repeat (first | with_reducible assumption | (refine Blk.at _ _ ?_; (simp; done)) | with_reducible refine Blk.alloc ?_ _ | with_reducible refine Blk.drew ?_ | with_reducible refine Blk.rowS ?_ _ | with_reducible refine Blk.rowO ?_ _ (by simp))), Blk.at _ _ (by simp), (by repeat (first | with_reducible exact bel_refl _ | with_reducible assumption | with_reducible refine bel_drewN ?_ _ | with_reducible refine bel_drew ?_ | with_reducible refine bel_alloc ?_ _ | with_reducible refine bel_row ?_ ?_ _ | with_reducible refine bel_set ?_ ?_ _ | refine bel_trans ?_ (by with_reducible assumption) | (simp; done) | (simp; omega))), by simp⟩
     rw [← hW0]
     clear hW0
     have HB := Lib.hid b0
     clear b0
     refine (HL.out _).mono ?_
     rintro e w1 ⟨rfl, hb⟩
     have HB1 := Lib.hid (And.intro (HB.out.1.grow hb) (And.intro (HB.out.2.1.grow hb) (bel_trans HB.out.2.2.1 hb)))
     clear hb
     have cx := HB1.out.1.cell; have lx := HB1.out.1.lt
     go_wp2_with fail
     refine (HH.out _).mono ?_
     rintro e w2 ⟨rfl, hb⟩
     have HB2 := Lib.hid (And.intro (HB1.out.1.grow hb) (And.intro (HB1.out.2.1.grow hb) (bel_trans HB1.out.2.2 hb)))
     clear hb cx lx
     have k2 := HB2.out.2.1
     have cx := (HB2.out.1.rowO (g := w.heap.size + 1) #[.int .u64 0, .int .u64 0, .int .u64 0, .int .u64 0, .int .u64 0, .int .u64 0, .int .u64 0, .int .u64 0] (by omega)).cell; have lx := HB2.out.1.lt
     have cxx := HB2.out.1.cell
     have r2 := k2.row; have l2' := k2.lt
     have cF := (k2.rowS #[.int .u64 0, .int .u64 0, .int .u64 0, .int .u64 0, .int .u64 0, .int .u64 0, .int .u64 0, .int .u64 0]).cell
     have hb5 := bel_row HB2.out.2.2 (g := w.heap.size + 1) (by omega) #[.int .u64 0, .int .u64 0, .int .u64 0, .int .u64 0, .int .u64 0, .int .u64 0, .int .u64 0, .int .u64 0]
     rw [← k2.rw]
     clear k2
     go_wp2_with fail
     exact bodyPost_ret (v := .tuple #[solV 0, .int .i64 1]) (by rw [HZV.out]; simp [results, Tryz.results68, go_sem, cF]) rfl ⟨rfl, hb5⟩
   ·have hM : blockM (l0, l1, l2) (h0, h1, h2) = (0, 1) := if_neg (by unfold okBox; simp [show ¬ (l0 ≤ h0) from k0])
    rw [hM]
    have k22 : h0 < l0 := by omega
    clear hM hl hh
    go_enter Tryz.func68, Tryz.ntmps68
    go_wp2_with fail
    obtain ⟨W0, hW0⟩ : ∃ W0, W0 = (w.alloc (.cells #[.int .i64 l0, .int .i64 l1, .int .i64 l2, .int .i64 h0, .int .i64 h1, .int .i64 h2] 62)).alloc (.cells #[.int .u64 0, .int .u64 0, .int .u64 0, .int .u64 0, .int .u64 0, .int .u64 0, .int .u64 0, .int .u64 0] 26) := ⟨_, rfl⟩
    have b0 : Blk W0 w.heap.size #[.int .i64 l0, .int .i64 l1, .int .i64 l2, .int .i64 h0, .int .i64 h1, .int .i64 h2] 62 ∧ Blk W0 (w.heap.size + 1) #[.int .u64 0, .int .u64 0, .int .u64 0, .int .u64 0, .int .u64 0, .int .u64 0, .int .u64 0, .int .u64 0] 26 ∧ Below w.heap.size w W0 ∧ W0.heap.size = w.heap.size + 1 + 1 := by
     rw [hW0]
     exact ⟨(by repeat (first | with_reducible assumption | (refine Blk.at _ _ ?_; (simp; done)) | with_reducible refine Blk.alloc ?_ _ | with_reducible refine Blk.drew ?_ | with_reducible refine Blk.rowS ?_ _ | with_reducible refine Blk.rowO ?_ _ (by simp))), Blk.at _ _ (by simp), (by repeat (first | with_reducible exact bel_refl _ | with_reducible assumption | with_reducible refine bel_drewN ?_ _ | with_reducible refine bel_drew ?_ | with_reducible refine bel_alloc ?_ _ | with_reducible refine bel_row ?_ ?_ _ | with_reducible refine bel_set ?_ ?_ _ | refine bel_trans ?_ (by with_reducible assumption) | (simp; done) | (simp; omega))), by simp⟩
    rw [← hW0]
    clear hW0
    have HB := Lib.hid b0
    clear b0
    refine (HL.out _).mono ?_
    rintro e w1 ⟨rfl, hb⟩
    have HB1 := Lib.hid (And.intro (HB.out.1.grow hb) (And.intro (HB.out.2.1.grow hb) (bel_trans HB.out.2.2.1 hb)))
    clear hb
    have cx := HB1.out.1.cell; have lx := HB1.out.1.lt
    go_wp2_with fail
    refine (HH.out _).mono ?_
    rintro e w2 ⟨rfl, hb⟩
    have HB2 := Lib.hid (And.intro (HB1.out.1.grow hb) (And.intro (HB1.out.2.1.grow hb) (bel_trans HB1.out.2.2 hb)))
    clear hb cx lx
    have k2 := HB2.out.2.1
    have cx := (HB2.out.1.rowO (g := w.heap.size + 1) #[.int .u64 0, .int .u64 0, .int .u64 0, .int .u64 0, .int .u64 0, .int .u64 0, .int .u64 0, .int .u64 0] (by omega)).cell; have lx := HB2.out.1.lt
    have cxx := HB2.out.1.cell
    have r2 := k2.row; have l2' := k2.lt
    have cF := (k2.rowS #[.int .u64 0, .int .u64 0, .int .u64 0, .int .u64 0, .int .u64 0, .int .u64 0, .int .u64 0, .int .u64 0]).cell
    have hb5 := bel_row HB2.out.2.2 (g := w.heap.size + 1) (by omega) #[.int .u64 0, .int .u64 0, .int .u64 0, .int .u64 0, .int .u64 0, .int .u64 0, .int .u64 0, .int .u64 0]
    rw [← k2.rw]
    clear k2
    go_wp2_with fail
    exact bodyPost_ret (v := .tuple #[solV 0, .int .i64 1]) (by rw [HZV.out]; simp [results, Tryz.results68, go_sem, cF]) rfl ⟨rfl, hb5⟩
end Go.Proofs.YtkfimbonmnoglaaGreatDoor
end
