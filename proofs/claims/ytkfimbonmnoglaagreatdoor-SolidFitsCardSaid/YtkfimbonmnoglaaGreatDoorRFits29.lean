import Derived.Test.YtkfimbonmnoglaaGreatDoorRFits28
import Derived.Deep.Cut
/-
  Given contracts of functions of the program, and laws for them, one behind the other.
-/
set_option linter.unusedVariables false
set_option linter.unusedSimpArgs false
set_option linter.unusedSectionVars false
section
namespace Go.Proofs.YtkfimbonmnoglaaGreatDoor
open Go.RowKit Go.Rel Go.Draw Go.Solid
set_option maxRecDepth 100000
attribute [local irreducible] rcH rcY rcX
theorem cells512 (s : Sol) : (cellsS s).length ≤ 512 := cellsS_len s
set_option maxHeartbeats 8000000 in
theorem refCells_spec (s : Sol) (w : World) : Calls Tryz.prog 83 #[solV s] w fun e w' => ∃ u, e = .returned u ∧ OwnCl w' w.heap.size u (cellsS s) ∧ Below w.heap.size w w' := by
 obtain ⟨i0, hi, hz0, hz1, hz2⟩ := info_parts infoCell
 have HI0 := Lib.hid (And.intro hi (And.intro hz0 (And.intro hz1 hz2))); clear hi hz0 hz1 hz2
 have HS := Lib.hid (rc_all s)
 have HL := Lib.hid (cells512 s)
 have HH := Lib.hid fun c W => refHas_spec s c W
 obtain ⟨L, hL⟩ : ∃ L, L = cellsS s := ⟨_, rfl⟩
 rw [← hL] at HS HL ⊢
 clear hL
 go_enter Tryz.func83, Tryz.ntmps83
 go_wp2_with fail
 obtain ⟨W0, hW0⟩ : ∃ W0, W0 = w.alloc (.cells #[.int .u64 (pl s 0), .int .u64 (pl s 1), .int .u64 (pl s 2), .int .u64 (pl s 3), .int .u64 (pl s 4), .int .u64 (pl s 5), .int .u64 (pl s 6), .int .u64 (pl s 7)] 26) := ⟨_, rfl⟩
 have hb0 : Blk W0 w.heap.size #[.int .u64 (pl s 0), .int .u64 (pl s 1), .int .u64 (pl s 2), .int .u64 (pl s 3), .int .u64 (pl s 4), .int .u64 (pl s 5), .int .u64 (pl s 6), .int .u64 (pl s 7)] 26 ∧ Below w.heap.size w W0 := by rw [hW0]; exact ⟨Blk.new _ _ _, bel_alloc (bel_refl w) _⟩
 rw [← hW0]
 clear hW0
 have HB := Lib.hid hb0
 clear hb0
 go_loopw [3, 4] (fun uv zv wx => ∃ (z : Int) (pre : List Cl), 0 ≤ z ∧ zv = .int .i64 z ∧ Hid (pre ++ rcH s z = L ∧ OwnCl wx (w.heap.size + 1) uv pre ∧ Blk wx w.heap.size #[.int .u64 (pl s 0), .int .u64 (pl s 1), .int .u64 (pl s 2), .int .u64 (pl s 3), .int .u64 (pl s 4), .int .u64 (pl s 5), .int .u64 (pl s 6), .int .u64 (pl s 7)] 26 ∧ Below w.heap.size w wx)) (fun _ zv _ => (8 - intOf zv).toNat)
 case atStart => exact ⟨0, [], by omega, rfl, Lib.hid ⟨HS.out, World.ownsRow_nil _ _ _ _, HB.out.1, HB.out.2⟩⟩
 case round =>
  obtain ⟨z, pre, hz, rfl, HZ⟩ := hrel
  by_cases hz1 : z ≤ 7
  ·have HY0 := HZ.out.1
   rw [rcH_step s hz1] at HY0
   have HY1 := Lib.hid (And.intro HY0 HZ.out.2)
   have hz8 : z < 8 := by omega
   clear HY0 HZ
   go_wp2_with fail
   go_loopw [3, 5] (fun uv yv wx => ∃ (y : Int) (pre : List Cl), 0 ≤ y ∧ yv = .int .i64 y ∧ Hid (pre ++ rcY s z y = L ∧ OwnCl wx (w.heap.size + 1) uv pre ∧ Blk wx w.heap.size #[.int .u64 (pl s 0), .int .u64 (pl s 1), .int .u64 (pl s 2), .int .u64 (pl s 3), .int .u64 (pl s 4), .int .u64 (pl s 5), .int .u64 (pl s 6), .int .u64 (pl s 7)] 26 ∧ Below w.heap.size w wx)) (fun _ yv _ => (8 - intOf yv).toNat)
   case atStart => exact ⟨0, pre, by omega, rfl, HY1⟩
   case round =>
    clear HY1
    obtain ⟨y, pre, hy, rfl, HY⟩ := hrel
    by_cases hy1 : y ≤ 7
    ·have HX0 := HY.out.1
     rw [rcY_step s hy1] at HX0
     have HX1 := Lib.hid (And.intro HX0 HY.out.2)
     have hy8 : y < 8 := by omega
     clear HX0 HY
     go_wp2_with fail
     go_loopw [3, 6] (fun uv xv wx => ∃ (x : Int) (pre : List Cl), 0 ≤ x ∧ xv = .int .i64 x ∧ Hid (pre ++ rcX s z y x = L ∧ OwnCl wx (w.heap.size + 1) uv pre ∧ Blk wx w.heap.size #[.int .u64 (pl s 0), .int .u64 (pl s 1), .int .u64 (pl s 2), .int .u64 (pl s 3), .int .u64 (pl s 4), .int .u64 (pl s 5), .int .u64 (pl s 6), .int .u64 (pl s 7)] 26 ∧ Below w.heap.size w wx)) (fun _ xv _ => (8 - intOf xv).toNat)
     case atStart => exact ⟨0, pre, by omega, rfl, HX1⟩
     case round =>
      clear HX1
      obtain ⟨x, pre, hx, rfl, HX⟩ := hrel
      by_cases hx1 : x ≤ 7
      ·have hx8 : x < 8 := by omega
       have hst := rcX_step s (z := z) (y := y) hx1
       have HH1 := Lib.hid fun W => HH.out (x, y, z) W
       obtain ⟨q, hq⟩ : ∃ q, q = hasS s (x, y, z) := ⟨_, rfl⟩
       rw [← hq] at hst HH1
       clear hq
       have HQ := Lib.hid hst
       have hlen : pre.length ≤ 512 := by
        have h1 := HL.out
        rw [← HX.out.1, List.length_append] at h1; omega
       clear hst
       have cs := HX.out.2.2.1.cell; have ls := HX.out.2.2.1.lt
       go_wp2_with fail
       refine (HH1.out _).mono ?_
       rintro e w2 ⟨rfl, hb⟩
       clear cs ls
       have hAB : Below wr.heap.size wr w2 := bel_trans (bel_alloc (bel_refl wr) _) hb
       have c7 := ((Blk.new wr #[.int .i64 x, .int .i64 y, .int .i64 z] 60).grow hb).cell
       have l7 := ((Blk.new wr #[.int .i64 x, .int .i64 y, .int .i64 z] 60).grow hb).lt
       have hE := And.intro (own_gb HX.out.2.1 hAB) (And.intro (HX.out.2.2.1.grow hAB) (bel_trans HX.out.2.2.2 hAB))
       have HX0 := Lib.hid HX.out.1
       have HE := Lib.hid hE
       obtain ⟨wB, hwB⟩ : ∃ W, W = w2 := ⟨_, rfl⟩
       rw [← hwB] at HE c7 l7 ⊢
       have hsz := HE.out.2.2.size
       have lB := HE.out.2.1.lt
       have hlen2 := hlen
       clear hwB hb hAB hE HX
       cases q with
       | false =>
        have HE2 := Lib.hid ((HQ.out.trans (if_neg (by decide))) ▸ HX0.out)
        clear HQ HX0
        go_wp2_with fail
        go_roundw
        case rel => exact ⟨x + 1, pre, by omega, by go_num, Lib.hid ⟨HE2.out, HE.out⟩⟩
        case measure => simp [intOf]; omega
       | true =>
        have HE2 := Lib.hid ((HQ.out.trans (if_pos rfl)) ▸ HX0.out)
        clear HQ HX0
        go_wp2_with (first
         | (at_builtin; refine wpList_append_own _ rfl _ _ 71 rfl (w.heap.size + 1) 60 i0 _ 3 24 Tryz.underlying71 HI0.out.1 HI0.out.2.1 HI0.out.2.2.1 HI0.out.2.2.2 rfl (by decide) _ _ _ rfl (HE.out.1.alloc _) ⟨wB.heap.size, 0, none⟩ 1 1 (clL (x, y, z)) rfl rfl (blk_newsS (Blk.new wB _ 60)) (fun y hy => by simp [clL] at hy; rcases hy with rfl | rfl | rfl <;> rfl) (by unfold maxLen; omega) (by omega) (by simp; omega) ?_; intro v' w3 hown' hgrow3 hnil3))
        go_roundw
        case rel =>
         refine ⟨x + 1, pre ++ [(x, y, z)], by omega, by go_num, Lib.hid ⟨by rw [List.append_assoc]; exact HE2.out, ?_, ?_, ?_⟩⟩
         ·unfold OwnCl
          rw [List.length_append, List.map_append, List.flatten_append]
          simpa using hown'
         ·exact (HE.out.2.1.alloc _).gb hgrow3 (fun e => by have := (HE.out.1.lt _ e.symm).1; omega)
         ·exact HE.out.2.2.trans (((bel_alloc (bel_refl wB) _).mono hsz).grown hgrow3 (by simp; omega) (fun j hj => by have := (HE.out.1.lt j hj).1; omega))
        case measure => simp [intOf]; omega
      ·have HE := HX.out.1
       rw [rcX_end s (by omega)] at HE
       have HE1 := Lib.hid (And.intro HE HX.out.2)
       clear HE HX
       have hx9 : ¬ (x < 8) := by omega
       go_wp2_with fail
       go_roundw
       case rel => exact ⟨y + 1, pre, by omega, by go_num, HE1⟩
       case measure => simp [intOf]; omega
    ·have HE := HY.out.1
     rw [rcY_end s (by omega)] at HE
     have HE1 := Lib.hid (And.intro HE HY.out.2)
     have hy9 : ¬ (y < 8) := by omega
     clear HE HY
     go_wp2_with fail
     go_roundw
     case rel => exact ⟨z + 1, pre, by omega, by go_num, HE1⟩
     case measure => simp [intOf]; omega
  ·have HE := HZ.out.1
   rw [rcH_end s (by omega), List.append_nil] at HE
   have HE1 := Lib.hid (And.intro HE HZ.out.2)
   have hz9 : ¬ (z < 8) := by omega
   clear HE HZ
   go_wp2_with fail
   go_ret
   refine ⟨_, rfl, ?_, HE1.out.2.2.2⟩
   rw [← HE1.out.1]; exact own_weak HE1.out.2.1 (by omega)
end Go.Proofs.YtkfimbonmnoglaaGreatDoor
end
section
namespace Go.Proofs.YtkfimbonmnoglaaGreatDoor
open Go.RowKit Go.Rel Go.Draw Go.Solid
set_option maxRecDepth 100000
theorem refShort_spec (n : Int) (w : World) : Calls Tryz.prog 132 #[.int .i64 n] w fun e w' => e = .returned (.bool (inB n (-7) 7)) ∧ w' = w := by
 obtain ⟨R, hR⟩ : ∃ R, R = inB n (-7) 7 := ⟨_, rfl⟩
 rw [← hR]
 have h : inB n (-7) 7 = (decide (-7 ≤ n) && decide (n ≤ 7)) := rfl
 rw [h] at hR
 clear h
 have HR := Lib.hid hR
 clear hR
 go_enter Tryz.func132, Tryz.ntmps132
 go_wp2_with fail
 all_goals (go_ret; exact ⟨ret_bool (by rw [HR.out]; first | (simp [*]; done) | (simp [*]; omega)), rfl⟩)
set_option maxHeartbeats 4000000 in
theorem refMotion_spec (t : Int) (d : Cl) (w : World) : Calls Tryz.prog 93 #[motV t d] w fun e w' => e = .returned (.bool (rightB t d)) ∧ Below w.heap.size w w' := by
 have H1 := Lib.hid fun W => refShort_spec d.1 W
 have H2 := Lib.hid fun W => refShort_spec d.2.1 W
 have H3 := Lib.hid fun W => refShort_spec d.2.2 W
 obtain ⟨R, hR⟩ : ∃ R, R = rightB t d := ⟨_, rfl⟩
 rw [← hR]
 have h : rightB t d = ((decide (0 ≤ t) && decide (t ≤ 23)) && (inB d.1 (-7) 7 && inB d.2.1 (-7) 7 && inB d.2.2 (-7) 7)) := rfl
 rw [h] at hR
 clear h
 obtain ⟨a, ha⟩ : ∃ R, R = inB d.1 (-7) 7 := ⟨_, rfl⟩
 obtain ⟨b, hb⟩ : ∃ R, R = inB d.2.1 (-7) 7 := ⟨_, rfl⟩
 obtain ⟨c, hc⟩ : ∃ R, R = inB d.2.2 (-7) 7 := ⟨_, rfl⟩
 rw [← ha] at H1 hR; rw [← hb] at H2 hR; rw [← hc] at H3 hR
 obtain ⟨x, y, z⟩ := d
 clear ha hb hc
 have hb0 : Below w.heap.size w (w.alloc (.cells #[.int .i64 t, .int .i64 x, .int .i64 y, .int .i64 z] 23)) := (by repeat (first | with_reducible exact bel_refl _ | with_reducible assumption | with_reducible refine bel_drewN ?_ _ | with_reducible refine bel_drew ?_ | with_reducible refine bel_alloc ?_ _ | with_reducible refine bel_row ?_ ?_ _ | with_reducible refine bel_set ?_ ?_ _ | refine bel_trans ?_ (by with_reducible assumption) | (simp; done) | (simp; omega)))
 have HB := Lib.hid hb0
 clear hb0
 by_cases h0 : 0 ≤ t
 ·by_cases h23 : t ≤ 23
  ·have HR : Hid (R = (a && b && c)) := Lib.hid (by rw [hR]; simp [h0, h23])
   clear hR
   cases a
   ·go_enter Tryz.func93, Tryz.ntmps93
    go_wp2_with fail
    refine (H1.out _).mono ?_
    rintro e w2 ⟨rfl, rfl⟩
    go_wp2_with fail
    go_ret
    exact ⟨ret_bool (by rw [HR.out]; rfl), HB.out⟩
   ·cases b
    ·go_enter Tryz.func93, Tryz.ntmps93
     go_wp2_with fail
     refine (H1.out _).mono ?_
     rintro e w2 ⟨rfl, rfl⟩
     go_wp2_with fail
     refine (H2.out _).mono ?_
     rintro e w2 ⟨rfl, rfl⟩
     go_wp2_with fail
     go_ret
     exact ⟨ret_bool (by rw [HR.out]; rfl), HB.out⟩
    ·go_enter Tryz.func93, Tryz.ntmps93
     go_wp2_with fail
     refine (H1.out _).mono ?_
     rintro e w2 ⟨rfl, rfl⟩
     go_wp2_with fail
     refine (H2.out _).mono ?_
     rintro e w2 ⟨rfl, rfl⟩
     go_wp2_with fail
     refine (H3.out _).mono ?_
     rintro e w2 ⟨rfl, rfl⟩
     go_wp2_with fail
     go_ret
     exact ⟨ret_bool (by rw [HR.out]; simp), HB.out⟩
  ·have HR : Hid (R = false) := Lib.hid (by rw [hR]; simp [h23])
   clear hR
   go_enter Tryz.func93, Tryz.ntmps93
   go_wp2_with fail
   go_ret
   exact ⟨ret_bool (by rw [HR.out]), HB.out⟩
 ·have HR : Hid (R = false) := Lib.hid (by rw [hR]; simp [h0])
  clear hR
  go_enter Tryz.func93, Tryz.ntmps93
  go_wp2_with fail
  go_ret
  exact ⟨ret_bool (by rw [HR.out]), HB.out⟩
theorem w64 {n : Int} (h : -1000000 ≤ n ∧ n ≤ 1000000) : IntKind.i64.wrap n = n := IntWalk.i64_in _ ⟨by omega, by omega⟩
theorem refMoved_spec (c d : Cl) (h0 : -1000000 ≤ c.1 + d.1 ∧ c.1 + d.1 ≤ 1000000) (h1 : -1000000 ≤ c.2.1 + d.2.1 ∧ c.2.1 + d.2.1 ≤ 1000000) (h2 : -1000000 ≤ c.2.2 + d.2.2 ∧ c.2.2 + d.2.2 ≤ 1000000) (w : World) :
  Calls Tryz.prog 113 #[clV c, .int .i64 d.1, .int .i64 d.2.1, .int .i64 d.2.2] w fun e w' => e = .returned (clV (addC c d)) ∧ Below w.heap.size w w' := by
 have x0 := w64 h0; have x1 := w64 h1; have x2 := w64 h2
 clear h0 h1 h2
 have hd : addC c d = (c.1 + d.1, c.2.1 + d.2.1, c.2.2 + d.2.2) := rfl
 rw [hd]
 clear hd
 obtain ⟨x, y, z⟩ := c
 obtain ⟨a, b, e⟩ := d
 simp only at x0 x1 x2
 go_enter Tryz.func113, Tryz.ntmps113
 go_upto_region 1 with fail
 obtain ⟨W0, hW0⟩ : ∃ W0, W0 = (w.alloc (.cells #[.int .i64 x, .int .i64 y, .int .i64 z] 60)).alloc (.cells #[.int .i64 0, .int .i64 0, .int .i64 0] 60) := ⟨_, rfl⟩
 have b1 : Blk W0 w.heap.size #[.int .i64 x, .int .i64 y, .int .i64 z] 60 := by rw [hW0]; exact (by repeat (first | with_reducible assumption | (refine Blk.at _ _ ?_; (simp; done)) | with_reducible refine Blk.alloc ?_ _ | with_reducible refine Blk.drew ?_ | with_reducible refine Blk.rowS ?_ _ | with_reducible refine Blk.rowO ?_ _ (by simp)))
 have B1 : Blk W0 (w.heap.size + 1) #[.int .i64 0, .int .i64 0, .int .i64 0] 60 := by rw [hW0]; exact Blk.at _ _ (by simp)
 have hbw : Below w.heap.size w W0 := by rw [hW0]; exact (by repeat (first | with_reducible exact bel_refl _ | with_reducible assumption | with_reducible refine bel_drewN ?_ _ | with_reducible refine bel_drew ?_ | with_reducible refine bel_alloc ?_ _ | with_reducible refine bel_row ?_ ?_ _ | with_reducible refine bel_set ?_ ?_ _ | refine bel_trans ?_ (by with_reducible assumption) | (simp; done) | (simp; omega)))
 rw [← hW0]
 clear hW0
 have c0 := (b1.rowO (g := w.heap.size + 1) #[.int .i64 0, .int .i64 0, .int .i64 0] (by omega)).cell
 have l0 := b1.lt
 have r1 := B1.row; have l1 := B1.lt
 have cF := (B1.rowS #[.int .i64 (x + a), .int .i64 (y + b), .int .i64 (z + e)]).cell
 have hb5 := bel_row hbw (g := w.heap.size + 1) (by omega) #[.int .i64 (x + a), .int .i64 (y + b), .int .i64 (z + e)]
 have c00 := b1.cell
 rw [← B1.rw]
 clear B1 b1 hbw
 go_wp2_with fail
 exact bodyPost_ret (v := clV (x + a, y + b, z + e)) (by simp [results, Tryz.results113, go_sem, cF]) rfl ⟨rfl, hb5⟩
theorem refRoll0 (x y z : Int) (hx : -7 ≤ x ∧ x ≤ 14) (hy : -7 ≤ y ∧ y ≤ 14) (hz : -7 ≤ z ∧ z ≤ 14) (w : World) : Calls Tryz.prog 157 #[clV (x, y, z), .int .i64 0] w fun e w' => e = .returned (clV (x, y, z)) ∧ Below w.heap.size w w' := by
 have x0 : IntKind.i64.wrap (7 - x) = 7 - x := w64 ⟨by omega, by omega⟩
 have x1 : IntKind.i64.wrap (7 - y) = 7 - y := w64 ⟨by omega, by omega⟩
 have x2 : IntKind.i64.wrap (7 - z) = 7 - z := w64 ⟨by omega, by omega⟩
 clear hx hy hz
 go_enter Tryz.func157, Tryz.ntmps157
 go_upto_region 1 with fail
 obtain ⟨W0, hW0⟩ : ∃ W0, W0 = (w.alloc (.cells #[.int .i64 x, .int .i64 y, .int .i64 z] 60)).alloc (.cells #[.int .i64 0, .int .i64 0, .int .i64 0] 60) := ⟨_, rfl⟩
 have b1 : Blk W0 w.heap.size #[.int .i64 x, .int .i64 y, .int .i64 z] 60 := by rw [hW0]; exact (by repeat (first | with_reducible assumption | (refine Blk.at _ _ ?_; (simp; done)) | with_reducible refine Blk.alloc ?_ _ | with_reducible refine Blk.drew ?_ | with_reducible refine Blk.rowS ?_ _ | with_reducible refine Blk.rowO ?_ _ (by simp)))
 have B1 : Blk W0 (w.heap.size + 1) #[.int .i64 0, .int .i64 0, .int .i64 0] 60 := by rw [hW0]; exact Blk.at _ _ (by simp)
 have hbw : Below w.heap.size w W0 := by rw [hW0]; exact (by repeat (first | with_reducible exact bel_refl _ | with_reducible assumption | with_reducible refine bel_drewN ?_ _ | with_reducible refine bel_drew ?_ | with_reducible refine bel_alloc ?_ _ | with_reducible refine bel_row ?_ ?_ _ | with_reducible refine bel_set ?_ ?_ _ | refine bel_trans ?_ (by with_reducible assumption) | (simp; done) | (simp; omega)))
 rw [← hW0]
 clear hW0
 have c0 := (b1.rowO (g := w.heap.size + 1) #[.int .i64 0, .int .i64 0, .int .i64 0] (by omega)).cell
 have l0 := b1.lt
 have r1 := B1.row; have l1 := B1.lt
 have cF := (B1.rowS #[.int .i64 (x), .int .i64 (y), .int .i64 (z)]).cell
 have hb5 := bel_row hbw (g := w.heap.size + 1) (by omega) #[.int .i64 (x), .int .i64 (y), .int .i64 (z)]
 have c00 := b1.cell
 rw [← B1.rw]
 clear B1 b1 hbw
 go_wp2_with fail
 exact bodyPost_ret (v := clV (x, y, z)) (by simp [results, Tryz.results157, go_sem, cF]) rfl ⟨rfl, hb5⟩
theorem refRoll1 (x y z : Int) (hx : -7 ≤ x ∧ x ≤ 14) (hy : -7 ≤ y ∧ y ≤ 14) (hz : -7 ≤ z ∧ z ≤ 14) (w : World) : Calls Tryz.prog 157 #[clV (x, y, z), .int .i64 1] w fun e w' => e = .returned (clV (x, 7 - z, y)) ∧ Below w.heap.size w w' := by
 have x0 : IntKind.i64.wrap (7 - x) = 7 - x := w64 ⟨by omega, by omega⟩
 have x1 : IntKind.i64.wrap (7 - y) = 7 - y := w64 ⟨by omega, by omega⟩
 have x2 : IntKind.i64.wrap (7 - z) = 7 - z := w64 ⟨by omega, by omega⟩
 clear hx hy hz
 go_enter Tryz.func157, Tryz.ntmps157
 go_upto_region 1 with fail
 obtain ⟨W0, hW0⟩ : ∃ W0, W0 = (w.alloc (.cells #[.int .i64 x, .int .i64 y, .int .i64 z] 60)).alloc (.cells #[.int .i64 0, .int .i64 0, .int .i64 0] 60) := ⟨_, rfl⟩
 have b1 : Blk W0 w.heap.size #[.int .i64 x, .int .i64 y, .int .i64 z] 60 := by rw [hW0]; exact (by repeat (first | with_reducible assumption | (refine Blk.at _ _ ?_; (simp; done)) | with_reducible refine Blk.alloc ?_ _ | with_reducible refine Blk.drew ?_ | with_reducible refine Blk.rowS ?_ _ | with_reducible refine Blk.rowO ?_ _ (by simp)))
 have B1 : Blk W0 (w.heap.size + 1) #[.int .i64 0, .int .i64 0, .int .i64 0] 60 := by rw [hW0]; exact Blk.at _ _ (by simp)
 have hbw : Below w.heap.size w W0 := by rw [hW0]; exact (by repeat (first | with_reducible exact bel_refl _ | with_reducible assumption | with_reducible refine bel_drewN ?_ _ | with_reducible refine bel_drew ?_ | with_reducible refine bel_alloc ?_ _ | with_reducible refine bel_row ?_ ?_ _ | with_reducible refine bel_set ?_ ?_ _ | refine bel_trans ?_ (by with_reducible assumption) | (simp; done) | (simp; omega)))
 rw [← hW0]
 clear hW0
 have c0 := (b1.rowO (g := w.heap.size + 1) #[.int .i64 0, .int .i64 0, .int .i64 0] (by omega)).cell
 have l0 := b1.lt
 have r1 := B1.row; have l1 := B1.lt
 have cF := (B1.rowS #[.int .i64 (x), .int .i64 (7 - z), .int .i64 (y)]).cell
 have hb5 := bel_row hbw (g := w.heap.size + 1) (by omega) #[.int .i64 (x), .int .i64 (7 - z), .int .i64 (y)]
 have c00 := b1.cell
 rw [← B1.rw]
 clear B1 b1 hbw
 go_wp2_with fail
 exact bodyPost_ret (v := clV (x, 7 - z, y)) (by simp [results, Tryz.results157, go_sem, cF]) rfl ⟨rfl, hb5⟩
theorem refRoll2 (x y z : Int) (hx : -7 ≤ x ∧ x ≤ 14) (hy : -7 ≤ y ∧ y ≤ 14) (hz : -7 ≤ z ∧ z ≤ 14) (w : World) : Calls Tryz.prog 157 #[clV (x, y, z), .int .i64 2] w fun e w' => e = .returned (clV (x, 7 - y, 7 - z)) ∧ Below w.heap.size w w' := by
 have x0 : IntKind.i64.wrap (7 - x) = 7 - x := w64 ⟨by omega, by omega⟩
 have x1 : IntKind.i64.wrap (7 - y) = 7 - y := w64 ⟨by omega, by omega⟩
 have x2 : IntKind.i64.wrap (7 - z) = 7 - z := w64 ⟨by omega, by omega⟩
 clear hx hy hz
 go_enter Tryz.func157, Tryz.ntmps157
 go_upto_region 1 with fail
 obtain ⟨W0, hW0⟩ : ∃ W0, W0 = (w.alloc (.cells #[.int .i64 x, .int .i64 y, .int .i64 z] 60)).alloc (.cells #[.int .i64 0, .int .i64 0, .int .i64 0] 60) := ⟨_, rfl⟩
 have b1 : Blk W0 w.heap.size #[.int .i64 x, .int .i64 y, .int .i64 z] 60 := by rw [hW0]; exact (by repeat (first | with_reducible assumption | (refine Blk.at _ _ ?_; (simp; done)) | with_reducible refine Blk.alloc ?_ _ | with_reducible refine Blk.drew ?_ | with_reducible refine Blk.rowS ?_ _ | with_reducible refine Blk.rowO ?_ _ (by simp)))
 have B1 : Blk W0 (w.heap.size + 1) #[.int .i64 0, .int .i64 0, .int .i64 0] 60 := by rw [hW0]; exact Blk.at _ _ (by simp)
 have hbw : Below w.heap.size w W0 := by rw [hW0]; exact (by repeat (first | with_reducible exact bel_refl _ | with_reducible assumption | with_reducible refine bel_drewN ?_ _ | with_reducible refine bel_drew ?_ | with_reducible refine bel_alloc ?_ _ | with_reducible refine bel_row ?_ ?_ _ | with_reducible refine bel_set ?_ ?_ _ | refine bel_trans ?_ (by with_reducible assumption) | (simp; done) | (simp; omega)))
 rw [← hW0]
 clear hW0
 have c0 := (b1.rowO (g := w.heap.size + 1) #[.int .i64 0, .int .i64 0, .int .i64 0] (by omega)).cell
 have l0 := b1.lt
 have r1 := B1.row; have l1 := B1.lt
 have cF := (B1.rowS #[.int .i64 (x), .int .i64 (7 - y), .int .i64 (7 - z)]).cell
 have hb5 := bel_row hbw (g := w.heap.size + 1) (by omega) #[.int .i64 (x), .int .i64 (7 - y), .int .i64 (7 - z)]
 have c00 := b1.cell
 rw [← B1.rw]
 clear B1 b1 hbw
 go_wp2_with fail
 exact bodyPost_ret (v := clV (x, 7 - y, 7 - z)) (by simp [results, Tryz.results157, go_sem, cF]) rfl ⟨rfl, hb5⟩
theorem refRoll3 (x y z : Int) (hx : -7 ≤ x ∧ x ≤ 14) (hy : -7 ≤ y ∧ y ≤ 14) (hz : -7 ≤ z ∧ z ≤ 14) (w : World) : Calls Tryz.prog 157 #[clV (x, y, z), .int .i64 3] w fun e w' => e = .returned (clV (x, z, 7 - y)) ∧ Below w.heap.size w w' := by
 have x0 : IntKind.i64.wrap (7 - x) = 7 - x := w64 ⟨by omega, by omega⟩
 have x1 : IntKind.i64.wrap (7 - y) = 7 - y := w64 ⟨by omega, by omega⟩
 have x2 : IntKind.i64.wrap (7 - z) = 7 - z := w64 ⟨by omega, by omega⟩
 clear hx hy hz
 go_enter Tryz.func157, Tryz.ntmps157
 go_upto_region 1 with fail
 obtain ⟨W0, hW0⟩ : ∃ W0, W0 = (w.alloc (.cells #[.int .i64 x, .int .i64 y, .int .i64 z] 60)).alloc (.cells #[.int .i64 0, .int .i64 0, .int .i64 0] 60) := ⟨_, rfl⟩
 have b1 : Blk W0 w.heap.size #[.int .i64 x, .int .i64 y, .int .i64 z] 60 := by rw [hW0]; exact (by repeat (first | with_reducible assumption | (refine Blk.at _ _ ?_; (simp; done)) | with_reducible refine Blk.alloc ?_ _ | with_reducible refine Blk.drew ?_ | with_reducible refine Blk.rowS ?_ _ | with_reducible refine Blk.rowO ?_ _ (by simp)))
 have B1 : Blk W0 (w.heap.size + 1) #[.int .i64 0, .int .i64 0, .int .i64 0] 60 := by rw [hW0]; exact Blk.at _ _ (by simp)
 have hbw : Below w.heap.size w W0 := by rw [hW0]; exact (by repeat (first | with_reducible exact bel_refl _ | with_reducible assumption | with_reducible refine bel_drewN ?_ _ | with_reducible refine bel_drew ?_ | with_reducible refine bel_alloc ?_ _ | with_reducible refine bel_row ?_ ?_ _ | with_reducible refine bel_set ?_ ?_ _ | refine bel_trans ?_ (by with_reducible assumption) | (simp; done) | (simp; omega)))
 rw [← hW0]
 clear hW0
 have c0 := (b1.rowO (g := w.heap.size + 1) #[.int .i64 0, .int .i64 0, .int .i64 0] (by omega)).cell
 have l0 := b1.lt
 have r1 := B1.row; have l1 := B1.lt
 have cF := (B1.rowS #[.int .i64 (x), .int .i64 (z), .int .i64 (7 - y)]).cell
 have hb5 := bel_row hbw (g := w.heap.size + 1) (by omega) #[.int .i64 (x), .int .i64 (z), .int .i64 (7 - y)]
 have c00 := b1.cell
 rw [← B1.rw]
 clear B1 b1 hbw
 go_wp2_with fail
 exact bodyPost_ret (v := clV (x, z, 7 - y)) (by simp [results, Tryz.results157, go_sem, cF]) rfl ⟨rfl, hb5⟩
theorem refRoll4 (x y z : Int) (hx : -7 ≤ x ∧ x ≤ 14) (hy : -7 ≤ y ∧ y ≤ 14) (hz : -7 ≤ z ∧ z ≤ 14) (w : World) : Calls Tryz.prog 157 #[clV (x, y, z), .int .i64 4] w fun e w' => e = .returned (clV (z, y, 7 - x)) ∧ Below w.heap.size w w' := by
 have x0 : IntKind.i64.wrap (7 - x) = 7 - x := w64 ⟨by omega, by omega⟩
 have x1 : IntKind.i64.wrap (7 - y) = 7 - y := w64 ⟨by omega, by omega⟩
 have x2 : IntKind.i64.wrap (7 - z) = 7 - z := w64 ⟨by omega, by omega⟩
 clear hx hy hz
 go_enter Tryz.func157, Tryz.ntmps157
 go_upto_region 1 with fail
 obtain ⟨W0, hW0⟩ : ∃ W0, W0 = (w.alloc (.cells #[.int .i64 x, .int .i64 y, .int .i64 z] 60)).alloc (.cells #[.int .i64 0, .int .i64 0, .int .i64 0] 60) := ⟨_, rfl⟩
 have b1 : Blk W0 w.heap.size #[.int .i64 x, .int .i64 y, .int .i64 z] 60 := by rw [hW0]; exact (by repeat (first | with_reducible assumption | (refine Blk.at _ _ ?_; (simp; done)) | with_reducible refine Blk.alloc ?_ _ | with_reducible refine Blk.drew ?_ | with_reducible refine Blk.rowS ?_ _ | with_reducible refine Blk.rowO ?_ _ (by simp)))
 have B1 : Blk W0 (w.heap.size + 1) #[.int .i64 0, .int .i64 0, .int .i64 0] 60 := by rw [hW0]; exact Blk.at _ _ (by simp)
 have hbw : Below w.heap.size w W0 := by rw [hW0]; exact (by repeat (first | with_reducible exact bel_refl _ | with_reducible assumption | with_reducible refine bel_drewN ?_ _ | with_reducible refine bel_drew ?_ | with_reducible refine bel_alloc ?_ _ | with_reducible refine bel_row ?_ ?_ _ | with_reducible refine bel_set ?_ ?_ _ | refine bel_trans ?_ (by with_reducible assumption) | (simp; done) | (simp; omega)))
 rw [← hW0]
 clear hW0
 have c0 := (b1.rowO (g := w.heap.size + 1) #[.int .i64 0, .int .i64 0, .int .i64 0] (by omega)).cell
 have l0 := b1.lt
 have r1 := B1.row; have l1 := B1.lt
 have cF := (B1.rowS #[.int .i64 (z), .int .i64 (y), .int .i64 (7 - x)]).cell
 have hb5 := bel_row hbw (g := w.heap.size + 1) (by omega) #[.int .i64 (z), .int .i64 (y), .int .i64 (7 - x)]
 have c00 := b1.cell
 rw [← B1.rw]
 clear B1 b1 hbw
 go_wp2_with fail
 exact bodyPost_ret (v := clV (z, y, 7 - x)) (by simp [results, Tryz.results157, go_sem, cF]) rfl ⟨rfl, hb5⟩
theorem refRoll5 (x y z : Int) (hx : -7 ≤ x ∧ x ≤ 14) (hy : -7 ≤ y ∧ y ≤ 14) (hz : -7 ≤ z ∧ z ≤ 14) (w : World) : Calls Tryz.prog 157 #[clV (x, y, z), .int .i64 5] w fun e w' => e = .returned (clV (7 - z, y, x)) ∧ Below w.heap.size w w' := by
 have x0 : IntKind.i64.wrap (7 - x) = 7 - x := w64 ⟨by omega, by omega⟩
 have x1 : IntKind.i64.wrap (7 - y) = 7 - y := w64 ⟨by omega, by omega⟩
 have x2 : IntKind.i64.wrap (7 - z) = 7 - z := w64 ⟨by omega, by omega⟩
 clear hx hy hz
 go_enter Tryz.func157, Tryz.ntmps157
 go_upto_region 1 with fail
 obtain ⟨W0, hW0⟩ : ∃ W0, W0 = (w.alloc (.cells #[.int .i64 x, .int .i64 y, .int .i64 z] 60)).alloc (.cells #[.int .i64 0, .int .i64 0, .int .i64 0] 60) := ⟨_, rfl⟩
 have b1 : Blk W0 w.heap.size #[.int .i64 x, .int .i64 y, .int .i64 z] 60 := by rw [hW0]; exact (by repeat (first | with_reducible assumption | (refine Blk.at _ _ ?_; (simp; done)) | with_reducible refine Blk.alloc ?_ _ | with_reducible refine Blk.drew ?_ | with_reducible refine Blk.rowS ?_ _ | with_reducible refine Blk.rowO ?_ _ (by simp)))
 have B1 : Blk W0 (w.heap.size + 1) #[.int .i64 0, .int .i64 0, .int .i64 0] 60 := by rw [hW0]; exact Blk.at _ _ (by simp)
 have hbw : Below w.heap.size w W0 := by rw [hW0]; exact (by repeat (first | with_reducible exact bel_refl _ | with_reducible assumption | with_reducible refine bel_drewN ?_ _ | with_reducible refine bel_drew ?_ | with_reducible refine bel_alloc ?_ _ | with_reducible refine bel_row ?_ ?_ _ | with_reducible refine bel_set ?_ ?_ _ | refine bel_trans ?_ (by with_reducible assumption) | (simp; done) | (simp; omega)))
 rw [← hW0]
 clear hW0
 have c0 := (b1.rowO (g := w.heap.size + 1) #[.int .i64 0, .int .i64 0, .int .i64 0] (by omega)).cell
 have l0 := b1.lt
 have r1 := B1.row; have l1 := B1.lt
 have cF := (B1.rowS #[.int .i64 (7 - z), .int .i64 (y), .int .i64 (x)]).cell
 have hb5 := bel_row hbw (g := w.heap.size + 1) (by omega) #[.int .i64 (7 - z), .int .i64 (y), .int .i64 (x)]
 have c00 := b1.cell
 rw [← B1.rw]
 clear B1 b1 hbw
 go_wp2_with fail
 exact bodyPost_ret (v := clV (7 - z, y, x)) (by simp [results, Tryz.results157, go_sem, cF]) rfl ⟨rfl, hb5⟩
end Go.Proofs.YtkfimbonmnoglaaGreatDoor
end
section
namespace Go.Proofs.YtkfimbonmnoglaaGreatDoor
open Go.RowKit Go.Rel Go.Draw Go.Solid
set_option maxRecDepth 100000
def near14 (c : Cl) : Prop := (-7 ≤ c.1 ∧ c.1 ≤ 14) ∧ (-7 ≤ c.2.1 ∧ c.2.1 ≤ 14) ∧ (-7 ≤ c.2.2 ∧ c.2.2 ≤ 14)
theorem near14_roll (h : Nat) {c : Cl} (hc : near14 c) : near14 (rollC h c) := by
 obtain ⟨x, y, z⟩ := c
 unfold near14 at hc ⊢
 simp only at hc
 unfold rollC
 split <;> (simp only; omega)
theorem refRolled_spec (h : Nat) (hh : h < 6) (c : Cl) (hc : near14 c) (w : World) : Calls Tryz.prog 157 #[clV c, .int .i64 (h : Nat)] w fun e w' => e = .returned (clV (rollC h c)) ∧ Below w.heap.size w w' := by
 obtain ⟨x, y, z⟩ := c
 obtain ⟨h1, h2, h3⟩ := hc
 obtain rfl | rfl | rfl | rfl | rfl | rfl : h = 0 ∨ h = 1 ∨ h = 2 ∨ h = 3 ∨ h = 4 ∨ h = 5 := by omega
 ·exact refRoll0 x y z h1 h2 h3 w
 ·exact refRoll1 x y z h1 h2 h3 w
 ·exact refRoll2 x y z h1 h2 h3 w
 ·exact refRoll3 x y z h1 h2 h3 w
 ·exact refRoll4 x y z h1 h2 h3 w
 ·exact refRoll5 x y z h1 h2 h3 w
set_option maxHeartbeats 8000000 in
theorem refTurnedC_spec (t : Nat) (ht : t < 24) (c : Cl) (hc : near14 c) (w : World) : Calls Tryz.prog 130 #[clV c, .int .i64 (t : Nat)] w fun e w' => e = .returned (clV (turnC t c)) ∧ Below w.heap.size w w' := by
 obtain ⟨r, hr⟩ : ∃ r, r = t % 4 := ⟨_, rfl⟩
 have hm : (t : Int) % 4 = (r : Int) := by omega
 have ht1 : (0 : Int) ≤ (t : Int) := by omega
 obtain ⟨RV, hRV⟩ : ∃ RV : Cl, RV = turnC t c := ⟨_, rfl⟩
 rw [← hRV]
 have HR := Lib.hid fun W => refRolled_spec (t / 4) (by omega) c hc W
 have hG := near14_roll (t / 4) hc
 have hRV2 : RV = spinC r (rollC (t / 4) c) := by rw [hRV, hr]; rfl
 obtain ⟨h4, hh4⟩ : ∃ h4, h4 = t / 4 := ⟨_, rfl⟩
 have hq : (t : Int) / 4 = (h4 : Int) := by omega
 rw [← hh4] at HR hG hRV2
 have hw4 : wrap64 (h4 : Int) = (h4 : Int) := IntWalk.wrap64_in _ ⟨by omega, by omega⟩
 obtain ⟨o, ho⟩ : ∃ o, o = rollC h4 c := ⟨_, rfl⟩
 rw [← ho] at HR hG hRV2
 obtain ⟨p, q, s⟩ := o
 have HG := Lib.hid hG
 have HRV := Lib.hid hRV2
 obtain ⟨x, y, z⟩ := c
 clear hRV hRV2 hG ho hc hr ht hh4
 go_enter Tryz.func130, Tryz.ntmps130
 go_wp2_with fail
 refine (HR.out _).mono ?_
 rintro e w1 ⟨rfl, hb⟩
 have hb1 : Below _ _ w1 := hb
 have B0 : Blk w1 w.heap.size #[.int .i64 x, .int .i64 y, .int .i64 z] 60 := Blk.grow (by repeat (first | with_reducible assumption | (refine Blk.at _ _ ?_; (simp; done)) | with_reducible refine Blk.alloc ?_ _ | with_reducible refine Blk.drew ?_ | with_reducible refine Blk.rowS ?_ _ | with_reducible refine Blk.rowO ?_ _ (by simp))) hb1
 have B1 : Blk w1 (w.heap.size + 1) #[.int .i64 0, .int .i64 0, .int .i64 0] 60 := Blk.grow (by repeat (first | with_reducible assumption | (refine Blk.at _ _ ?_; (simp; done)) | with_reducible refine Blk.alloc ?_ _ | with_reducible refine Blk.drew ?_ | with_reducible refine Blk.rowS ?_ _ | with_reducible refine Blk.rowO ?_ _ (by simp))) hb1
 have hbw : Below w.heap.size w w1 := bel_trans (by repeat (first | with_reducible exact bel_refl _ | with_reducible assumption | with_reducible refine bel_drewN ?_ _ | with_reducible refine bel_drew ?_ | with_reducible refine bel_alloc ?_ _ | with_reducible refine bel_row ?_ ?_ _ | with_reducible refine bel_set ?_ ?_ _ | refine bel_trans ?_ (by with_reducible assumption) | (simp; done) | (simp; omega))) hb1
 have HB := Lib.hid (And.intro B1 (And.intro (B0.rowS #[.int .i64 p, .int .i64 q, .int .i64 s]) hbw))
 have l0 := B0.lt
 have r0 := B0.row
 rw [← B0.rw]
 clear B0 B1 hb hb1 hbw
 go_wp2_with fail
 obtain ⟨w3, hw3⟩ : ∃ x, w1.setRow w.heap.size #[.int .i64 p, .int .i64 q, .int .i64 s] = x := ⟨_, rfl⟩
 rw [hw3] at HB ⊢
 have hbw3 : Below w.heap.size w w3 := by rw [← hw3]; exact bel_row HB.out.2.2 (Nat.le_refl _) _
 have B13 : Blk w3 (w.heap.size + 1) #[.int .i64 0, .int .i64 0, .int .i64 0] 60 := by rw [← hw3]; exact (HB.out.1).rowO _ (by omega)
 have B03 := HB.out.2.1
 have HC := Lib.hid (And.intro hbw3 (And.intro B13 B03))
 clear hw3 r0 l0 hbw3 B13 B03
 have hm := Lib.hid hm
 go_loopw [5] (fun iv wx => ∃ (k : Nat) (c1 c2 c3 : Int), k ≤ r ∧ iv = .int .i64 k ∧ Hid (((-7 ≤ c1 ∧ c1 ≤ 14) ∧ (-7 ≤ c2 ∧ c2 ≤ 14) ∧ (-7 ≤ c3 ∧ c3 ≤ 14)) ∧ RV = spinC (r - k) (c1, c2, c3) ∧ Blk wx w.heap.size #[.int .i64 c1, .int .i64 c2, .int .i64 c3] 60 ∧ Blk wx (w.heap.size + 1) #[.int .i64 0, .int .i64 0, .int .i64 0] 60 ∧ Below w.heap.size w wx)) (fun iv _ => r - (intOf iv).toNat)
 case atStart => exact ⟨0, p, q, s, by omega, rfl, Lib.hid ⟨HG.out, HRV.out, HC.out.2.2, HC.out.2.1, HC.out.1⟩⟩
 case round =>
  clear hq
  obtain ⟨k, c1, c2, c3, hk, rfl, HI⟩ := hrel
  have B := HI.out.2.2.1
  have cB := B.cell; have lB := B.lt; have rB := B.row
  by_cases hlt : k < r
  ·have hd : decide ((k : Int) < (t : Int) % 4) = true := by rw [hm.out]; simp; omega
   have hc := HI.out.1
   have x1 : IntKind.i64.wrap (7 - c2) = 7 - c2 := w64 ⟨by omega, by omega⟩
   rw [← B.rw]
   clear B
   go_wp2_with fail
   go_roundw
   case rel =>
    refine ⟨k + 1, 7 - c2, c1, c3, by omega, by go_num, Lib.hid ⟨by omega, ?_, HI.out.2.2.1.rowS _, HI.out.2.2.2.1.rowO _ (by omega), bel_row HI.out.2.2.2.2 (Nat.le_refl _) _⟩⟩
    rw [HI.out.2.1, show r - k = (r - (k + 1)) + 1 by omega]; rfl
   case measure => simp [intOf]; omega
  ·obtain rfl : k = r := by omega
   have hd : decide ((k : Int) < (t : Int) % 4) = false := by rw [hm.out]; simp
   have B1 := HI.out.2.2.2.1
   have r1 := B1.row; have l1 := B1.lt
   have cF := (B1.rowS #[.int .i64 c1, .int .i64 c2, .int .i64 c3]).cell
   have hb := HI.out.2.2.2.2
   have hRV : RV = (c1, c2, c3) := by rw [HI.out.2.1, Nat.sub_self]; rfl
   have HV := Lib.hid hRV
   have cB2 := (B.rowO (g := w.heap.size + 1) #[.int .i64 0, .int .i64 0, .int .i64 0] (by omega)).cell
   clear hRV B
   rw [← B1.rw]
   clear B1
   go_wp2_with fail
   exact bodyPost_ret (v := clV (c1, c2, c3)) (by simp [results, Tryz.results130, go_sem, cF]) rfl ⟨by rw [HV.out], bel_row hb (by omega) _⟩
end Go.Proofs.YtkfimbonmnoglaaGreatDoor
end
