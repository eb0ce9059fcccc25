import Derived.Test.YtkfimbonmnoglaaGreatDoorRPlaced28
import Derived.Deep.Cut
/-
  Given contracts of functions of the program, and laws for them, one behind the other.
-/
set_option linter.unusedVariables false
set_option linter.unusedSimpArgs false
set_option linter.unusedSectionVars false
section
namespace Go.Proofs.YtkfimbonmnoglaaGreatDoor
open Go.RowKit Go.Rel Go.Draw Go.Solid
set_option maxRecDepth 100000
set_option maxHeartbeats 4000000 in
theorem inGrid_spec (c : Cl) (w : World) : Calls Tryz.prog 126 #[clV c] w fun e w' => e = .returned (.bool (inG c)) ∧ Below w.heap.size w w' := by
 obtain ⟨x, y, z⟩ := c
 obtain ⟨R, hR⟩ : ∃ R, R = inG (x, y, z) := ⟨_, rfl⟩
 rw [← hR]
 have hx : inG (x, y, z) = ((decide (0 ≤ x) && decide (x ≤ 7)) && (decide (0 ≤ y) && decide (y ≤ 7)) && (decide (0 ≤ z) && decide (z ≤ 7))) := rfl
 rw [hx] at hR
 clear hx
 have HR := Lib.hid hR
 clear hR
 go_enter Tryz.func126, Tryz.ntmps126
 go_wp2_with fail
 all_goals (go_ret; exact ⟨ret_bool (by rw [HR.out]; first | (simp [*]; done) | (simp [*]; omega)), (by repeat (first | with_reducible exact bel_refl _ | with_reducible assumption | with_reducible refine bel_drewN ?_ _ | with_reducible refine bel_drew ?_ | with_reducible refine bel_alloc ?_ _ | with_reducible refine bel_row ?_ ?_ _ | with_reducible refine bel_set ?_ ?_ _ | refine bel_trans ?_ (by with_reducible assumption) | (simp; done) | (simp; omega)))⟩)
theorem shlN {X Y : Nat} (h : 8 * Y + X < 64) : IntKind.u64.wrap (8 * (Y : Int) + X) = ((8 * Y + X : Nat) : Int) := by
 unfold IntKind.wrap; simp [IntKind.signed, IntKind.bits]; omega
set_option maxHeartbeats 4000000 in
theorem refHas_spec (s : Sol) (c : Cl) (w : World) : Calls Tryz.prog 80 #[solV s, clV c] w fun e w' => e = .returned (.bool (hasS s c)) ∧ Below w.heap.size w w' := by
 have HI := Lib.hid (fun W => inGrid_spec c W)
 have hbw : Below w.heap.size w ((w.alloc (.cells #[.int .u64 (pl s 0), .int .u64 (pl s 1), .int .u64 (pl s 2), .int .u64 (pl s 3), .int .u64 (pl s 4), .int .u64 (pl s 5), .int .u64 (pl s 6), .int .u64 (pl s 7)] 26)).alloc (.cells #[.int .i64 c.1, .int .i64 c.2.1, .int .i64 c.2.2] 60)) := (by repeat (first | with_reducible exact bel_refl _ | with_reducible assumption | with_reducible refine bel_drewN ?_ _ | with_reducible refine bel_drew ?_ | with_reducible refine bel_alloc ?_ _ | with_reducible refine bel_row ?_ ?_ _ | with_reducible refine bel_set ?_ ?_ _ | refine bel_trans ?_ (by with_reducible assumption) | (simp; done) | (simp; omega)))
 have HW := Lib.hid hbw; clear hbw
 cases hc : inG c with
 | false =>
  have e0 : hasS s c = false := hasS_out hc
  rw [e0]
  rw [hc] at HI
  clear hc e0
  go_enter Tryz.func80, Tryz.ntmps80
  go_wp2_with fail
  refine wp_region_grow 18 [Is (clV c), Is (.bool false), Is (.bool false), Is undef, Is undef, Is undef, Is undef, Is undef, Is undef, Is undef, Is undef, Is undef, Is undef, Is undef, Is undef, Is undef, Is undef, Is (.bool false)] (by kernel_rfl) (by kernel_rfl) rfl ⟨fun _ _ _ h _ => h, fun _ _ _ h _ => h, fun _ _ _ h _ => h, fun _ _ _ h _ => h, fun _ _ _ h _ => h, fun _ _ _ h _ => h, fun _ _ _ h _ => h, fun _ _ _ h _ => h, fun _ _ _ h _ => h, fun _ _ _ h _ => h, fun _ _ _ h _ => h, fun _ _ _ h _ => h, fun _ _ _ h _ => h, fun _ _ _ h _ => h, fun _ _ _ h _ => h, fun _ _ _ h _ => h, fun _ _ _ h _ => h, fun _ _ _ h _ => h, trivial⟩ ?_
  simp only [List.take_succ_cons, List.take_zero, List.drop_succ_cons, List.drop_zero]
  refine rel_cons ?_ (fun v0 => ?_)
  ·intro w1 hb hF; have hc := (Grows.cells hb).1; have hf := (Grows.cells hb).2; try simp [facts, Is] at hF
   go_simp
   exact Grows.refl _
  refine rel_cons ?_ (fun v1 => ?_)
  ·intro w1 hb hF; have hc := (Grows.cells hb).1; have hf := (Grows.cells hb).2; try simp [facts, Is] at hF
   go_simp
   refine (HI.out _).mono ?_
   rintro e w2 ⟨rfl, hb2⟩
   exact ⟨rfl, hb2⟩
  iterate 16 (refine rel_cons ?_ (fun _ => ?_); · intro w1 hb hF; have hc := (Grows.cells hb).1; have hf := (Grows.cells hb).2; (try simp [facts, Is] at hF); go_simp; (try exact Grows.refl _))
  refine rel_nil ?_
  intro w1 hb hF
  simp [Is, Nat.forall_lt_succ_right] at hF
  simp only [Act.put, List.setIfInBounds_toArray, List.set_cons_succ, List.set_cons_zero, hF]
  clear hF
  have hb' := Lib.hid (bel_trans HW.out hb)
  clear hb
  go_wp2_with fail
  go_ret
  exact ⟨rfl, hb'.out⟩
 | true =>
  have hG := inG_iff.1 hc
  have hpl := has_plane (s := s) hc
  obtain ⟨x, y, z⟩ := c
  simp only at hG
  obtain ⟨X, rfl⟩ : ∃ X : Nat, x = X := ⟨x.toNat, by omega⟩
  obtain ⟨Y, rfl⟩ : ∃ X : Nat, y = X := ⟨y.toNat, by omega⟩
  obtain ⟨Z, rfl⟩ : ∃ X : Nat, z = X := ⟨z.toNat, by omega⟩
  have hn : 8 * Y + X < 64 := by omega
  have hZ : (Z : Int) < 8 := by omega
  have hZ8 : Z < 8 := by omega
  have x1 := shlN hn
  have x2 : IntKind.u64.wrap ((2 : Int) ^ (8 * (Y : Int) + (X : Int)).toNat) = uI (1#64 <<< (8 * Y + X)) := by rw [show (8 * (Y : Int) + (X : Int)).toNat = 8 * Y + X by omega]; exact bitP_val hn
  have x3 : IntKind.i64.wrap (8 * (Y : Int)) = 8 * (Y : Int) := IntWalk.i64_in _ ⟨by omega, by omega⟩
  have x4 : IntKind.i64.wrap (8 * (Y : Int) + X) = 8 * (Y : Int) + X := IntWalk.i64_in _ ⟨by omega, by omega⟩
  rw [hc] at HI
  have HPL := Lib.hid hpl
  clear hc hG hpl
  have ea : bits .and .u64 (pl s Z) (uI (1#64 <<< (8 * Y + X))) = uI (plv s Z &&& 1#64 <<< (8 * Y + X)) := by rw [pl_uI]; exact bits_and_u _ _
  obtain ⟨R, hR⟩ : ∃ R, R = hasS s ((X : Int), (Y : Int), (Z : Int)) := ⟨_, rfl⟩
  have en : (uI (plv s Z &&& 1#64 <<< (8 * Y + X)) != 0) = R := by
   rw [bne_u0, hR, ← HPL.out]
   unfold bitP
   rw [show (8 * (Y : Int) + (X : Int)).toNat = 8 * Y + X by omega]; rfl
  rw [← hR]
  clear hR HPL
  go_enter Tryz.func80, Tryz.ntmps80
  go_wp2_with fail
  refine wp_region_grow 18 [Is (.agg #[.int .i64 (X : Int), .int .i64 (Y : Int), .int .i64 (Z : Int)]), Is (.bool true), Is (.bool true), Is (.pointer (some ⟨w.heap.size + 1, 2, none⟩)), Is (.int .i64 (Z : Int)), Is (.pointer (some ⟨w.heap.size, Z, none⟩)), Is (.int .u64 (pl s Z)), Is (.pointer (some ⟨w.heap.size + 1, 1, none⟩)), Is (.int .i64 (Y : Int)), Is (.int .i64 (8 * (Y : Int))), Is (.pointer (some ⟨w.heap.size + 1, 0, none⟩)), Is (.int .i64 (X : Int)), Is (.int .i64 (8 * (Y : Int) + X)), Is (.int .u64 ((8 * Y + X : Nat) : Int)), Is (.int .u64 (uI (1#64 <<< (8 * Y + X)))), Is (.int .u64 (uI (plv s Z &&& 1#64 <<< (8 * Y + X)))), Is (.bool R), Is (.bool R)] (by kernel_rfl) (by kernel_rfl) rfl ⟨fun _ _ _ h _ => h, fun _ _ _ h _ => h, fun _ _ _ h _ => h, fun _ _ _ h _ => h, fun _ _ _ h _ => h, fun _ _ _ h _ => h, fun _ _ _ h _ => h, fun _ _ _ h _ => h, fun _ _ _ h _ => h, fun _ _ _ h _ => h, fun _ _ _ h _ => h, fun _ _ _ h _ => h, fun _ _ _ h _ => h, fun _ _ _ h _ => h, fun _ _ _ h _ => h, fun _ _ _ h _ => h, fun _ _ _ h _ => h, fun _ _ _ h _ => h, trivial⟩ ?_
  simp only [List.take_succ_cons, List.take_zero, List.drop_succ_cons, List.drop_zero]
  refine rel_cons ?_ (fun v0 => ?_)
  ·intro w1 hb hF; have hc := (Grows.cells hb).1; have hf := (Grows.cells hb).2; try simp [facts, Is] at hF
   go_simp
   exact Grows.refl _
  refine rel_cons ?_ (fun v1 => ?_)
  ·intro w1 hb hF; have hc := (Grows.cells hb).1; have hf := (Grows.cells hb).2; try simp [facts, Is] at hF
   go_simp
   refine (HI.out _).mono ?_
   rintro e w2 ⟨rfl, hb2⟩
   exact ⟨rfl, hb2⟩
  iterate 4 (refine rel_cons ?_ (fun _ => ?_); · intro w1 hb hF; have hc := (Grows.cells hb).1; have hf := (Grows.cells hb).2; (try simp [facts, Is] at hF); go_simp; exact Grows.refl _)
  refine rel_cons ?_ (fun v6 => ?_)
  ·intro w1 hb hF; have hc := (Grows.cells hb).1; have hf := (Grows.cells hb).2; try simp [facts, Is] at hF
   have hz := hZ8
   go_simp
   exact ⟨Grows.refl _, getS s hz _⟩
  iterate 11 (refine rel_cons ?_ (fun _ => ?_); · intro w1 hb hF; have hc := (Grows.cells hb).1; have hf := (Grows.cells hb).2; (try simp [facts, Is] at hF); go_simp; exact Grows.refl _)
  refine rel_nil ?_
  intro w1 hb hF
  simp [Is, Nat.forall_lt_succ_right] at hF
  simp only [Act.put, List.setIfInBounds_toArray, List.set_cons_succ, List.set_cons_zero, hF]
  clear hF
  have hb0 : Below _ _ w1 := hb
  have hb1 := Lib.hid (bel_trans HW.out hb0)
  clear hb hb0
  go_wp2_with fail
  go_ret
  exact ⟨rfl, hb1.out⟩
end Go.Proofs.YtkfimbonmnoglaaGreatDoor
end
section
namespace Go.Proofs.YtkfimbonmnoglaaGreatDoor
open Go.RowKit Go.Rel Go.Draw Go.Solid
set_option maxRecDepth 100000
def withS (s : Sol) (c : Cl) : Sol := s ||| Go.Solid.one (bitN c)
end Go.Proofs.YtkfimbonmnoglaaGreatDoor
end
section
namespace Go.Proofs.YtkfimbonmnoglaaGreatDoor
open Go.RowKit Go.Rel Go.Draw Go.Solid
set_option maxRecDepth 100000
attribute [local irreducible] rcH rcY rcX
theorem cells512 (s : Sol) : (cellsS s).length ≤ 512 := cellsS_len s
set_option maxHeartbeats 8000000 in
theorem refCells_spec (s : Sol) (w : World) : Calls Tryz.prog 83 #[solV s] w fun e w' => ∃ u, e = .returned u ∧ OwnCl w' w.heap.size u (cellsS s) ∧ Below w.heap.size w w' := by
 obtain ⟨i0, hi, hz0, hz1, hz2⟩ := info_parts infoCell
 have HI0 := Lib.hid (And.intro hi (And.intro hz0 (And.intro hz1 hz2))); clear hi hz0 hz1 hz2
 have HS := Lib.hid (rc_all s)
 have HL := Lib.hid (cells512 s)
 have HH := Lib.hid fun c W => refHas_spec s c W
 obtain ⟨L, hL⟩ : ∃ L, L = cellsS s := ⟨_, rfl⟩
 rw [← hL] at HS HL ⊢
 clear hL
 go_enter Tryz.func83, Tryz.ntmps83
 go_wp2_with fail
 obtain ⟨W0, hW0⟩ : ∃ W0, W0 = w.alloc (.cells #[.int .u64 (pl s 0), .int .u64 (pl s 1), .int .u64 (pl s 2), .int .u64 (pl s 3), .int .u64 (pl s 4), .int .u64 (pl s 5), .int .u64 (pl s 6), .int .u64 (pl s 7)] 26) := ⟨_, rfl⟩
 have hb0 : Blk W0 w.heap.size #[.int .u64 (pl s 0), .int .u64 (pl s 1), .int .u64 (pl s 2), .int .u64 (pl s 3), .int .u64 (pl s 4), .int .u64 (pl s 5), .int .u64 (pl s 6), .int .u64 (pl s 7)] 26 ∧ Below w.heap.size w W0 := by rw [hW0]; exact ⟨Blk.new _ _ _, bel_alloc (bel_refl w) _⟩
 rw [← hW0]
 clear hW0
 have HB := Lib.hid hb0
 clear hb0
 go_loopw [3, 4] (fun uv zv wx => ∃ (z : Int) (pre : List Cl), 0 ≤ z ∧ zv = .int .i64 z ∧ Hid (pre ++ rcH s z = L ∧ OwnCl wx (w.heap.size + 1) uv pre ∧ Blk wx w.heap.size #[.int .u64 (pl s 0), .int .u64 (pl s 1), .int .u64 (pl s 2), .int .u64 (pl s 3), .int .u64 (pl s 4), .int .u64 (pl s 5), .int .u64 (pl s 6), .int .u64 (pl s 7)] 26 ∧ Below w.heap.size w wx)) (fun _ zv _ => (8 - intOf zv).toNat)
 case atStart => exact ⟨0, [], by omega, rfl, Lib.hid ⟨HS.out, World.ownsRow_nil _ _ _ _, HB.out.1, HB.out.2⟩⟩
 case round =>
  obtain ⟨z, pre, hz, rfl, HZ⟩ := hrel
  by_cases hz1 : z ≤ 7
  ·have HY0 := HZ.out.1
   rw [rcH_step s hz1] at HY0
   have HY1 := Lib.hid (And.intro HY0 HZ.out.2)
   have hz8 : z < 8 := by omega
   clear HY0 HZ
   go_wp2_with fail
   go_loopw [3, 5] (fun uv yv wx => ∃ (y : Int) (pre : List Cl), 0 ≤ y ∧ yv = .int .i64 y ∧ Hid (pre ++ rcY s z y = L ∧ OwnCl wx (w.heap.size + 1) uv pre ∧ Blk wx w.heap.size #[.int .u64 (pl s 0), .int .u64 (pl s 1), .int .u64 (pl s 2), .int .u64 (pl s 3), .int .u64 (pl s 4), .int .u64 (pl s 5), .int .u64 (pl s 6), .int .u64 (pl s 7)] 26 ∧ Below w.heap.size w wx)) (fun _ yv _ => (8 - intOf yv).toNat)
   case atStart => exact ⟨0, pre, by omega, rfl, HY1⟩
   case round =>
    clear HY1
    obtain ⟨y, pre, hy, rfl, HY⟩ := hrel
    by_cases hy1 : y ≤ 7
    ·have HX0 := HY.out.1
     rw [rcY_step s hy1] at HX0
     have HX1 := Lib.hid (And.intro HX0 HY.out.2)
     have hy8 : y < 8 := by omega
     clear HX0 HY
     go_wp2_with fail
     go_loopw [3, 6] (fun uv xv wx => ∃ (x : Int) (pre : List Cl), 0 ≤ x ∧ xv = .int .i64 x ∧ Hid (pre ++ rcX s z y x = L ∧ OwnCl wx (w.heap.size + 1) uv pre ∧ Blk wx w.heap.size #[.int .u64 (pl s 0), .int .u64 (pl s 1), .int .u64 (pl s 2), .int .u64 (pl s 3), .int .u64 (pl s 4), .int .u64 (pl s 5), .int .u64 (pl s 6), .int .u64 (pl s 7)] 26 ∧ Below w.heap.size w wx)) (fun _ xv _ => (8 - intOf xv).toNat)
     case atStart => exact ⟨0, pre, by omega, rfl, HX1⟩
     case round =>
      clear HX1
      obtain ⟨x, pre, hx, rfl, HX⟩ := hrel
      by_cases hx1 : x ≤ 7
      ·have hx8 : x < 8 := by omega
       have hst := rcX_step s (z := z) (y := y) hx1
       have HH1 := Lib.hid fun W => HH.out (x, y, z) W
       obtain ⟨q, hq⟩ : ∃ q, q = hasS s (x, y, z) := ⟨_, rfl⟩
       rw [← hq] at hst HH1
       clear hq
       have HQ := Lib.hid hst
       have hlen : pre.length ≤ 512 := by
        have h1 := HL.out
        rw [← HX.out.1, List.length_append] at h1; omega
       clear hst
       have cs := HX.out.2.2.1.cell; have ls := HX.out.2.2.1.lt
       go_wp2_with fail
       refine (HH1.out _).mono ?_
       rintro e w2 ⟨rfl, hb⟩
       clear cs ls
       have hAB : Below wr.heap.size wr w2 := bel_trans (bel_alloc (bel_refl wr) _) hb
       have c7 := ((Blk.new wr #[.int .i64 x, .int .i64 y, .int .i64 z] 60).grow hb).cell
       have l7 := ((Blk.new wr #[.int .i64 x, .int .i64 y, .int .i64 z] 60).grow hb).lt
       have hE := And.intro (own_gb HX.out.2.1 hAB) (And.intro (HX.out.2.2.1.grow hAB) (bel_trans HX.out.2.2.2 hAB))
       have HX0 := Lib.hid HX.out.1
       have HE := Lib.hid hE
       obtain ⟨wB, hwB⟩ : ∃ W, W = w2 := ⟨_, rfl⟩
       rw [← hwB] at HE c7 l7 ⊢
       have hsz := HE.out.2.2.size
       have lB := HE.out.2.1.lt
       have hlen2 := hlen
       clear hwB hb hAB hE HX
       cases q with
       | false =>
        have HE2 := Lib.hid ((HQ.out.trans (if_neg (by decide))) ▸ HX0.out)
        clear HQ HX0
        go_wp2_with fail
        go_roundw
        case rel => exact ⟨x + 1, pre, by omega, by go_num, Lib.hid ⟨HE2.out, HE.out⟩⟩
        case measure => simp [intOf]; omega
       | true =>
        have HE2 := Lib.hid ((HQ.out.trans (if_pos rfl)) ▸ HX0.out)
        clear HQ HX0
        go_wp2_with (first
         | (at_builtin; refine wpList_append_own _ rfl _ _ 71 rfl (w.heap.size + 1) 60 i0 _ 3 24 Tryz.underlying71 HI0.out.1 HI0.out.2.1 HI0.out.2.2.1 HI0.out.2.2.2 rfl (by decide) _ _ _ rfl (HE.out.1.alloc _) ⟨wB.heap.size, 0, none⟩ 1 1 (clL (x, y, z)) rfl rfl (blk_newsS (Blk.new wB _ 60)) (fun y hy => by simp [clL] at hy; rcases hy with rfl | rfl | rfl <;> rfl) (by unfold maxLen; omega) (by omega) (by simp; omega) ?_; intro v' w3 hown' hgrow3 hnil3))
        go_roundw
        case rel =>
         refine ⟨x + 1, pre ++ [(x, y, z)], by omega, by go_num, Lib.hid ⟨by rw [List.append_assoc]; exact HE2.out, ?_, ?_, ?_⟩⟩
         ·unfold OwnCl
          rw [List.length_append, List.map_append, List.flatten_append]
          simpa using hown'
         ·exact (HE.out.2.1.alloc _).gb hgrow3 (fun e => by have := (HE.out.1.lt _ e.symm).1; omega)
         ·exact HE.out.2.2.trans (((bel_alloc (bel_refl wB) _).mono hsz).grown hgrow3 (by simp; omega) (fun j hj => by have := (HE.out.1.lt j hj).1; omega))
        case measure => simp [intOf]; omega
      ·have HE := HX.out.1
       rw [rcX_end s (by omega)] at HE
       have HE1 := Lib.hid (And.intro HE HX.out.2)
       clear HE HX
       have hx9 : ¬ (x < 8) := by omega
       go_wp2_with fail
       go_roundw
       case rel => exact ⟨y + 1, pre, by omega, by go_num, HE1⟩
       case measure => simp [intOf]; omega
    ·have HE := HY.out.1
     rw [rcY_end s (by omega)] at HE
     have HE1 := Lib.hid (And.intro HE HY.out.2)
     have hy9 : ¬ (y < 8) := by omega
     clear HE HY
     go_wp2_with fail
     go_roundw
     case rel => exact ⟨z + 1, pre, by omega, by go_num, HE1⟩
     case measure => simp [intOf]; omega
  ·have HE := HZ.out.1
   rw [rcH_end s (by omega), List.append_nil] at HE
   have HE1 := Lib.hid (And.intro HE HZ.out.2)
   have hz9 : ¬ (z < 8) := by omega
   clear HE HZ
   go_wp2_with fail
   go_ret
   refine ⟨_, rfl, ?_, HE1.out.2.2.2⟩
   rw [← HE1.out.1]; exact own_weak HE1.out.2.1 (by omega)
end Go.Proofs.YtkfimbonmnoglaaGreatDoor
end
section
namespace Go.Proofs.YtkfimbonmnoglaaGreatDoor
open Go.RowKit Go.Rel Go.Draw Go.Solid
set_option maxRecDepth 100000
theorem w64 {n : Int} (h : -1000000 ≤ n ∧ n ≤ 1000000) : IntKind.i64.wrap n = n := IntWalk.i64_in _ ⟨by omega, by omega⟩
end Go.Proofs.YtkfimbonmnoglaaGreatDoor
end
section
namespace Go.Proofs.YtkfimbonmnoglaaGreatDoor
open Go.RowKit Go.Rel Go.Draw Go.Solid
set_option maxRecDepth 100000
/-- a list of cells in memory, opened -/
def ClO (base : Nat) (W : World) (a : Option Addr) (l : List Cl) : Prop := l = [] ∨ ∃ b off, a = some ⟨b, off, none⟩ ∧ Cells W b off 3 (l.map clL) ∧ base ≤ b
theorem Cells.rowC {W : World} {b off k : Nat} {xs : List (List Value)} (h : Cells W b off k xs) {g : Nat} (hne : b ≠ g) (cs : Array Value) : Cells (W.setRow g cs) b off k xs :=
 ⟨by rw [setRow_size]; exact h.1, fun i j u hu => (cell_row_other _ _ _ _ _ hne).trans (h.2 i j u hu)⟩
theorem ClO.mono {base : Nat} {W W' : World} {a : Option Addr} {l : List Cl} (h : ClO base W a l) (hb : Below W.heap.size W W') : ClO base W' a l := by
 rcases h with h | ⟨b, off, h1, h2, h3⟩
 ·exact .inl h
 ·exact .inr ⟨b, off, h1, h2.mono hb h2.1, h3⟩
theorem ClO.row {base : Nat} {W : World} {a : Option Addr} {l : List Cl} (h : ClO base W a l) {g : Nat} (hg : g < base) (cs : Array Value) : ClO base (W.setRow g cs) a l := by
 rcases h with h | ⟨b, off, h1, h2, h3⟩
 ·exact .inl h
 ·exact .inr ⟨b, off, h1, h2.rowC (by omega) cs, h3⟩
theorem ClO.at {base : Nat} {W : World} {a : Option Addr} {l : List Cl} (h : ClO base W a l) {k : Nat} {x : Cl} (hx : l[k]? = some x) : ∃ b off, a = some ⟨b, off, none⟩ ∧ Cells W b off 3 (l.map clL) ∧ base ≤ b := by
 rcases h with rfl | h
 ·cases hx
 ·exact h
theorem OwnCl.opened {W : World} {base : Nat} {v : Value} {l : List Cl} (h : OwnCl W base v l) : ∃ a c, v = .slice a l.length c ∧ ClO base W a l := by
 obtain ⟨a, c, hv, _, _, hc⟩ := h.sl
 rw [List.length_map] at hv
 refine ⟨a, c, hv, ?_⟩
 rcases hc with hc | ⟨b, off, ha, hc⟩
 ·exact .inl (List.map_eq_nil_iff.1 hc)
 ·refine .inr ⟨b, off, ha, hc, (h.lt b ?_).1⟩
  rw [hv, ha]; rfl
theorem refCells_open (s : Sol) (w : World) : Calls Tryz.prog 83 #[solV s] w fun e w' => (∃ a c, e = .returned (.slice a (cellsS s).length c) ∧ ClO w.heap.size w' a (cellsS s)) ∧ Below w.heap.size w w' := (refCells_spec s w).mono fun e w' he => by
 obtain ⟨u, h1, h2, h3⟩ := he
 obtain ⟨a, c, hv, ho⟩ := OwnCl.opened h2
 exact ⟨⟨a, c, by rw [h1, hv], ho⟩, h3⟩
theorem refCount_spec (s : Sol) (w : World) : Calls Tryz.prog 69 #[solV s] w fun e w' => e = .returned (.int .i64 (countS s : Int)) ∧ Below w.heap.size w w' := by
 have HC := Lib.hid fun W => refCells_open s W
 have hc := countS_cells s
 obtain ⟨n, hn⟩ : ∃ n, n = (cellsS s).length := ⟨_, rfl⟩
 rw [← hn] at HC hc
 rw [hc]
 clear hc hn
 go_enter Tryz.func69, Tryz.ntmps69
 go_wp2_with fail
 refine (HC.out _).mono ?_
 rintro e w1 ⟨⟨a, c, rfl, _⟩, hb⟩
 have hb2 := Lib.hid (bel_trans ((by repeat (first | with_reducible exact bel_refl _ | with_reducible assumption | with_reducible refine bel_drewN ?_ _ | with_reducible refine bel_drew ?_ | with_reducible refine bel_alloc ?_ _ | with_reducible refine bel_row ?_ ?_ _ | with_reducible refine bel_set ?_ ?_ _ | refine bel_trans ?_ (by with_reducible assumption) | (simp; done) | (simp; omega))) : Below w.heap.size w (w.alloc (.cells #[.int .u64 (pl s 0), .int .u64 (pl s 1), .int .u64 (pl s 2), .int .u64 (pl s 3), .int .u64 (pl s 4), .int .u64 (pl s 5), .int .u64 (pl s 6), .int .u64 (pl s 7)] 26))) hb)
 clear hb
 go_wp2_with fail
 go_ret
 exact ⟨rfl, hb2.out⟩
/-- what some cells, mapped, make -/
def accP (f : Cl → Cl) (L : List Cl) (i : Nat) : Sol := (L.take i).foldl (fun a c => withS a (f c)) 0
attribute [local irreducible] accP turnC
end Go.Proofs.YtkfimbonmnoglaaGreatDoor
end
section
namespace Go.Proofs.YtkfimbonmnoglaaGreatDoor
open Go.RowKit Go.Rel Go.Draw Go.Solid
set_option maxRecDepth 100000
attribute [local go_sem] Oper.semAt_some
/-- a box that a region makes and fills -/
def BxB (N : Nat) (a d : Bool) (v : Value) (cs : Array Value) (W : World) : Prop := N ≤ W.heap.size ∧ (a = true → ∃ b, N ≤ b ∧ v = .pointer (some ⟨b, 0, none⟩) ∧ Blk W b (if d then cs else #[.int .i64 0, .int .i64 0, .int .i64 0, .int .i64 0, .int .i64 0, .int .i64 0]) 62)
theorem BxB.start {N : Nat} {d : Bool} {v : Value} {cs : Array Value} {W : World} (h : N ≤ W.heap.size) : BxB N false d v cs W := ⟨h, fun e => by cases e⟩
theorem BxB.new {N : Nat} {a : Bool} {v : Value} {cs : Array Value} {W : World} (h : BxB N a false v cs W) : BxB N true false (.pointer (some ⟨W.heap.size, 0, none⟩)) cs (W.alloc (.cells #[.int .i64 0, .int .i64 0, .int .i64 0, .int .i64 0, .int .i64 0, .int .i64 0] 62)) :=
 ⟨by rw [World.size_alloc]; have := h.1; omega, fun _ => ⟨_, h.1, rfl, Blk.new _ _ _⟩⟩
theorem BxB.le {N : Nat} {a d : Bool} {v : Value} {cs : Array Value} {W : World} (h : BxB N a d v cs W) : N ≤ W.heap.size := h.1
theorem BxB.row {N b : Nat} {cs c : Array Value} {W : World} (hN : N ≤ W.heap.size) (hb : N ≤ b) (h : Blk W b c 62) : BxB N true true (.pointer (some ⟨b, 0, none⟩)) cs (W.setRow b cs) :=
 ⟨by rw [setRow_size]; exact hN, fun _ => ⟨b, hb, rfl, h.rowS _⟩⟩
attribute [local irreducible] BxB loF hiF
end Go.Proofs.YtkfimbonmnoglaaGreatDoor
end
section
namespace Go.Proofs.YtkfimbonmnoglaaGreatDoor
open Go.RowKit Go.Rel Go.Draw Go.Solid
set_option maxRecDepth 100000
def chkM (a b : Sol) (tt : Int) (d : Cl) : Bool := decide ((placedM b tt d).2 = 0) && subS (placedM b tt d).1 a
theorem sub_beq (a b : Sol) : (a &&& b == a) = subS a b := rfl
attribute [local irreducible] placedM movedM turnedM
set_option maxHeartbeats 4000000 in
theorem checkFit_n (a b : Sol) (tt : Int) (d : Cl) (w : World) (hT : Tab w) : Calls Tryz.prog 53 #[solV a, solV b, motV tt d] w fun e w' => e = .returned (.bool (chkM a b tt d)) ∧ Below w.heap.size w w' := by
 have HT := Lib.hid (fun W (hb : Below w.heap.size w W) => hT.grow hb)
 clear hT
 have HP := Lib.hid fun W (hb : Below w.heap.size w W) => placed_n b tt d W (HT.out W hb)
 have hM : chkM a b tt d = (decide ((placedM b tt d).2 = 0) && subS (placedM b tt d).1 a) := rfl
 obtain ⟨p, e, hpe⟩ : ∃ p e, placedM b tt d = (p, e) := ⟨_, _, rfl⟩
 rw [hpe] at HP hM
 have HI := Lib.hid fun W => (sin_spec p a W)
 simp only [sub_beq] at HI
 rw [hM]
 obtain ⟨q, hq⟩ : ∃ q, q = subS p a := ⟨_, rfl⟩
 have hq2 : subS (p, e).1 a = q := hq.symm
 rw [hq2]
 rw [← hq] at HI
 clear hpe hM hq hq2
 go_enter Tryz.func53, Tryz.ntmps53
 go_wp2_with fail
 obtain ⟨wS0, hwS⟩ : ∃ x, x = ((w.alloc (.cells #[.int .u64 (pl a 0), .int .u64 (pl a 1), .int .u64 (pl a 2), .int .u64 (pl a 3), .int .u64 (pl a 4), .int .u64 (pl a 5), .int .u64 (pl a 6), .int .u64 (pl a 7)] 26)).alloc (.cells #[.int .u64 (pl b 0), .int .u64 (pl b 1), .int .u64 (pl b 2), .int .u64 (pl b 3), .int .u64 (pl b 4), .int .u64 (pl b 5), .int .u64 (pl b 6), .int .u64 (pl b 7)] 26)).alloc (.cells #[.int .i64 tt, .int .i64 d.1, .int .i64 d.2.1, .int .i64 d.2.2] 23) := ⟨_, rfl⟩
 have HS0 : Hid (Blk wS0 (w.heap.size) #[.int .u64 (pl a 0), .int .u64 (pl a 1), .int .u64 (pl a 2), .int .u64 (pl a 3), .int .u64 (pl a 4), .int .u64 (pl a 5), .int .u64 (pl a 6), .int .u64 (pl a 7)] 26 ∧ Blk wS0 (w.heap.size + 1) #[.int .u64 (pl b 0), .int .u64 (pl b 1), .int .u64 (pl b 2), .int .u64 (pl b 3), .int .u64 (pl b 4), .int .u64 (pl b 5), .int .u64 (pl b 6), .int .u64 (pl b 7)] 26 ∧ Blk wS0 (w.heap.size + 1 + 1) #[.int .i64 tt, .int .i64 d.1, .int .i64 d.2.1, .int .i64 d.2.2] 23 ∧ Below w.heap.size w wS0) := Lib.hid (by rw [hwS]; exact ⟨(by repeat (first | with_reducible assumption | (refine Blk.at _ _ ?_; (simp; done)) | with_reducible refine Blk.alloc ?_ _ | with_reducible refine Blk.drew ?_ | with_reducible refine Blk.rowS ?_ _ | with_reducible refine Blk.rowO ?_ _ (by simp))), (by repeat (first | with_reducible assumption | (refine Blk.at _ _ ?_; (simp; done)) | with_reducible refine Blk.alloc ?_ _ | with_reducible refine Blk.drew ?_ | with_reducible refine Blk.rowS ?_ _ | with_reducible refine Blk.rowO ?_ _ (by simp))), Blk.at _ _ (by simp), (by repeat (first | with_reducible exact bel_refl _ | with_reducible assumption | with_reducible refine bel_drewN ?_ _ | with_reducible refine bel_drew ?_ | with_reducible refine bel_alloc ?_ _ | with_reducible refine bel_row ?_ ?_ _ | with_reducible refine bel_set ?_ ?_ _ | refine bel_trans ?_ (by with_reducible assumption) | (simp; done) | (simp; omega)))⟩)
 have HO0 : Hid True := Lib.hid trivial
 rw [← hwS]
 clear hwS
 refine (HP.out _ HS0.out.2.2.2).mono ?_
 rintro e1 wX1 ⟨rfl, hb⟩
 obtain ⟨wS1, hwS⟩ : ∃ x, x = wX1.alloc (.cells #[.int .u64 (pl p 0), .int .u64 (pl p 1), .int .u64 (pl p 2), .int .u64 (pl p 3), .int .u64 (pl p 4), .int .u64 (pl p 5), .int .u64 (pl p 6), .int .u64 (pl p 7)] 26) := ⟨_, rfl⟩
 obtain ⟨gN1, hgN⟩ : ∃ x, x = wX1.heap.size := ⟨_, rfl⟩
 have HS1 : Hid (Blk wS1 (w.heap.size) #[.int .u64 (pl a 0), .int .u64 (pl a 1), .int .u64 (pl a 2), .int .u64 (pl a 3), .int .u64 (pl a 4), .int .u64 (pl a 5), .int .u64 (pl a 6), .int .u64 (pl a 7)] 26 ∧ Blk wS1 (w.heap.size + 1) #[.int .u64 (pl b 0), .int .u64 (pl b 1), .int .u64 (pl b 2), .int .u64 (pl b 3), .int .u64 (pl b 4), .int .u64 (pl b 5), .int .u64 (pl b 6), .int .u64 (pl b 7)] 26 ∧ Blk wS1 (w.heap.size + 1 + 1) #[.int .i64 tt, .int .i64 d.1, .int .i64 d.2.1, .int .i64 d.2.2] 23 ∧ Blk wS1 (gN1) #[.int .u64 (pl p 0), .int .u64 (pl p 1), .int .u64 (pl p 2), .int .u64 (pl p 3), .int .u64 (pl p 4), .int .u64 (pl p 5), .int .u64 (pl p 6), .int .u64 (pl p 7)] 26 ∧ Below w.heap.size w wS1) := Lib.hid (by
  rw [hwS, hgN]
  exact ⟨(HS0.out.1.grow hb).alloc _, (HS0.out.2.1.grow hb).alloc _, (HS0.out.2.2.1.grow hb).alloc _, Blk.new _ _ _, bel_alloc (bel_trans HS0.out.2.2.2 hb) _⟩)
 have HO1 := Lib.hid (And.intro HO0.out (show w.heap.size + 1 + 1 < gN1 by rw [hgN]; exact (HS0.out.2.2.1.grow hb).lt))
 go_upto_region 2 with fail
 rw [← hwS, ← hgN]
 clear hwS hgN hb HS0
 by_cases he : e = 0
 ·subst he
  have c0 := HS1.out.1.cell; have l0 := HS1.out.1.lt
  have c3 := HS1.out.2.2.2.1.cell; have l3 := HS1.out.2.2.2.1.lt
  go_wp2_with fail
  refine (HI.out _).mono ?_
  rintro e1 w9 ⟨rfl, hb⟩
  have HE := Lib.hid (bel_trans HS1.out.2.2.2.2 hb)
  clear hb
  go_wp2_with fail
  go_ret
  exact ⟨ret_bool (by simp), HE.out⟩
 ·go_wp2_with fail
  go_ret
  exact ⟨ret_bool (by simp [he]), HS1.out.2.2.2.2⟩
def fitR (o : Option (Mt × Sol)) : Go.Solid.Mo × Bool := match o with
 | some y => (((y.1.1 : Nat), y.1.2), true)
 | none => ((0, (0, 0, 0)), false)
theorem fitsMo_eq (a b : Sol) (hb : b ≠ 0) : fitsMo a b = fitR (fitsL a b).head? := by
 unfold fitsMo fitR
 rw [if_neg hb]
 cases (fitsL a b).head? <;> rfl
attribute [local irreducible] qT qZ qY qX spunS imgS
end Go.Proofs.YtkfimbonmnoglaaGreatDoor
end
