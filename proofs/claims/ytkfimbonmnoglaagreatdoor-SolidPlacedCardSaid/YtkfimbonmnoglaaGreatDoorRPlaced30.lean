import Derived.Test.YtkfimbonmnoglaaGreatDoorRPlaced29
import Derived.Deep.Cut
import Derived.Laws.AppendOwn
/-
  Given contracts of functions of the program, and laws for them, one behind the other.
-/
set_option linter.unusedVariables false
set_option linter.unusedSimpArgs false
set_option linter.unusedSectionVars false
section
namespace Go.Proofs.YtkfimbonmnoglaaGreatDoor
open Go.RowKit Go.Rel Go.Draw Go.Solid
set_option maxRecDepth 100000
attribute [local go_sem] Oper.semAt_some
set_option maxHeartbeats 8000000 in
theorem refCompare_spec (a b : Sol) (w : World) : Calls Tryz.prog 70 #[solV a, solV b] w fun e w' => e = .returned (.int .i64 (cmpS a b)) ∧ Below w.heap.size w w' := by
 have HA := Lib.hid (cmpF_all a b)
 obtain ⟨R, hR⟩ : ∃ R, R = cmpS a b := ⟨_, rfl⟩
 rw [← hR] at HA ⊢
 clear hR
 go_enter Tryz.func70, Tryz.ntmps70
 go_wp2_with fail
 obtain ⟨W0, hW0⟩ : ∃ W0, W0 = (w.alloc (.cells #[.int .u64 (pl a 0), .int .u64 (pl a 1), .int .u64 (pl a 2), .int .u64 (pl a 3), .int .u64 (pl a 4), .int .u64 (pl a 5), .int .u64 (pl a 6), .int .u64 (pl a 7)] 26)).alloc (.cells #[.int .u64 (pl b 0), .int .u64 (pl b 1), .int .u64 (pl b 2), .int .u64 (pl b 3), .int .u64 (pl b 4), .int .u64 (pl b 5), .int .u64 (pl b 6), .int .u64 (pl b 7)] 26) := ⟨_, rfl⟩
 have B0 : Blk W0 w.heap.size #[.int .u64 (pl a 0), .int .u64 (pl a 1), .int .u64 (pl a 2), .int .u64 (pl a 3), .int .u64 (pl a 4), .int .u64 (pl a 5), .int .u64 (pl a 6), .int .u64 (pl a 7)] 26 := by subst hW0; exact (by repeat (first | with_reducible assumption | (refine Blk.at _ _ ?_; (simp; done)) | with_reducible refine Blk.alloc ?_ _ | with_reducible refine Blk.drew ?_ | with_reducible refine Blk.rowS ?_ _ | with_reducible refine Blk.rowO ?_ _ (by simp)))
 have B1 : Blk W0 (w.heap.size + 1) #[.int .u64 (pl b 0), .int .u64 (pl b 1), .int .u64 (pl b 2), .int .u64 (pl b 3), .int .u64 (pl b 4), .int .u64 (pl b 5), .int .u64 (pl b 6), .int .u64 (pl b 7)] 26 := by subst hW0; exact Blk.at _ _ (by simp)
 have hbel : Below w.heap.size w W0 := by subst hW0; exact (by repeat (first | with_reducible exact bel_refl _ | with_reducible assumption | with_reducible refine bel_drewN ?_ _ | with_reducible refine bel_drew ?_ | with_reducible refine bel_alloc ?_ _ | with_reducible refine bel_row ?_ ?_ _ | with_reducible refine bel_set ?_ ?_ _ | refine bel_trans ?_ (by with_reducible assumption) | (simp; done) | (simp; omega)))
 rw [← hW0]
 clear hW0
 have HB := Lib.hid (And.intro B0 (And.intro B1 hbel)); clear B0 B1 hbel
 go_loopw [5] (fun iv wx => ∃ z : Nat, z ≤ 8 ∧ iv = .int .i64 z ∧ Hid (R = cmpF a b (8 - z) ∧ Blk wx w.heap.size #[.int .u64 (pl a 0), .int .u64 (pl a 1), .int .u64 (pl a 2), .int .u64 (pl a 3), .int .u64 (pl a 4), .int .u64 (pl a 5), .int .u64 (pl a 6), .int .u64 (pl a 7)] 26 ∧ Blk wx (w.heap.size + 1) #[.int .u64 (pl b 0), .int .u64 (pl b 1), .int .u64 (pl b 2), .int .u64 (pl b 3), .int .u64 (pl b 4), .int .u64 (pl b 5), .int .u64 (pl b 6), .int .u64 (pl b 7)] 26 ∧ Below w.heap.size w wx)) (fun iv _ => 8 - (intOf iv).toNat)
 case atStart => exact ⟨0, by omega, rfl, Lib.hid ⟨HA.out.symm, HB.out⟩⟩
 case round =>
  clear HB HA
  obtain ⟨z, hz, rfl, HM⟩ := hrel
  obtain ⟨wB, hwB⟩ : ∃ wB, wB = wr := ⟨_, rfl⟩
  rw [← hwB] at HM ⊢
  clear hwB
  by_cases hz8 : z < 8
  ·have cz : wB.cell? ⟨w.heap.size, z, none⟩ = some (.int .u64 (pl a z)) := by rw [HM.out.2.1.cell]; exact getZ a hz8
   have sz : wB.cell? ⟨w.heap.size + 1, z, none⟩ = some (.int .u64 (pl b z)) := by rw [HM.out.2.2.1.cell]; exact getZ b hz8
   have he : cmpF a b (8 - z) = if cmpW (pl a z) (pl b z) = 0 then cmpF a b (8 - (z + 1)) else cmpW (pl a z) (pl b z) := by
    rw [show 8 - z = (7 - z) + 1 by omega]
    show (if cmpW (pl a (7 - (7 - z))) (pl b (7 - (7 - z))) = 0 then cmpF a b (7 - z) else cmpW (pl a (7 - (7 - z))) (pl b (7 - (7 - z)))) = _
    rw [show 7 - (7 - z) = z by omega, show 8 - (z + 1) = 7 - z by omega]
   have hR : R = if cmpW (pl a z) (pl b z) = 0 then cmpF a b (8 - (z + 1)) else cmpW (pl a z) (pl b z) := HM.out.1.trans he
   obtain ⟨x, hx⟩ : ∃ x, x = pl a z := ⟨_, rfl⟩
   obtain ⟨y, hy⟩ : ∃ y, y = pl b z := ⟨_, rfl⟩
   rw [← hx, ← hy] at hR
   rw [← hx] at cz
   rw [← hy] at sz
   have HC := Lib.hid (And.intro cz (And.intro sz (And.intro HM.out.2.1.lt HM.out.2.2.1.lt)))
   have HR := Lib.hid hR
   have hzI : (z : Int) < 8 := by omega
   clear cz sz he hR hx hy
   by_cases e1 : x < y
   ·have HRv : Hid (R = -1) := Lib.hid (by have h := HR.out; unfold cmpW at h; rw [if_pos e1] at h; simpa using h)
    clear HR
    go_wp2_with fail
    refine wp_region_val Grows (fun _ _ _ => True) [Is (.int .i64 (z : Int)), Is (.pointer (some ⟨w.heap.size, z, none⟩)), Is (.int .u64 x), Is (.int .i64 (z : Int)), Is (.pointer (some ⟨w.heap.size + 1, z, none⟩)), Is (.int .u64 y), Is (.bool true)] (by kernel_rfl) (by kernel_rfl) rfl Grows.refl (fun _ _ _ => Grows.trans) (stable_mem ⟨fun _ _ _ h _ => h, fun _ _ _ h _ => h, fun _ _ _ h _ => h, fun _ _ _ h _ => h, fun _ _ _ h _ => h, fun _ _ _ h _ => h, fun _ _ _ h _ => h, trivial⟩) wB (Below.drew (Below.refl _ _)) trivial ?_
    refine val_cons ?_ (fun v0 => ?_)
    ·intro L vs w1 hvs hat hb hI hF; try simp [factsI, Region.binds, Is] at hF
     have hc := (Grows.cells hb).1
     clear hI
     go_simp
     try simp [upd]
     try first | exact Grows.refl _ | exact trivial | exact ⟨Grows.refl _, trivial⟩
    refine val_cons ?_ (fun v1 => ?_)
    ·intro L vs w1 hvs hat hb hI hF; try simp [factsI, Region.binds, Is] at hF
     have hc := (Grows.cells hb).1
     clear hI
     go_simp
     try simp [upd]
     try first | exact Grows.refl _ | exact trivial | exact ⟨Grows.refl _, trivial⟩
    refine val_cons ?_ (fun v2 => ?_)
    ·intro L vs w1 hvs hat hb hI hF; try simp [factsI, Region.binds, Is] at hF
     have hl := HC.out.2.2.1
     have hb' : Below wB.heap.size wB w1 := hb
     have hbb := hb'
     have z0 := (hbb.cell (p := ⟨w.heap.size, z, none⟩) hl).trans HC.out.1
     have hl2 : w.heap.size < w1.heap.size := Nat.lt_of_lt_of_le hl hbb.size
     clear hbb
     go_simp
     first | exact Grows.refl _ | exact ⟨Grows.refl _, trivial⟩
    refine val_cons ?_ (fun v3 => ?_)
    ·intro L vs w1 hvs hat hb hI hF; try simp [factsI, Region.binds, Is] at hF
     have hc := (Grows.cells hb).1
     clear hI
     go_simp
     try simp [upd]
     try first | exact Grows.refl _ | exact trivial | exact ⟨Grows.refl _, trivial⟩
    refine val_cons ?_ (fun v4 => ?_)
    ·intro L vs w1 hvs hat hb hI hF; try simp [factsI, Region.binds, Is] at hF
     have hc := (Grows.cells hb).1
     clear hI
     go_simp
     try simp [upd]
     try first | exact Grows.refl _ | exact trivial | exact ⟨Grows.refl _, trivial⟩
    refine val_cons ?_ (fun v5 => ?_)
    ·intro L vs w1 hvs hat hb hI hF; try simp [factsI, Region.binds, Is] at hF
     have hl := HC.out.2.2.2
     have hb' : Below wB.heap.size wB w1 := hb
     have hbb := hb'
     have z0 := (hbb.cell (p := ⟨w.heap.size + 1, z, none⟩) hl).trans HC.out.2.1
     have hl2 : w.heap.size + 1 < w1.heap.size := Nat.lt_of_lt_of_le hl hbb.size
     clear hbb
     go_simp
     first | exact Grows.refl _ | exact ⟨Grows.refl _, trivial⟩
    refine val_cons ?_ (fun v6 => ?_)
    ·intro L vs w1 hvs hat hb hI hF; try simp [factsI, Region.binds, Is] at hF
     have hc := (Grows.cells hb).1
     clear hI
     go_simp
     try simp [upd]
     try first | exact Grows.refl _ | exact trivial | exact ⟨Grows.refl _, trivial⟩
    refine val_nil ?_
    intro vs w1 hvs hb hI hF
    simp [Is, Nat.forall_lt_succ_right] at hF
    simp only [Act.put, List.setIfInBounds_toArray, List.set_cons_succ, List.set_cons_zero, hF]
    clear hF
    have HBd := Lib.hid (show Below wB.heap.size wB w1 from hb)
    have HF := Lib.hid (bel_trans HM.out.2.2.2 HBd.out)
    obtain ⟨w2, hw2⟩ : ∃ w2, w2 = w1 := ⟨_, rfl⟩
    rw [← hw2] at HBd HF ⊢
    clear hw2 hb hvs
    go_wp2_with fail
    go_ret
    exact ⟨ret_int HRv.out.symm, HF.out⟩
   ·by_cases e2 : y < x
    ·have HRv : Hid (R = 1) := Lib.hid (by have h := HR.out; unfold cmpW at h; rw [if_neg e1, if_pos e2] at h; simpa using h)
     clear HR
     go_wp2_with fail
     refine wp_region_val Grows (fun _ _ _ => True) [Is (.int .i64 (z : Int)), Is (.pointer (some ⟨w.heap.size, z, none⟩)), Is (.int .u64 x), Is (.int .i64 (z : Int)), Is (.pointer (some ⟨w.heap.size + 1, z, none⟩)), Is (.int .u64 y), Is (.bool false)] (by kernel_rfl) (by kernel_rfl) rfl Grows.refl (fun _ _ _ => Grows.trans) (stable_mem ⟨fun _ _ _ h _ => h, fun _ _ _ h _ => h, fun _ _ _ h _ => h, fun _ _ _ h _ => h, fun _ _ _ h _ => h, fun _ _ _ h _ => h, fun _ _ _ h _ => h, trivial⟩) wB (Below.drew (Below.refl _ _)) trivial ?_
     refine val_cons ?_ (fun v0 => ?_)
     ·intro L vs w1 hvs hat hb hI hF; try simp [factsI, Region.binds, Is] at hF
      have hc := (Grows.cells hb).1
      clear hI
      go_simp
      try simp [upd]
      try first | exact Grows.refl _ | exact trivial | exact ⟨Grows.refl _, trivial⟩
     refine val_cons ?_ (fun v1 => ?_)
     ·intro L vs w1 hvs hat hb hI hF; try simp [factsI, Region.binds, Is] at hF
      have hc := (Grows.cells hb).1
      clear hI
      go_simp
      try simp [upd]
      try first | exact Grows.refl _ | exact trivial | exact ⟨Grows.refl _, trivial⟩
     refine val_cons ?_ (fun v2 => ?_)
     ·intro L vs w1 hvs hat hb hI hF; try simp [factsI, Region.binds, Is] at hF
      have hl := HC.out.2.2.1
      have hb' : Below wB.heap.size wB w1 := hb
      have hbb := hb'
      have z0 := (hbb.cell (p := ⟨w.heap.size, z, none⟩) hl).trans HC.out.1
      have hl2 : w.heap.size < w1.heap.size := Nat.lt_of_lt_of_le hl hbb.size
      clear hbb
      go_simp
      first | exact Grows.refl _ | exact ⟨Grows.refl _, trivial⟩
     refine val_cons ?_ (fun v3 => ?_)
     ·intro L vs w1 hvs hat hb hI hF; try simp [factsI, Region.binds, Is] at hF
      have hc := (Grows.cells hb).1
      clear hI
      go_simp
      try simp [upd]
      try first | exact Grows.refl _ | exact trivial | exact ⟨Grows.refl _, trivial⟩
     refine val_cons ?_ (fun v4 => ?_)
     ·intro L vs w1 hvs hat hb hI hF; try simp [factsI, Region.binds, Is] at hF
      have hc := (Grows.cells hb).1
      clear hI
      go_simp
      try simp [upd]
      try first | exact Grows.refl _ | exact trivial | exact ⟨Grows.refl _, trivial⟩
     refine val_cons ?_ (fun v5 => ?_)
     ·intro L vs w1 hvs hat hb hI hF; try simp [factsI, Region.binds, Is] at hF
      have hl := HC.out.2.2.2
      have hb' : Below wB.heap.size wB w1 := hb
      have hbb := hb'
      have z0 := (hbb.cell (p := ⟨w.heap.size + 1, z, none⟩) hl).trans HC.out.2.1
      have hl2 : w.heap.size + 1 < w1.heap.size := Nat.lt_of_lt_of_le hl hbb.size
      clear hbb
      go_simp
      first | exact Grows.refl _ | exact ⟨Grows.refl _, trivial⟩
     refine val_cons ?_ (fun v6 => ?_)
     ·intro L vs w1 hvs hat hb hI hF; try simp [factsI, Region.binds, Is] at hF
      have hc := (Grows.cells hb).1
      clear hI
      go_simp
      try simp [upd]
      try first | exact Grows.refl _ | exact trivial | exact ⟨Grows.refl _, trivial⟩
     refine val_nil ?_
     intro vs w1 hvs hb hI hF
     simp [Is, Nat.forall_lt_succ_right] at hF
     simp only [Act.put, List.setIfInBounds_toArray, List.set_cons_succ, List.set_cons_zero, hF]
     clear hF
     have HBd := Lib.hid (show Below wB.heap.size wB w1 from hb)
     have HF := Lib.hid (bel_trans HM.out.2.2.2 HBd.out)
     obtain ⟨w2, hw2⟩ : ∃ w2, w2 = w1 := ⟨_, rfl⟩
     rw [← hw2] at HBd HF ⊢
     clear hw2 hb hvs
     go_wp2_with fail
     refine wp_region_val Grows (fun _ _ _ => True) [Is (.int .i64 (z : Int)), Is (.pointer (some ⟨w.heap.size, z, none⟩)), Is (.int .u64 x), Is (.int .i64 (z : Int)), Is (.pointer (some ⟨w.heap.size + 1, z, none⟩)), Is (.int .u64 y), Is (.bool true)] (by kernel_rfl) (by kernel_rfl) rfl Grows.refl (fun _ _ _ => Grows.trans) (stable_mem ⟨fun _ _ _ h _ => h, fun _ _ _ h _ => h, fun _ _ _ h _ => h, fun _ _ _ h _ => h, fun _ _ _ h _ => h, fun _ _ _ h _ => h, fun _ _ _ h _ => h, trivial⟩) w2 (Below.drew (Below.refl _ _)) trivial ?_
     refine val_cons ?_ (fun v0 => ?_)
     ·intro L vs w1 hvs hat hb hI hF; try simp [factsI, Region.binds, Is] at hF
      have hc := (Grows.cells hb).1
      clear hI
      go_simp
      try simp [upd]
      try first | exact Grows.refl _ | exact trivial | exact ⟨Grows.refl _, trivial⟩
     refine val_cons ?_ (fun v1 => ?_)
     ·intro L vs w1 hvs hat hb hI hF; try simp [factsI, Region.binds, Is] at hF
      have hc := (Grows.cells hb).1
      clear hI
      go_simp
      try simp [upd]
      try first | exact Grows.refl _ | exact trivial | exact ⟨Grows.refl _, trivial⟩
     refine val_cons ?_ (fun v2 => ?_)
     ·intro L vs w1 hvs hat hb hI hF; try simp [factsI, Region.binds, Is] at hF
      have hl := HC.out.2.2.1
      have hb' : Below w2.heap.size w2 w1 := hb
      have hbb := bel_trans HBd.out hb'
      have z0 := (hbb.cell (p := ⟨w.heap.size, z, none⟩) hl).trans HC.out.1
      have hl2 : w.heap.size < w1.heap.size := Nat.lt_of_lt_of_le hl hbb.size
      clear hbb
      go_simp
      first | exact Grows.refl _ | exact ⟨Grows.refl _, trivial⟩
     refine val_cons ?_ (fun v3 => ?_)
     ·intro L vs w1 hvs hat hb hI hF; try simp [factsI, Region.binds, Is] at hF
      have hc := (Grows.cells hb).1
      clear hI
      go_simp
      try simp [upd]
      try first | exact Grows.refl _ | exact trivial | exact ⟨Grows.refl _, trivial⟩
     refine val_cons ?_ (fun v4 => ?_)
     ·intro L vs w1 hvs hat hb hI hF; try simp [factsI, Region.binds, Is] at hF
      have hc := (Grows.cells hb).1
      clear hI
      go_simp
      try simp [upd]
      try first | exact Grows.refl _ | exact trivial | exact ⟨Grows.refl _, trivial⟩
     refine val_cons ?_ (fun v5 => ?_)
     ·intro L vs w1 hvs hat hb hI hF; try simp [factsI, Region.binds, Is] at hF
      have hl := HC.out.2.2.2
      have hb' : Below w2.heap.size w2 w1 := hb
      have hbb := bel_trans HBd.out hb'
      have z0 := (hbb.cell (p := ⟨w.heap.size + 1, z, none⟩) hl).trans HC.out.2.1
      have hl2 : w.heap.size + 1 < w1.heap.size := Nat.lt_of_lt_of_le hl hbb.size
      clear hbb
      go_simp
      first | exact Grows.refl _ | exact ⟨Grows.refl _, trivial⟩
     refine val_cons ?_ (fun v6 => ?_)
     ·intro L vs w1 hvs hat hb hI hF; try simp [factsI, Region.binds, Is] at hF
      have hc := (Grows.cells hb).1
      clear hI
      go_simp
      try simp [upd]
      try first | exact Grows.refl _ | exact trivial | exact ⟨Grows.refl _, trivial⟩
     refine val_nil ?_
     intro vs w1 hvs hb hI hF
     simp [Is, Nat.forall_lt_succ_right] at hF
     simp only [Act.put, List.setIfInBounds_toArray, List.set_cons_succ, List.set_cons_zero, hF]
     clear hF
     have HBe := Lib.hid (show Below w2.heap.size w2 w1 from hb)
     have HF2 := Lib.hid (bel_trans HF.out HBe.out)
     clear hb hvs
     go_wp2_with fail
     go_ret
     exact ⟨ret_int HRv.out.symm, HF2.out⟩
    ·have HRv : Hid (R = cmpF a b (8 - (z + 1))) := Lib.hid (by have h := HR.out; unfold cmpW at h; rw [if_neg e1, if_neg e2] at h; simpa using h)
     clear HR
     go_wp2_with fail
     refine wp_region_val Grows (fun _ _ _ => True) [Is (.int .i64 (z : Int)), Is (.pointer (some ⟨w.heap.size, z, none⟩)), Is (.int .u64 x), Is (.int .i64 (z : Int)), Is (.pointer (some ⟨w.heap.size + 1, z, none⟩)), Is (.int .u64 y), Is (.bool false)] (by kernel_rfl) (by kernel_rfl) rfl Grows.refl (fun _ _ _ => Grows.trans) (stable_mem ⟨fun _ _ _ h _ => h, fun _ _ _ h _ => h, fun _ _ _ h _ => h, fun _ _ _ h _ => h, fun _ _ _ h _ => h, fun _ _ _ h _ => h, fun _ _ _ h _ => h, trivial⟩) wB (Below.drew (Below.refl _ _)) trivial ?_
     refine val_cons ?_ (fun v0 => ?_)
     ·intro L vs w1 hvs hat hb hI hF; try simp [factsI, Region.binds, Is] at hF
      have hc := (Grows.cells hb).1
      clear hI
      go_simp
      try simp [upd]
      try first | exact Grows.refl _ | exact trivial | exact ⟨Grows.refl _, trivial⟩
     refine val_cons ?_ (fun v1 => ?_)
     ·intro L vs w1 hvs hat hb hI hF; try simp [factsI, Region.binds, Is] at hF
      have hc := (Grows.cells hb).1
      clear hI
      go_simp
      try simp [upd]
      try first | exact Grows.refl _ | exact trivial | exact ⟨Grows.refl _, trivial⟩
     refine val_cons ?_ (fun v2 => ?_)
     ·intro L vs w1 hvs hat hb hI hF; try simp [factsI, Region.binds, Is] at hF
      have hl := HC.out.2.2.1
      have hb' : Below wB.heap.size wB w1 := hb
      have hbb := hb'
      have z0 := (hbb.cell (p := ⟨w.heap.size, z, none⟩) hl).trans HC.out.1
      have hl2 : w.heap.size < w1.heap.size := Nat.lt_of_lt_of_le hl hbb.size
      clear hbb
      go_simp
      first | exact Grows.refl _ | exact ⟨Grows.refl _, trivial⟩
     refine val_cons ?_ (fun v3 => ?_)
     ·intro L vs w1 hvs hat hb hI hF; try simp [factsI, Region.binds, Is] at hF
      have hc := (Grows.cells hb).1
      clear hI
      go_simp
      try simp [upd]
      try first | exact Grows.refl _ | exact trivial | exact ⟨Grows.refl _, trivial⟩
     refine val_cons ?_ (fun v4 => ?_)
     ·intro L vs w1 hvs hat hb hI hF; try simp [factsI, Region.binds, Is] at hF
      have hc := (Grows.cells hb).1
      clear hI
      go_simp
      try simp [upd]
      try first | exact Grows.refl _ | exact trivial | exact ⟨Grows.refl _, trivial⟩
     refine val_cons ?_ (fun v5 => ?_)
     ·intro L vs w1 hvs hat hb hI hF; try simp [factsI, Region.binds, Is] at hF
      have hl := HC.out.2.2.2
      have hb' : Below wB.heap.size wB w1 := hb
      have hbb := hb'
      have z0 := (hbb.cell (p := ⟨w.heap.size + 1, z, none⟩) hl).trans HC.out.2.1
      have hl2 : w.heap.size + 1 < w1.heap.size := Nat.lt_of_lt_of_le hl hbb.size
      clear hbb
      go_simp
      first | exact Grows.refl _ | exact ⟨Grows.refl _, trivial⟩
     refine val_cons ?_ (fun v6 => ?_)
     ·intro L vs w1 hvs hat hb hI hF; try simp [factsI, Region.binds, Is] at hF
      have hc := (Grows.cells hb).1
      clear hI
      go_simp
      try simp [upd]
      try first | exact Grows.refl _ | exact trivial | exact ⟨Grows.refl _, trivial⟩
     refine val_nil ?_
     intro vs w1 hvs hb hI hF
     simp [Is, Nat.forall_lt_succ_right] at hF
     simp only [Act.put, List.setIfInBounds_toArray, List.set_cons_succ, List.set_cons_zero, hF]
     clear hF
     have HBd := Lib.hid (show Below wB.heap.size wB w1 from hb)
     have HF := Lib.hid (bel_trans HM.out.2.2.2 HBd.out)
     obtain ⟨w2, hw2⟩ : ∃ w2, w2 = w1 := ⟨_, rfl⟩
     rw [← hw2] at HBd HF ⊢
     clear hw2 hb hvs
     go_wp2_with fail
     refine wp_region_val Grows (fun _ _ _ => True) [Is (.int .i64 (z : Int)), Is (.pointer (some ⟨w.heap.size, z, none⟩)), Is (.int .u64 x), Is (.int .i64 (z : Int)), Is (.pointer (some ⟨w.heap.size + 1, z, none⟩)), Is (.int .u64 y), Is (.bool false)] (by kernel_rfl) (by kernel_rfl) rfl Grows.refl (fun _ _ _ => Grows.trans) (stable_mem ⟨fun _ _ _ h _ => h, fun _ _ _ h _ => h, fun _ _ _ h _ => h, fun _ _ _ h _ => h, fun _ _ _ h _ => h, fun _ _ _ h _ => h, fun _ _ _ h _ => h, trivial⟩) w2 (Below.drew (Below.refl _ _)) trivial ?_
     refine val_cons ?_ (fun v0 => ?_)
     ·intro L vs w1 hvs hat hb hI hF; try simp [factsI, Region.binds, Is] at hF
      have hc := (Grows.cells hb).1
      clear hI
      go_simp
      try simp [upd]
      try first | exact Grows.refl _ | exact trivial | exact ⟨Grows.refl _, trivial⟩
     refine val_cons ?_ (fun v1 => ?_)
     ·intro L vs w1 hvs hat hb hI hF; try simp [factsI, Region.binds, Is] at hF
      have hc := (Grows.cells hb).1
      clear hI
      go_simp
      try simp [upd]
      try first | exact Grows.refl _ | exact trivial | exact ⟨Grows.refl _, trivial⟩
     refine val_cons ?_ (fun v2 => ?_)
     ·intro L vs w1 hvs hat hb hI hF; try simp [factsI, Region.binds, Is] at hF
      have hl := HC.out.2.2.1
      have hb' : Below w2.heap.size w2 w1 := hb
      have hbb := bel_trans HBd.out hb'
      have z0 := (hbb.cell (p := ⟨w.heap.size, z, none⟩) hl).trans HC.out.1
      have hl2 : w.heap.size < w1.heap.size := Nat.lt_of_lt_of_le hl hbb.size
      clear hbb
      go_simp
      first | exact Grows.refl _ | exact ⟨Grows.refl _, trivial⟩
     refine val_cons ?_ (fun v3 => ?_)
     ·intro L vs w1 hvs hat hb hI hF; try simp [factsI, Region.binds, Is] at hF
      have hc := (Grows.cells hb).1
      clear hI
      go_simp
      try simp [upd]
      try first | exact Grows.refl _ | exact trivial | exact ⟨Grows.refl _, trivial⟩
     refine val_cons ?_ (fun v4 => ?_)
     ·intro L vs w1 hvs hat hb hI hF; try simp [factsI, Region.binds, Is] at hF
      have hc := (Grows.cells hb).1
      clear hI
      go_simp
      try simp [upd]
      try first | exact Grows.refl _ | exact trivial | exact ⟨Grows.refl _, trivial⟩
     refine val_cons ?_ (fun v5 => ?_)
     ·intro L vs w1 hvs hat hb hI hF; try simp [factsI, Region.binds, Is] at hF
      have hl := HC.out.2.2.2
      have hb' : Below w2.heap.size w2 w1 := hb
      have hbb := bel_trans HBd.out hb'
      have z0 := (hbb.cell (p := ⟨w.heap.size + 1, z, none⟩) hl).trans HC.out.2.1
      have hl2 : w.heap.size + 1 < w1.heap.size := Nat.lt_of_lt_of_le hl hbb.size
      clear hbb
      go_simp
      first | exact Grows.refl _ | exact ⟨Grows.refl _, trivial⟩
     refine val_cons ?_ (fun v6 => ?_)
     ·intro L vs w1 hvs hat hb hI hF; try simp [factsI, Region.binds, Is] at hF
      have hc := (Grows.cells hb).1
      clear hI
      go_simp
      try simp [upd]
      try first | exact Grows.refl _ | exact trivial | exact ⟨Grows.refl _, trivial⟩
     refine val_nil ?_
     intro vs w1 hvs hb hI hF
     simp [Is, Nat.forall_lt_succ_right] at hF
     simp only [Act.put, List.setIfInBounds_toArray, List.set_cons_succ, List.set_cons_zero, hF]
     clear hF
     have HBe := Lib.hid (show Below w2.heap.size w2 w1 from hb)
     have HF2 := Lib.hid (bel_trans HF.out HBe.out)
     clear hb hvs
     have HB2 := Lib.hid (HM.out.2.1.grow (bel_trans HBd.out HBe.out))
     have HB3 := Lib.hid (HM.out.2.2.1.grow (bel_trans HBd.out HBe.out))
     go_wp2_with fail
     go_roundw
     case rel => exact ⟨z + 1, by omega, by go_num, Lib.hid ⟨HRv.out, HB2.out, HB3.out, HF2.out⟩⟩
     case measure => simp [intOf]; omega
  ·obtain rfl : z = 8 := by omega
   have HF := Lib.hid HM.out.2.2.2
   have HRv : Hid (R = 0) := Lib.hid HM.out.1
   clear HM
   go_wp2_with fail
   go_ret
   exact ⟨ret_int HRv.out.symm, HF.out⟩
end Go.Proofs.YtkfimbonmnoglaaGreatDoor
end
section
namespace Go.Proofs.YtkfimbonmnoglaaGreatDoor
open Go.RowKit Go.Rel Go.Draw Go.Solid
set_option maxRecDepth 100000
attribute [local irreducible] imageS spunS imgF putS
theorem OwnSo.opened {W : World} {base : Nat} {v : Value} {l : List Sol} (h : OwnSo W base v l) : ∃ a c, v = .slice a l.length c ∧ SlO W a l := h.sl.opened
attribute [local irreducible] imagesS canonS
attribute [local go_sem] Oper.semAt_some
end Go.Proofs.YtkfimbonmnoglaaGreatDoor
end
section
namespace Go.Rel
open Go Go.RowKit
def KeepsT (wr : Nat → Obj → Prop) (W W' : World) : Prop := W.heap.size ≤ W'.heap.size ∧ ∀ (k : Nat) (o : Obj), W.heap[k]? = some o → ¬ wr k o → W'.heap[k]? = some o
theorem KeepsT.refl (wr : Nat → Obj → Prop) (W : World) : KeepsT wr W W := ⟨Nat.le_refl _, fun _ _ h _ => h⟩
theorem KeepsT.trans {wr : Nat → Obj → Prop} {A B C : World} (h : KeepsT wr A B) (k : KeepsT wr B C) : KeepsT wr A C :=
 ⟨Nat.le_trans h.1 k.1, fun i o hi hn => k.2 i o (h.2 i o hi hn) hn⟩
theorem KeepsT.gb {wr : Nat → Obj → Prop} {W W' : World} {row : Option Nat} (h : W.grownBy W' row) (hr : ∀ r o, row = some r → W.heap[r]? = some o → wr r o) : KeepsT wr W W' :=
 ⟨h.size, fun k o hk hn => (h.block k (Array.getElem?_eq_some_iff.1 hk).1 (fun e => hn (hr k o e.symm hk))).trans hk⟩
theorem KeepsT.bel {wr : Nat → Obj → Prop} {W W' : World} (h : Below W.heap.size W W') : KeepsT wr W W' := ⟨h.size, fun k o hk _ => (h.block k (Array.getElem?_eq_some_iff.1 hk).1).trans hk⟩
theorem KeepsT.alloc (wr : Nat → Obj → Prop) (W : World) (o : Obj) : KeepsT wr W (W.alloc o) := .gb (World.grownBy_alloc W o none) (fun _ _ e => by cases e)
/-- the contract of such an iterator, called in world W -/
def SeqT {α : Type} (F : Fence) (n : Nat) (P : Program) (g : Nat) (lb : Array Value) (encs : α → Array Value) (wr : Nat → Obj → Prop) (K : Nat) (S Sp : List α → Prop) (N : Nat) (W : World) : Prop :=
 ∀ (l : Nat) (J Jx : List α → World → Prop), AbidesC W.heap.size (W.heap.size + K) J → AbidesC W.heap.size (W.heap.size + K) Jx → (∀ r o, W.heap.size ≤ r → r < W.heap.size + K → ¬ wr r o) →
  (∀ pre x W1, J pre W1 → W.heap.size + K ≤ W1.heap.size → pre.length < N → YieldAt F (n - 1) P l (encs x) W1 fun e W' =>
   (e = .returned (.bool true) ∧ J (pre ++ [x]) W' ∧ KeepsT wr W1 W') ∨ (e = .returned (.bool false) ∧ Jx (pre ++ [x]) W')) →
  J [] W →
  CallsIn F n P g (#[.func (.yield l) #[] #[]] ++ lb) W fun e W' => (∃ v, e = .returned v) ∧ ((∃ xs, S xs ∧ J xs W') ∨ (∃ pre, Sp pre ∧ Jx pre W'))
/-- how the body of a round may be left -/
def postT {α : Type} (wr : Nat → Obj → Prop) (I : List α → World → Prop) (Ix : Code → List α → World → Prop) (xs : List α) (W : World) : Exit → Act → World → Prop
 | .normal, _, W' => KeepsT wr W W' ∧ I xs W'
 | .ret, _, W' => KeepsT wr W W' ∧ Ix .ret xs W'
 | .exit id, _, W' => KeepsT wr W W' ∧ Ix (.exit id) xs W'
 | .goto t, _, W' => KeepsT wr W W' ∧ Ix (.goto t) xs W'
 | .panic _, _, _ => False
 | .outgrown, _, _ => False
variable {F : Fence} {n : Nat} {P : Program}
theorem wpIn_rangeFunc_T {α : Type} {g : Operand} {ps : Array Tmp} {assign body : Code} {Q : Exit → Act → World → Prop} {a : Act} {w : World}
  (hro : F.round = none) (h1 : 1 ≤ n) {gf : Nat} {lb : Array Value} (hg : a.eval g = .func (.func gf) #[] lb) (hFg : F.fn gf) (eg : ∀ args w, (callFunc gf args).run P w = .ok (.enter gf args) w)
  {encs : α → Array Value} {wr : Nat → Obj → Prop} (K : Nat) {S Sp : List α → Prop} {N : Nat} (hseq : ∀ W, Below w.heap.size w W → W.heap.size = w.heap.size + 1 + 1 → SeqT F (n - 1) P gf lb encs wr K S Sp N W)
  (hwr : ∀ r o, w.heap.size ≤ r → r < w.heap.size + 1 + 1 + K → ¬ wr r o) (hps : ∀ x, (encs x).size = ps.size)
  (I : List α → World → Prop) (Ix : Code → List α → World → Prop) (hI : AbidesC w.heap.size (w.heap.size + 1 + 1 + K) I) (hIx : ∀ c, AbidesC w.heap.size (w.heap.size + 1 + 1 + K) (Ix c)) (h0 : I [] w)
  (Ax : α → Act → World → Prop) (hAx : ∀ x a', AbidesC w.heap.size (w.heap.size + 1 + 1 + K) (fun (_ : Unit) W => Ax x a' W))
  (hassign : ∀ (l : Nat) (pre : List α) (x : α) (W : World) (Z : Act → World → Prop), I pre W → w.heap.size + 1 + 1 + K ≤ W.heap.size → (∀ a' W', KeepsT wr W W' → I pre W' → Ax x a' W' → Z a' W') →
   assign.wpIn (F.inRound l) (n - 1 - 1) P (Exit.then Z (fun _ _ _ => False)) { tmps := (ps.zip (encs x)).foldl (fun t (p, v) => t.setIfInBounds p v) a.tmps, defers := [] } W)
  (hbody : ∀ (l : Nat) (pre : List α) (x : α) (a' : Act) (W : World), w.heap.size + 1 + 1 + K ≤ W.heap.size → I pre W → Ax x a' W → pre.length < N → body.wpIn (F.inRound l) (n - 1 - 1) P (postT wr I Ix (pre ++ [x]) W) a' W)
  (hdone : ∀ (D : Nat) (xs : List α) (W : World), D = w.heap.size → S xs → I xs W → W.heap[D]? = some (.deferred (some [])) → Q .normal { a with defers := { target := .collected D, args := #[] } :: a.defers } W)
  (hstop : ∀ (D : Nat) (c : Code) (pre : List α) (W : World), D = w.heap.size → Sp pre → Ix c pre W → W.heap[D]? = some (.deferred (some [])) → c.wpIn F n P Q { a with defers := { target := .collected D, args := #[] } :: a.defers } W) :
  (Code.rangeFunc g ps assign body).wpIn F n P Q a w := by
 refine wpIn_rangeFunc ?_
 intro fn hfn
 rw [hro]
 obtain ⟨rec, hrec⟩ : ∃ rec : LoopState → Option Code → Loop, rec = fun st pe => { state := st, pending := pe, fn, tmps := a.tmps, params := ps, assign, body, defers := w.heap.size } := ⟨_, rfl⟩
 obtain ⟨W1, hW1⟩ : ∃ W1, (w.alloc (.deferred (some []))).alloc (.loop (rec .ready none)) = W1 := ⟨_, rfl⟩
 have hs1 : W1.heap.size = w.heap.size + 1 + 1 := by rw [← hW1]; simp
 have hL1 : W1.heap[w.heap.size + 1]? = some (.loop (rec .ready none)) := by
  rw [← hW1]; have := World.alloc_heap_new (w.alloc (.deferred (some []))) (.loop (rec .ready none)); rwa [World.size_alloc] at this
 have hK1 : W1.heap[w.heap.size]? = some (.deferred (some [])) := by
  rw [← hW1]; exact (Below.heap_alloc _ _ _ (by simp)).trans (World.alloc_heap_new w _)
 have hI1 : I [] W1 := by rw [← hW1]; exact hI.alloc _ (hI.alloc _ h0)
 have hb1 : Below w.heap.size w W1 := by rw [← hW1]; exact (((Below.refl _ w).alloc (Nat.le_refl _) _).alloc (by simp) _)
 refine ⟨w.heap.size + 1, [{ target := .collected w.heap.size, args := #[] }], W1, { target := .fn (.func gf) lb, args := #[.func (.yield (w.heap.size + 1)) #[] #[]] }, W1, gf,
  #[.func (.yield (w.heap.size + 1)) #[] #[]] ++ lb, W1, ?_, ?_, ?_, ?_, fun _ => h1, ?_⟩
 ·rw [← hW1, hrec]; exact run_enterLoop_outer _ _ _ _ _
 ·simp only [resolve, hg]
  simp [go_sem]
 ·intro f' hf'; simp [Target.leads] at hf'; subst hf'; exact hFg
 ·simp [invoke, go_sem, eg]
 ·refine (hseq W1 hb1 hs1 (w.heap.size + 1)
   (fun pre W => I pre W ∧ W.heap[w.heap.size + 1]? = some (.loop (rec .ready none)) ∧ W.heap[w.heap.size]? = some (.deferred (some [])))
   (fun pre W => ∃ c, Ix c pre W ∧ W.heap[w.heap.size + 1]? = some (.loop (rec .done (some c))) ∧ W.heap[w.heap.size]? = some (.deferred (some [])))
   (fun s A B row hs hgr hr => ⟨hI s A B row hs.1 hgr (fun r e => by have := hr r e; omega), (hgr.block _ (Array.getElem?_eq_some_iff.1 hs.2.1).1 (fun e => by have := hr _ e.symm; omega)).trans hs.2.1, (hgr.block _ (Array.getElem?_eq_some_iff.1 hs.2.2).1 (fun e => by have := hr _ e.symm; omega)).trans hs.2.2⟩)
   (fun s A B row hs hgr hr => by
    obtain ⟨c, hc, hl, hk⟩ := hs
    exact ⟨c, hIx c s A B row hc hgr (fun r e => by have := hr r e; omega), (hgr.block _ (Array.getElem?_eq_some_iff.1 hl).1 (fun e => by have := hr _ e.symm; omega)).trans hl, (hgr.block _ (Array.getElem?_eq_some_iff.1 hk).1 (fun e => by have := hr _ e.symm; omega)).trans hk⟩)
   (fun r o h1 h2 => hwr r o (by omega) (by omega)) ?_ ⟨hI1, hL1, hK1⟩).mono ?_
  ·rintro pre x W ⟨hi, hl, hk⟩ hsz hlen
   have hy := run_yield (P := P) (args := encs x) hl (by rw [hrec]; exact hps x)
   rw [hrec] at hy
   refine ⟨fn, _, assign, body, hy, roundIn_of_wpIn hfn (hassign _ pre x W _ hi (by omega) ?_)⟩
   clear hy
   intro a' Wa hka hia hax
   have hla := hka.2 _ _ hl (hwr _ _ (by omega) (by omega))
   have hda := hka.2 _ _ hk (hwr _ _ (by omega) (by omega))
   have hlta : w.heap.size + 1 < Wa.heap.size := (Array.getElem?_eq_some_iff.1 hla).1
   refine ⟨_, run_beginRound hla (by rw [hrec]), ?_⟩
   obtain ⟨busy, hbusy⟩ : ∃ o : Obj, o = .loop { rec .ready none with state := .busy } := ⟨_, rfl⟩
   obtain ⟨Wb, hWb⟩ : ∃ Wb, Wb = Wa.putObj (w.heap.size + 1) (.loop { rec .ready none with state := .busy }) := ⟨_, rfl⟩
   have hlb : Wb.heap[w.heap.size + 1]? = some (.loop { rec .ready none with state := .busy }) := by rw [hWb]; exact World.putObj_heap_same hlta
   have hdb : Wb.heap[w.heap.size]? = some (.deferred (some [])) := by rw [hWb]; exact (World.putObj_heap_other (by omega)).trans hda
   have hib : I pre Wb := by rw [hWb]; exact hI.put _ hia (by omega) (by omega)
   have haxb : Ax x a' Wb := by rw [hWb]; exact (hAx x a').put (s := ()) _ hax (by omega) (by omega)
   have hszb : Wb.heap.size = Wa.heap.size := by rw [hWb]; simp [World.putObj]
   have hsame : ∀ k, k ≠ w.heap.size + 1 → Wb.heap[k]? = Wa.heap[k]? := fun k hk => by rw [hWb]; exact World.putObj_heap_other hk
   rw [← hWb]
   refine wpIn_mono (hbody _ pre x a' Wb (by have := hka.1; omega) hib haxb hlen) ?_
   have fin : ∀ (jump : Option Code) (W3 : World), KeepsT wr Wb W3 →
     (Instr.endRound (w.heap.size + 1) jump).run P W3 = .ok (.bool jump.isNone) (W3.putObj (w.heap.size + 1) (.loop (rec (if jump.isNone then .ready else .done) jump))) ∧
     (W3.putObj (w.heap.size + 1) (.loop (rec (if jump.isNone then .ready else .done) jump))).heap[w.heap.size + 1]? = some (.loop (rec (if jump.isNone then .ready else .done) jump)) ∧
     (W3.putObj (w.heap.size + 1) (.loop (rec (if jump.isNone then .ready else .done) jump))).heap[w.heap.size]? = some (.deferred (some [])) := fun jump W3 hk3 => by
    have hl3 := hk3.2 _ _ hlb (hwr _ _ (by omega) (by omega))
    have hd3 := hk3.2 _ _ hdb (hwr _ _ (by omega) (by omega))
    have := run_endRound (P := P) jump hl3
    rw [hrec] at this ⊢
    exact ⟨this, World.putObj_heap_same (Array.getElem?_eq_some_iff.1 hl3).1, (World.putObj_heap_other (by omega)).trans hd3⟩
   rintro e a3 W3 hp
   cases e with
   | normal =>
    obtain ⟨hk3, hi3⟩ := hp
    obtain ⟨hr, hl4, hk4⟩ := fin none W3 hk3
    refine ⟨_, _, hr, .inl ⟨rfl, ⟨hI.put _ hi3 (by omega) (by omega), hl4, hk4⟩, ?_⟩⟩
    refine ⟨by simp [World.putObj]; have := hka.1; have := hk3.1; omega, fun k o hk hn => ?_⟩
    have hka' := hka.2 k o hk hn
    by_cases e : k = w.heap.size + 1
    ·subst e
     rw [hl] at hk
     rw [← hk, hl4]; rfl
    ·rw [World.putObj_heap_other e]
     exact hk3.2 k o ((hsame k e).trans hka') hn
   | ret =>
    obtain ⟨hk3, hi3⟩ := hp
    obtain ⟨hr, hl4, hk4⟩ := fin (some .ret) W3 hk3
    exact ⟨_, _, hr, .inr ⟨rfl, .ret, (hIx _).put _ hi3 (by omega) (by omega), hl4, hk4⟩⟩
   | exit id =>
    obtain ⟨hk3, hi3⟩ := hp
    obtain ⟨hr, hl4, hk4⟩ := fin (some (.exit id)) W3 hk3
    exact ⟨_, _, hr, .inr ⟨rfl, .exit id, (hIx _).put _ hi3 (by omega) (by omega), hl4, hk4⟩⟩
   | goto t =>
    obtain ⟨hk3, hi3⟩ := hp
    obtain ⟨hr, hl4, hk4⟩ := fin (some (.goto t)) W3 hk3
    exact ⟨_, _, hr, .inr ⟨rfl, .goto t, (hIx _).put _ hi3 (by omega) (by omega), hl4, hk4⟩⟩
   | panic ch => exact hp.elim
   | outgrown => exact hp.elim
  ·rintro e W2 ⟨⟨v, rfl⟩, (⟨xs, hS, hi, hl, hk⟩ | ⟨pre, hSp, c, hi, hl, hk⟩)⟩
   ·exact ⟨none, _, by have := run_endLoop (P := P) hl (by rw [hrec]; simp); rw [hrec] at this; exact this, hdone _ xs _ rfl hS (hI.put _ hi (by omega) (by omega)) ((World.putObj_heap_other (by omega)).trans hk)⟩
   ·exact ⟨some c, _, by have := run_endLoop (P := P) hl (by rw [hrec]; simp); rw [hrec] at this; exact this, hstop _ c pre _ rfl hSp ((hIx c).put _ hi (by omega) (by omega)) ((World.putObj_heap_other (by omega)).trans hk)⟩
end Go.Rel
namespace Go.Proofs.YtkfimbonmnoglaaGreatDoor
open Go.RowKit Go.Rel Go.Draw Go.Solid
set_option maxRecDepth 100000
theorem Blk.keepT {W W' : World} {g : Nat} {c : Array Value} {T : TypeId} {Wr : Nat → Obj → Prop} (h : Blk W g c T) (hk : KeepsT Wr W W') (hn : ¬ Wr g (.cells c T)) : Blk W' g c T := hk.2 _ _ h hn
theorem Tab.keepT {w w' : World} {Wr : Nat → Obj → Prop} (h : Tab w) (hk : KeepsT Wr w w') (hn : ∀ o, ¬ Wr 0 o) : Tab w' := fun k hk2 => by
 obtain ⟨o, ho⟩ : ∃ o, w.heap[0]? = some o := ⟨_, Array.getElem?_eq_some_iff.2 ⟨h.lt, rfl⟩⟩
 have e := hk.2 _ _ ho (hn o)
 have := h k hk2
 unfold World.cell? at this ⊢
 rw [e, ← ho]; exact this
structure WrT (Wr : Nat → Obj → Prop) (B0 ba bb : Nat) : Prop where
 up : ∀ k c T, B0 ≤ k → T ≠ 26 → ¬ Wr k (.cells c T)
 a : ∀ o, ¬ Wr ba o
 b : ∀ o, ¬ Wr bb o
 t : ∀ o, ¬ Wr 0 o
theorem FJ.keepT {B0 : Nat} {a b : Sol} {ba bb b4 : Nat} {W W' : World} {Wr : Nat → Obj → Prop} (h : FJ B0 a b ba bb b4 W) (hk : KeepsT Wr W W') (hw : WrT Wr B0 ba bb) (h4 : B0 ≤ b4) : FJ B0 a b ba bb b4 W' :=
 ⟨Nat.le_trans h.sz hk.1, h.sa.keepT hk (hw.a _), h.sb.keepT hk (hw.b _), h.rm.keepT hk (hw.up _ _ _ h4 (by decide)), h.tb.keepT hk hw.t⟩
theorem FK.keepT {B0 : Nat} {P : Sol} {b7 b8 b9 ba bb : Nat} {W W' : World} {Wr : Nat → Obj → Prop} (h : FK B0 P b7 b8 b9 W) (hk : KeepsT Wr W W') (hw : WrT Wr B0 ba bb) : FK B0 P b7 b8 b9 W' :=
 ⟨h.le, h.p.keepT hk (hw.up _ _ _ h.le.1 (by decide)), h.l.keepT hk (hw.up _ _ _ h.le.2.1 (by decide)), h.h.keepT hk (hw.up _ _ _ h.le.2.2 (by decide))⟩
end Go.Proofs.YtkfimbonmnoglaaGreatDoor
end
