import Derived.Test.YtkfimbonmnoglaaGreatDoorRPlaces31
import Derived.Test.YtkfimbonmnoglaaGreatDoorRPlaces32
import Derived.Deep.Cut
/-
  Given contracts of functions of the program, and laws for them, one behind the other.
-/
set_option linter.unusedVariables false
set_option linter.unusedSimpArgs false
set_option linter.unusedSectionVars false
section
namespace Go.Proofs.YtkfimbonmnoglaaGreatDoor
open Go.RowKit Go.Rel Go.Draw Go.Solid
set_option maxRecDepth 100000
attribute [local go_sem] Oper.semAt_some
set_option maxHeartbeats 8000000 in
theorem refCompare_spec (a b : Sol) (w : World) : Calls Tryz.prog 70 #[solV a, solV b] w fun e w' => e = .returned (.int .i64 (cmpS a b)) ∧ Below w.heap.size w w' := by
 have HA := Lib.hid (cmpF_all a b)
 obtain ⟨R, hR⟩ : ∃ R, R = cmpS a b := ⟨_, rfl⟩
 rw [← hR] at HA ⊢
 clear hR
 go_enter Tryz.func70, Tryz.ntmps70
 go_wp2_with fail
 obtain ⟨W0, hW0⟩ : ∃ W0, W0 = (w.alloc (.cells #[.int .u64 (pl a 0), .int .u64 (pl a 1), .int .u64 (pl a 2), .int .u64 (pl a 3), .int .u64 (pl a 4), .int .u64 (pl a 5), .int .u64 (pl a 6), .int .u64 (pl a 7)] 26)).alloc (.cells #[.int .u64 (pl b 0), .int .u64 (pl b 1), .int .u64 (pl b 2), .int .u64 (pl b 3), .int .u64 (pl b 4), .int .u64 (pl b 5), .int .u64 (pl b 6), .int .u64 (pl b 7)] 26) := ⟨_, rfl⟩
 have B0 : Blk W0 w.heap.size #[.int .u64 (pl a 0), .int .u64 (pl a 1), .int .u64 (pl a 2), .int .u64 (pl a 3), .int .u64 (pl a 4), .int .u64 (pl a 5), .int .u64 (pl a 6), .int .u64 (pl a 7)] 26 := by subst hW0; exact (by repeat (first | with_reducible assumption | (refine Blk.at _ _ ?_; (simp; done)) | with_reducible refine Blk.alloc ?_ _ | with_reducible refine Blk.drew ?_ | with_reducible refine Blk.rowS ?_ _ | with_reducible refine Blk.rowO ?_ _ (by simp)))
 have B1 : Blk W0 (w.heap.size + 1) #[.int .u64 (pl b 0), .int .u64 (pl b 1), .int .u64 (pl b 2), .int .u64 (pl b 3), .int .u64 (pl b 4), .int .u64 (pl b 5), .int .u64 (pl b 6), .int .u64 (pl b 7)] 26 := by subst hW0; exact Blk.at _ _ (by simp)
 have hbel : Below w.heap.size w W0 := by subst hW0; exact (by repeat (first | with_reducible exact bel_refl _ | with_reducible assumption | with_reducible refine bel_drewN ?_ _ | with_reducible refine bel_drew ?_ | with_reducible refine bel_alloc ?_ _ | with_reducible refine bel_row ?_ ?_ _ | with_reducible refine bel_set ?_ ?_ _ | refine bel_trans ?_ (by with_reducible assumption) | (simp; done) | (simp; omega)))
 rw [← hW0]
 clear hW0
 have HB := Lib.hid (And.intro B0 (And.intro B1 hbel)); clear B0 B1 hbel
 go_loopw [5] (fun iv wx => ∃ z : Nat, z ≤ 8 ∧ iv = .int .i64 z ∧ Hid (R = cmpF a b (8 - z) ∧ Blk wx w.heap.size #[.int .u64 (pl a 0), .int .u64 (pl a 1), .int .u64 (pl a 2), .int .u64 (pl a 3), .int .u64 (pl a 4), .int .u64 (pl a 5), .int .u64 (pl a 6), .int .u64 (pl a 7)] 26 ∧ Blk wx (w.heap.size + 1) #[.int .u64 (pl b 0), .int .u64 (pl b 1), .int .u64 (pl b 2), .int .u64 (pl b 3), .int .u64 (pl b 4), .int .u64 (pl b 5), .int .u64 (pl b 6), .int .u64 (pl b 7)] 26 ∧ Below w.heap.size w wx)) (fun iv _ => 8 - (intOf iv).toNat)
 case atStart => exact ⟨0, by omega, rfl, Lib.hid ⟨HA.out.symm, HB.out⟩⟩
 case round =>
  clear HB HA
  obtain ⟨z, hz, rfl, HM⟩ := hrel
  obtain ⟨wB, hwB⟩ : ∃ wB, wB = wr := ⟨_, rfl⟩
  rw [← hwB] at HM ⊢
  clear hwB
  by_cases hz8 : z < 8
  ·have cz : wB.cell? ⟨w.heap.size, z, none⟩ = some (.int .u64 (pl a z)) := by rw [HM.out.2.1.cell]; exact getZ a hz8
   have sz : wB.cell? ⟨w.heap.size + 1, z, none⟩ = some (.int .u64 (pl b z)) := by rw [HM.out.2.2.1.cell]; exact getZ b hz8
   have he : cmpF a b (8 - z) = if cmpW (pl a z) (pl b z) = 0 then cmpF a b (8 - (z + 1)) else cmpW (pl a z) (pl b z) := by
    rw [show 8 - z = (7 - z) + 1 by omega]
    show (if cmpW (pl a (7 - (7 - z))) (pl b (7 - (7 - z))) = 0 then cmpF a b (7 - z) else cmpW (pl a (7 - (7 - z))) (pl b (7 - (7 - z)))) = _
    rw [show 7 - (7 - z) = z by omega, show 8 - (z + 1) = 7 - z by omega]
   have hR : R = if cmpW (pl a z) (pl b z) = 0 then cmpF a b (8 - (z + 1)) else cmpW (pl a z) (pl b z) := HM.out.1.trans he
   obtain ⟨x, hx⟩ : ∃ x, x = pl a z := ⟨_, rfl⟩
   obtain ⟨y, hy⟩ : ∃ y, y = pl b z := ⟨_, rfl⟩
   rw [← hx, ← hy] at hR
   rw [← hx] at cz
   rw [← hy] at sz
   have HC := Lib.hid (And.intro cz (And.intro sz (And.intro HM.out.2.1.lt HM.out.2.2.1.lt)))
   have HR := Lib.hid hR
   have hzI : (z : Int) < 8 := by omega
   clear cz sz he hR hx hy
   by_cases e1 : x < y
   ·have HRv : Hid (R = -1) := Lib.hid (by have h := HR.out; unfold cmpW at h; rw [if_pos e1] at h; simpa using h)
    clear HR
    go_wp2_with fail
    refine wp_region_val Grows (fun _ _ _ => True) [Is (.int .i64 (z : Int)), Is (.pointer (some ⟨w.heap.size, z, none⟩)), Is (.int .u64 x), Is (.int .i64 (z : Int)), Is (.pointer (some ⟨w.heap.size + 1, z, none⟩)), Is (.int .u64 y), Is (.bool true)] (by kernel_rfl) (by kernel_rfl) rfl Grows.refl (fun _ _ _ => Grows.trans) (stable_mem ⟨fun _ _ _ h _ => h, fun _ _ _ h _ => h, fun _ _ _ h _ => h, fun _ _ _ h _ => h, fun _ _ _ h _ => h, fun _ _ _ h _ => h, fun _ _ _ h _ => h, trivial⟩) wB (Below.drew (Below.refl _ _)) trivial ?_
    refine val_cons ?_ (fun v0 => ?_)
    ·intro L vs w1 hvs hat hb hI hF; try simp [factsI, Region.binds, Is] at hF
     have hc := (Grows.cells hb).1
     clear hI
     go_simp
     try simp [upd]
     try first | exact Grows.refl _ | exact trivial | exact ⟨Grows.refl _, trivial⟩
    refine val_cons ?_ (fun v1 => ?_)
    ·intro L vs w1 hvs hat hb hI hF; try simp [factsI, Region.binds, Is] at hF
     have hc := (Grows.cells hb).1
     clear hI
     go_simp
     try simp [upd]
     try first | exact Grows.refl _ | exact trivial | exact ⟨Grows.refl _, trivial⟩
    refine val_cons ?_ (fun v2 => ?_)
    ·intro L vs w1 hvs hat hb hI hF; try simp [factsI, Region.binds, Is] at hF
     have hl := HC.out.2.2.1
     have hb' : Below wB.heap.size wB w1 := hb
     have hbb := hb'
     have z0 := (hbb.cell (p := ⟨w.heap.size, z, none⟩) hl).trans HC.out.1
     have hl2 : w.heap.size < w1.heap.size := Nat.lt_of_lt_of_le hl hbb.size
     clear hbb
     go_simp
     first | exact Grows.refl _ | exact ⟨Grows.refl _, trivial⟩
    refine val_cons ?_ (fun v3 => ?_)
    ·intro L vs w1 hvs hat hb hI hF; try simp [factsI, Region.binds, Is] at hF
     have hc := (Grows.cells hb).1
     clear hI
     go_simp
     try simp [upd]
     try first | exact Grows.refl _ | exact trivial | exact ⟨Grows.refl _, trivial⟩
    refine val_cons ?_ (fun v4 => ?_)
    ·intro L vs w1 hvs hat hb hI hF; try simp [factsI, Region.binds, Is] at hF
     have hc := (Grows.cells hb).1
     clear hI
     go_simp
     try simp [upd]
     try first | exact Grows.refl _ | exact trivial | exact ⟨Grows.refl _, trivial⟩
    refine val_cons ?_ (fun v5 => ?_)
    ·intro L vs w1 hvs hat hb hI hF; try simp [factsI, Region.binds, Is] at hF
     have hl := HC.out.2.2.2
     have hb' : Below wB.heap.size wB w1 := hb
     have hbb := hb'
     have z0 := (hbb.cell (p := ⟨w.heap.size + 1, z, none⟩) hl).trans HC.out.2.1
     have hl2 : w.heap.size + 1 < w1.heap.size := Nat.lt_of_lt_of_le hl hbb.size
     clear hbb
     go_simp
     first | exact Grows.refl _ | exact ⟨Grows.refl _, trivial⟩
    refine val_cons ?_ (fun v6 => ?_)
    ·intro L vs w1 hvs hat hb hI hF; try simp [factsI, Region.binds, Is] at hF
     have hc := (Grows.cells hb).1
     clear hI
     go_simp
     try simp [upd]
     try first | exact Grows.refl _ | exact trivial | exact ⟨Grows.refl _, trivial⟩
    refine val_nil ?_
    intro vs w1 hvs hb hI hF
    simp [Is, Nat.forall_lt_succ_right] at hF
    simp only [Act.put, List.setIfInBounds_toArray, List.set_cons_succ, List.set_cons_zero, hF]
    clear hF
    have HBd := Lib.hid (show Below wB.heap.size wB w1 from hb)
    have HF := Lib.hid (bel_trans HM.out.2.2.2 HBd.out)
    obtain ⟨w2, hw2⟩ : ∃ w2, w2 = w1 := ⟨_, rfl⟩
    rw [← hw2] at HBd HF ⊢
    clear hw2 hb hvs
    go_wp2_with fail
    go_ret
    exact ⟨ret_int HRv.out.symm, HF.out⟩
   ·by_cases e2 : y < x
    ·have HRv : Hid (R = 1) := Lib.hid (by have h := HR.out; unfold cmpW at h; rw [if_neg e1, if_pos e2] at h; simpa using h)
     clear HR
     go_wp2_with fail
     refine wp_region_val Grows (fun _ _ _ => True) [Is (.int .i64 (z : Int)), Is (.pointer (some ⟨w.heap.size, z, none⟩)), Is (.int .u64 x), Is (.int .i64 (z : Int)), Is (.pointer (some ⟨w.heap.size + 1, z, none⟩)), Is (.int .u64 y), Is (.bool false)] (by kernel_rfl) (by kernel_rfl) rfl Grows.refl (fun _ _ _ => Grows.trans) (stable_mem ⟨fun _ _ _ h _ => h, fun _ _ _ h _ => h, fun _ _ _ h _ => h, fun _ _ _ h _ => h, fun _ _ _ h _ => h, fun _ _ _ h _ => h, fun _ _ _ h _ => h, trivial⟩) wB (Below.drew (Below.refl _ _)) trivial ?_
     refine val_cons ?_ (fun v0 => ?_)
     ·intro L vs w1 hvs hat hb hI hF; try simp [factsI, Region.binds, Is] at hF
      have hc := (Grows.cells hb).1
      clear hI
      go_simp
      try simp [upd]
      try first | exact Grows.refl _ | exact trivial | exact ⟨Grows.refl _, trivial⟩
     refine val_cons ?_ (fun v1 => ?_)
     ·intro L vs w1 hvs hat hb hI hF; try simp [factsI, Region.binds, Is] at hF
      have hc := (Grows.cells hb).1
      clear hI
      go_simp
      try simp [upd]
      try first | exact Grows.refl _ | exact trivial | exact ⟨Grows.refl _, trivial⟩
     refine val_cons ?_ (fun v2 => ?_)
     ·intro L vs w1 hvs hat hb hI hF; try simp [factsI, Region.binds, Is] at hF
      have hl := HC.out.2.2.1
      have hb' : Below wB.heap.size wB w1 := hb
      have hbb := hb'
      have z0 := (hbb.cell (p := ⟨w.heap.size, z, none⟩) hl).trans HC.out.1
      have hl2 : w.heap.size < w1.heap.size := Nat.lt_of_lt_of_le hl hbb.size
      clear hbb
      go_simp
      first | exact Grows.refl _ | exact ⟨Grows.refl _, trivial⟩
     refine val_cons ?_ (fun v3 => ?_)
     ·intro L vs w1 hvs hat hb hI hF; try simp [factsI, Region.binds, Is] at hF
      have hc := (Grows.cells hb).1
      clear hI
      go_simp
      try simp [upd]
      try first | exact Grows.refl _ | exact trivial | exact ⟨Grows.refl _, trivial⟩
     refine val_cons ?_ (fun v4 => ?_)
     ·intro L vs w1 hvs hat hb hI hF; try simp [factsI, Region.binds, Is] at hF
      have hc := (Grows.cells hb).1
      clear hI
      go_simp
      try simp [upd]
      try first | exact Grows.refl _ | exact trivial | exact ⟨Grows.refl _, trivial⟩
     refine val_cons ?_ (fun v5 => ?_)
     ·intro L vs w1 hvs hat hb hI hF; try simp [factsI, Region.binds, Is] at hF
      have hl := HC.out.2.2.2
      have hb' : Below wB.heap.size wB w1 := hb
      have hbb := hb'
      have z0 := (hbb.cell (p := ⟨w.heap.size + 1, z, none⟩) hl).trans HC.out.2.1
      have hl2 : w.heap.size + 1 < w1.heap.size := Nat.lt_of_lt_of_le hl hbb.size
      clear hbb
      go_simp
      first | exact Grows.refl _ | exact ⟨Grows.refl _, trivial⟩
     refine val_cons ?_ (fun v6 => ?_)
     ·intro L vs w1 hvs hat hb hI hF; try simp [factsI, Region.binds, Is] at hF
      have hc := (Grows.cells hb).1
      clear hI
      go_simp
      try simp [upd]
      try first | exact Grows.refl _ | exact trivial | exact ⟨Grows.refl _, trivial⟩
     refine val_nil ?_
     intro vs w1 hvs hb hI hF
     simp [Is, Nat.forall_lt_succ_right] at hF
     simp only [Act.put, List.setIfInBounds_toArray, List.set_cons_succ, List.set_cons_zero, hF]
     clear hF
     have HBd := Lib.hid (show Below wB.heap.size wB w1 from hb)
     have HF := Lib.hid (bel_trans HM.out.2.2.2 HBd.out)
     obtain ⟨w2, hw2⟩ : ∃ w2, w2 = w1 := ⟨_, rfl⟩
     rw [← hw2] at HBd HF ⊢
     clear hw2 hb hvs
     go_wp2_with fail
     refine wp_region_val Grows (fun _ _ _ => True) [Is (.int .i64 (z : Int)), Is (.pointer (some ⟨w.heap.size, z, none⟩)), Is (.int .u64 x), Is (.int .i64 (z : Int)), Is (.pointer (some ⟨w.heap.size + 1, z, none⟩)), Is (.int .u64 y), Is (.bool true)] (by kernel_rfl) (by kernel_rfl) rfl Grows.refl (fun _ _ _ => Grows.trans) (stable_mem ⟨fun _ _ _ h _ => h, fun _ _ _ h _ => h, fun _ _ _ h _ => h, fun _ _ _ h _ => h, fun _ _ _ h _ => h, fun _ _ _ h _ => h, fun _ _ _ h _ => h, trivial⟩) w2 (Below.drew (Below.refl _ _)) trivial ?_
     refine val_cons ?_ (fun v0 => ?_)
     ·intro L vs w1 hvs hat hb hI hF; try simp [factsI, Region.binds, Is] at hF
      have hc := (Grows.cells hb).1
      clear hI
      go_simp
      try simp [upd]
      try first | exact Grows.refl _ | exact trivial | exact ⟨Grows.refl _, trivial⟩
     refine val_cons ?_ (fun v1 => ?_)
     ·intro L vs w1 hvs hat hb hI hF; try simp [factsI, Region.binds, Is] at hF
      have hc := (Grows.cells hb).1
      clear hI
      go_simp
      try simp [upd]
      try first | exact Grows.refl _ | exact trivial | exact ⟨Grows.refl _, trivial⟩
     refine val_cons ?_ (fun v2 => ?_)
     ·intro L vs w1 hvs hat hb hI hF; try simp [factsI, Region.binds, Is] at hF
      have hl := HC.out.2.2.1
      have hb' : Below w2.heap.size w2 w1 := hb
      have hbb := bel_trans HBd.out hb'
      have z0 := (hbb.cell (p := ⟨w.heap.size, z, none⟩) hl).trans HC.out.1
      have hl2 : w.heap.size < w1.heap.size := Nat.lt_of_lt_of_le hl hbb.size
      clear hbb
      go_simp
      first | exact Grows.refl _ | exact ⟨Grows.refl _, trivial⟩
     refine val_cons ?_ (fun v3 => ?_)
     ·intro L vs w1 hvs hat hb hI hF; try simp [factsI, Region.binds, Is] at hF
      have hc := (Grows.cells hb).1
      clear hI
      go_simp
      try simp [upd]
      try first | exact Grows.refl _ | exact trivial | exact ⟨Grows.refl _, trivial⟩
     refine val_cons ?_ (fun v4 => ?_)
     ·intro L vs w1 hvs hat hb hI hF; try simp [factsI, Region.binds, Is] at hF
      have hc := (Grows.cells hb).1
      clear hI
      go_simp
      try simp [upd]
      try first | exact Grows.refl _ | exact trivial | exact ⟨Grows.refl _, trivial⟩
     refine val_cons ?_ (fun v5 => ?_)
     ·intro L vs w1 hvs hat hb hI hF; try simp [factsI, Region.binds, Is] at hF
      have hl := HC.out.2.2.2
      have hb' : Below w2.heap.size w2 w1 := hb
      have hbb := bel_trans HBd.out hb'
      have z0 := (hbb.cell (p := ⟨w.heap.size + 1, z, none⟩) hl).trans HC.out.2.1
      have hl2 : w.heap.size + 1 < w1.heap.size := Nat.lt_of_lt_of_le hl hbb.size
      clear hbb
      go_simp
      first | exact Grows.refl _ | exact ⟨Grows.refl _, trivial⟩
     refine val_cons ?_ (fun v6 => ?_)
     ·intro L vs w1 hvs hat hb hI hF; try simp [factsI, Region.binds, Is] at hF
      have hc := (Grows.cells hb).1
      clear hI
      go_simp
      try simp [upd]
      try first | exact Grows.refl _ | exact trivial | exact ⟨Grows.refl _, trivial⟩
     refine val_nil ?_
     intro vs w1 hvs hb hI hF
     simp [Is, Nat.forall_lt_succ_right] at hF
     simp only [Act.put, List.setIfInBounds_toArray, List.set_cons_succ, List.set_cons_zero, hF]
     clear hF
     have HBe := Lib.hid (show Below w2.heap.size w2 w1 from hb)
     have HF2 := Lib.hid (bel_trans HF.out HBe.out)
     clear hb hvs
     go_wp2_with fail
     go_ret
     exact ⟨ret_int HRv.out.symm, HF2.out⟩
    ·have HRv : Hid (R = cmpF a b (8 - (z + 1))) := Lib.hid (by have h := HR.out; unfold cmpW at h; rw [if_neg e1, if_neg e2] at h; simpa using h)
     clear HR
     go_wp2_with fail
     refine wp_region_val Grows (fun _ _ _ => True) [Is (.int .i64 (z : Int)), Is (.pointer (some ⟨w.heap.size, z, none⟩)), Is (.int .u64 x), Is (.int .i64 (z : Int)), Is (.pointer (some ⟨w.heap.size + 1, z, none⟩)), Is (.int .u64 y), Is (.bool false)] (by kernel_rfl) (by kernel_rfl) rfl Grows.refl (fun _ _ _ => Grows.trans) (stable_mem ⟨fun _ _ _ h _ => h, fun _ _ _ h _ => h, fun _ _ _ h _ => h, fun _ _ _ h _ => h, fun _ _ _ h _ => h, fun _ _ _ h _ => h, fun _ _ _ h _ => h, trivial⟩) wB (Below.drew (Below.refl _ _)) trivial ?_
     refine val_cons ?_ (fun v0 => ?_)
     ·intro L vs w1 hvs hat hb hI hF; try simp [factsI, Region.binds, Is] at hF
      have hc := (Grows.cells hb).1
      clear hI
      go_simp
      try simp [upd]
      try first | exact Grows.refl _ | exact trivial | exact ⟨Grows.refl _, trivial⟩
     refine val_cons ?_ (fun v1 => ?_)
     ·intro L vs w1 hvs hat hb hI hF; try simp [factsI, Region.binds, Is] at hF
      have hc := (Grows.cells hb).1
      clear hI
      go_simp
      try simp [upd]
      try first | exact Grows.refl _ | exact trivial | exact ⟨Grows.refl _, trivial⟩
     refine val_cons ?_ (fun v2 => ?_)
     ·intro L vs w1 hvs hat hb hI hF; try simp [factsI, Region.binds, Is] at hF
      have hl := HC.out.2.2.1
      have hb' : Below wB.heap.size wB w1 := hb
      have hbb := hb'
      have z0 := (hbb.cell (p := ⟨w.heap.size, z, none⟩) hl).trans HC.out.1
      have hl2 : w.heap.size < w1.heap.size := Nat.lt_of_lt_of_le hl hbb.size
      clear hbb
      go_simp
      first | exact Grows.refl _ | exact ⟨Grows.refl _, trivial⟩
     refine val_cons ?_ (fun v3 => ?_)
     ·intro L vs w1 hvs hat hb hI hF; try simp [factsI, Region.binds, Is] at hF
      have hc := (Grows.cells hb).1
      clear hI
      go_simp
      try simp [upd]
      try first | exact Grows.refl _ | exact trivial | exact ⟨Grows.refl _, trivial⟩
     refine val_cons ?_ (fun v4 => ?_)
     ·intro L vs w1 hvs hat hb hI hF; try simp [factsI, Region.binds, Is] at hF
      have hc := (Grows.cells hb).1
      clear hI
      go_simp
      try simp [upd]
      try first | exact Grows.refl _ | exact trivial | exact ⟨Grows.refl _, trivial⟩
     refine val_cons ?_ (fun v5 => ?_)
     ·intro L vs w1 hvs hat hb hI hF; try simp [factsI, Region.binds, Is] at hF
      have hl := HC.out.2.2.2
      have hb' : Below wB.heap.size wB w1 := hb
      have hbb := hb'
      have z0 := (hbb.cell (p := ⟨w.heap.size + 1, z, none⟩) hl).trans HC.out.2.1
      have hl2 : w.heap.size + 1 < w1.heap.size := Nat.lt_of_lt_of_le hl hbb.size
      clear hbb
      go_simp
      first | exact Grows.refl _ | exact ⟨Grows.refl _, trivial⟩
     refine val_cons ?_ (fun v6 => ?_)
     ·intro L vs w1 hvs hat hb hI hF; try simp [factsI, Region.binds, Is] at hF
      have hc := (Grows.cells hb).1
      clear hI
      go_simp
      try simp [upd]
      try first | exact Grows.refl _ | exact trivial | exact ⟨Grows.refl _, trivial⟩
     refine val_nil ?_
     intro vs w1 hvs hb hI hF
     simp [Is, Nat.forall_lt_succ_right] at hF
     simp only [Act.put, List.setIfInBounds_toArray, List.set_cons_succ, List.set_cons_zero, hF]
     clear hF
     have HBd := Lib.hid (show Below wB.heap.size wB w1 from hb)
     have HF := Lib.hid (bel_trans HM.out.2.2.2 HBd.out)
     obtain ⟨w2, hw2⟩ : ∃ w2, w2 = w1 := ⟨_, rfl⟩
     rw [← hw2] at HBd HF ⊢
     clear hw2 hb hvs
     go_wp2_with fail
     refine wp_region_val Grows (fun _ _ _ => True) [Is (.int .i64 (z : Int)), Is (.pointer (some ⟨w.heap.size, z, none⟩)), Is (.int .u64 x), Is (.int .i64 (z : Int)), Is (.pointer (some ⟨w.heap.size + 1, z, none⟩)), Is (.int .u64 y), Is (.bool false)] (by kernel_rfl) (by kernel_rfl) rfl Grows.refl (fun _ _ _ => Grows.trans) (stable_mem ⟨fun _ _ _ h _ => h, fun _ _ _ h _ => h, fun _ _ _ h _ => h, fun _ _ _ h _ => h, fun _ _ _ h _ => h, fun _ _ _ h _ => h, fun _ _ _ h _ => h, trivial⟩) w2 (Below.drew (Below.refl _ _)) trivial ?_
     refine val_cons ?_ (fun v0 => ?_)
     ·intro L vs w1 hvs hat hb hI hF; try simp [factsI, Region.binds, Is] at hF
      have hc := (Grows.cells hb).1
      clear hI
      go_simp
      try simp [upd]
      try first | exact Grows.refl _ | exact trivial | exact ⟨Grows.refl _, trivial⟩
     refine val_cons ?_ (fun v1 => ?_)
     ·intro L vs w1 hvs hat hb hI hF; try simp [factsI, Region.binds, Is] at hF
      have hc := (Grows.cells hb).1
      clear hI
      go_simp
      try simp [upd]
      try first | exact Grows.refl _ | exact trivial | exact ⟨Grows.refl _, trivial⟩
     refine val_cons ?_ (fun v2 => ?_)
     ·intro L vs w1 hvs hat hb hI hF; try simp [factsI, Region.binds, Is] at hF
      have hl := HC.out.2.2.1
      have hb' : Below w2.heap.size w2 w1 := hb
      have hbb := bel_trans HBd.out hb'
      have z0 := (hbb.cell (p := ⟨w.heap.size, z, none⟩) hl).trans HC.out.1
      have hl2 : w.heap.size < w1.heap.size := Nat.lt_of_lt_of_le hl hbb.size
      clear hbb
      go_simp
      first | exact Grows.refl _ | exact ⟨Grows.refl _, trivial⟩
     refine val_cons ?_ (fun v3 => ?_)
     ·intro L vs w1 hvs hat hb hI hF; try simp [factsI, Region.binds, Is] at hF
      have hc := (Grows.cells hb).1
      clear hI
      go_simp
      try simp [upd]
      try first | exact Grows.refl _ | exact trivial | exact ⟨Grows.refl _, trivial⟩
     refine val_cons ?_ (fun v4 => ?_)
     ·intro L vs w1 hvs hat hb hI hF; try simp [factsI, Region.binds, Is] at hF
      have hc := (Grows.cells hb).1
      clear hI
      go_simp
      try simp [upd]
      try first | exact Grows.refl _ | exact trivial | exact ⟨Grows.refl _, trivial⟩
     refine val_cons ?_ (fun v5 => ?_)
     ·intro L vs w1 hvs hat hb hI hF; try simp [factsI, Region.binds, Is] at hF
      have hl := HC.out.2.2.2
      have hb' : Below w2.heap.size w2 w1 := hb
      have hbb := bel_trans HBd.out hb'
      have z0 := (hbb.cell (p := ⟨w.heap.size + 1, z, none⟩) hl).trans HC.out.2.1
      have hl2 : w.heap.size + 1 < w1.heap.size := Nat.lt_of_lt_of_le hl hbb.size
      clear hbb
      go_simp
      first | exact Grows.refl _ | exact ⟨Grows.refl _, trivial⟩
     refine val_cons ?_ (fun v6 => ?_)
     ·intro L vs w1 hvs hat hb hI hF; try simp [factsI, Region.binds, Is] at hF
      have hc := (Grows.cells hb).1
      clear hI
      go_simp
      try simp [upd]
      try first | exact Grows.refl _ | exact trivial | exact ⟨Grows.refl _, trivial⟩
     refine val_nil ?_
     intro vs w1 hvs hb hI hF
     simp [Is, Nat.forall_lt_succ_right] at hF
     simp only [Act.put, List.setIfInBounds_toArray, List.set_cons_succ, List.set_cons_zero, hF]
     clear hF
     have HBe := Lib.hid (show Below w2.heap.size w2 w1 from hb)
     have HF2 := Lib.hid (bel_trans HF.out HBe.out)
     clear hb hvs
     have HB2 := Lib.hid (HM.out.2.1.grow (bel_trans HBd.out HBe.out))
     have HB3 := Lib.hid (HM.out.2.2.1.grow (bel_trans HBd.out HBe.out))
     go_wp2_with fail
     go_roundw
     case rel => exact ⟨z + 1, by omega, by go_num, Lib.hid ⟨HRv.out, HB2.out, HB3.out, HF2.out⟩⟩
     case measure => simp [intOf]; omega
  ·obtain rfl : z = 8 := by omega
   have HF := Lib.hid HM.out.2.2.2
   have HRv : Hid (R = 0) := Lib.hid HM.out.1
   clear HM
   go_wp2_with fail
   go_ret
   exact ⟨ret_int HRv.out.symm, HF.out⟩
theorem drops_ne {a b : List Sol} {k : Nat} {x y : Sol} (ha : a[k]? = some x) (hb : b[k]? = some y) (h : x ≠ y) : a ≠ b := fun e => by
 rw [e, hb] at ha
 exact h (Option.some.inj ha).symm
set_option maxHeartbeats 4000000 in
theorem same_lens_no {la lb : List Sol} (w : World) {pa pb : Option Addr} {ca cb : Nat} (hn : la.length ≠ lb.length) :
  Calls Tryz.prog 33 #[.slice pa la.length ca, .slice pb lb.length cb] w fun e w' => e = .returned (.bool false) ∧ Below w.heap.size w w' := by
 have hd : (((la.length : Nat) : Int) != ((lb.length : Nat) : Int)) = true := by rw [bne_iff_ne]; omega
 clear hn
 go_enter Tryz.func33, Tryz.ntmps33
 go_wp2_with fail
 go_ret
 exact ⟨rfl, (by repeat (first | with_reducible exact bel_refl _ | with_reducible assumption | with_reducible refine bel_drewN ?_ _ | with_reducible refine bel_drew ?_ | with_reducible refine bel_alloc ?_ _ | with_reducible refine bel_row ?_ ?_ _ | with_reducible refine bel_set ?_ ?_ _ | refine bel_trans ?_ (by with_reducible assumption) | (simp; done) | (simp; omega)))⟩
set_option maxHeartbeats 4000000 in
theorem same_sols {la lb : List Sol} {w : World} {pa pb : Option Addr} {ca cb : Nat} (hoa : SlO w pa la) (hob : SlO w pb lb) (hsz : la.length ≤ 1000000) :
  Calls Tryz.prog 33 #[.slice pa la.length ca, .slice pb lb.length cb] w fun e w' => e = .returned (.bool (decide (la = lb))) ∧ Below w.heap.size w w' := by
 by_cases hn : la.length = lb.length
 ·have hd : (((la.length : Nat) : Int) != ((lb.length : Nat) : Int)) = false := by rw [bne_eq_false_iff_eq]; omega
  have HO := Lib.hid (And.intro hoa (And.intro hob hn))
  obtain ⟨R, hR⟩ : ∃ R, R = decide (la = lb) := ⟨_, rfl⟩
  rw [← hR]
  have HR := Lib.hid hR
  clear hoa hob hR
  obtain ⟨m, hm⟩ : ∃ m, m = lb.length := ⟨_, rfl⟩
  rw [← hm] at HO hd ⊢
  have HM := Lib.hid hm
  clear hm
  go_enter Tryz.func33, Tryz.ntmps33
  go_wp2_with fail
  go_loopw [5] (fun iv wx => ∃ i : Nat, i ≤ la.length ∧ iv = .int .i64 i ∧ Hid (la.take i = lb.take i ∧ Below w.heap.size w wx)) (fun iv _ => la.length - (intOf iv).toNat)
  case atStart => exact ⟨0, Nat.zero_le _, rfl, Lib.hid ⟨rfl, Below.refl _ _⟩⟩
  case round =>
   obtain ⟨i, hi, rfl, HI⟩ := hrel
   by_cases hlt : i < la.length
   ·have hd0 : decide ((i : Int) < (la.length : Int)) = true := decide_eq_true (by omega)
    have hi9 : (i : Int) < (la.length : Int) := by omega
    have hn0 := HO.out.2.2
    have hj9 : (i : Int) < (m : Int) := by omega
    have hlm := HM.out
    obtain ⟨x, hx⟩ : ∃ x, la[i]? = some x := ⟨la[i], by simp [hlt]⟩
    obtain ⟨y, hy⟩ : ∃ y, lb[i]? = some y := ⟨lb[i]'(by omega), List.getElem?_eq_getElem _⟩
    obtain ⟨b1, o1, rfl, hC1⟩ := HO.out.1.at hx
    obtain ⟨b2, o2, rfl, hC2⟩ := HO.out.2.1.at hy
    have hCa := hC1.mono HI.out.2 hC1.1
    have hCb := hC2.mono HI.out.2 hC2.1
    have HCC := Lib.hid (And.intro hCa hCb)
    have HXY := Lib.hid (And.intro hx hy)
    obtain ⟨wB, hwB⟩ : ∃ wB, wB = wr := ⟨_, rfl⟩
    rw [← hwB] at HI HCC ⊢
    clear hCa hCb hx hy hwB hlm
    go_wp2_with fail
    obtain ⟨Q, hQ⟩ : ∃ Q, Q = (x != y) := ⟨_, rfl⟩
    have HQ := Lib.hid hQ
    clear hQ
    refine wp_region_val Grows (fun _ _ _ => True) [Is (.slice (some ⟨b1, o1, none⟩) la.length ca), Is (.int .i64 (i : Int)), Is (.pointer (some ⟨b1, o1 + i * 8, none⟩)), Is (solV x), Is (.slice (some ⟨b2, o2, none⟩) m cb), Is (.int .i64 (i : Int)), Is (.pointer (some ⟨b2, o2 + i * 8, none⟩)), Is (solV y), Is (.bool Q)] (by kernel_rfl) (by kernel_rfl) rfl Grows.refl (fun _ _ _ => Grows.trans) (stable_mem ⟨fun _ _ _ h _ => h, fun _ _ _ h _ => h, fun _ _ _ h _ => h, fun _ _ _ h _ => h, fun _ _ _ h _ => h, fun _ _ _ h _ => h, fun _ _ _ h _ => h, fun _ _ _ h _ => h, fun _ _ _ h _ => h, trivial⟩) wB (Below.drew (Below.refl _ _)) trivial ?_
    refine val_cons ?_ (fun v0 => ?_)
    ·intro L vs w1 hvs hat hb hI hF; try simp [factsI, Region.binds, Is] at hF
     have hc := (Grows.cells hb).1
     clear hI
     go_simp
     try simp [upd]
     try first | exact Grows.refl _ | exact trivial | exact ⟨Grows.refl _, trivial⟩
    refine val_cons ?_ (fun v1 => ?_)
    ·intro L vs w1 hvs hat hb hI hF; try simp [factsI, Region.binds, Is] at hF
     have hc := (Grows.cells hb).1
     clear hI
     go_simp
     try simp [upd]
     try first | exact Grows.refl _ | exact trivial | exact ⟨Grows.refl _, trivial⟩
    refine val_cons ?_ (fun v2 => ?_)
    ·intro L vs w1 hvs hat hb hI hF; try simp [factsI, Region.binds, Is] at hF
     have hc := (Grows.cells hb).1
     clear hI
     go_simp
     try simp [upd]
     try first | exact Grows.refl _ | exact trivial | exact ⟨Grows.refl _, trivial⟩
    refine val_cons ?_ (fun v3 => ?_)
    ·intro L vs w1 hvs hat hb hI hF; try simp [factsI, Region.binds, Is] at hF
     have hCw := HCC.out.1.mono (show Below wB.heap.size wB w1 from hb) HCC.out.1.1
     obtain ⟨z0, z1, z2, z3, z4, z5, z6, z7⟩ := sol_cells hCw HXY.out.1
     have lz := hCw.1
     clear hCw
     go_simp
     first | exact Grows.refl _ | exact ⟨Grows.refl _, trivial⟩
    refine val_cons ?_ (fun v4 => ?_)
    ·intro L vs w1 hvs hat hb hI hF; try simp [factsI, Region.binds, Is] at hF
     have hc := (Grows.cells hb).1
     clear hI
     go_simp
     try simp [upd]
     try first | exact Grows.refl _ | exact trivial | exact ⟨Grows.refl _, trivial⟩
    refine val_cons ?_ (fun v5 => ?_)
    ·intro L vs w1 hvs hat hb hI hF; try simp [factsI, Region.binds, Is] at hF
     have hc := (Grows.cells hb).1
     clear hI
     go_simp
     try simp [upd]
     try first | exact Grows.refl _ | exact trivial | exact ⟨Grows.refl _, trivial⟩
    refine val_cons ?_ (fun v6 => ?_)
    ·intro L vs w1 hvs hat hb hI hF; try simp [factsI, Region.binds, Is] at hF
     have hc := (Grows.cells hb).1
     clear hI
     go_simp
     try simp [upd]
     try first | exact Grows.refl _ | exact trivial | exact ⟨Grows.refl _, trivial⟩
    refine val_cons ?_ (fun v7 => ?_)
    ·intro L vs w1 hvs hat hb hI hF; try simp [factsI, Region.binds, Is] at hF
     have hCw := HCC.out.2.mono (show Below wB.heap.size wB w1 from hb) HCC.out.2.1
     obtain ⟨z0, z1, z2, z3, z4, z5, z6, z7⟩ := sol_cells hCw HXY.out.2
     have lz := hCw.1
     clear hCw
     go_simp
     first | exact Grows.refl _ | exact ⟨Grows.refl _, trivial⟩
    refine val_cons ?_ (fun v8 => ?_)
    ·intro L vs w1 hvs hat hb hI hF; try simp [factsI, Region.binds, Is] at hF
     have hq := HQ.out
     go_simp
     exact ⟨Grows.refl _, by simp [bne]⟩
    refine val_nil ?_
    intro vs w1 hvs hb hI hF
    simp [Is, Nat.forall_lt_succ_right] at hF
    simp only [Act.put, List.setIfInBounds_toArray, List.set_cons_succ, List.set_cons_zero, hF]
    clear hF
    have hbB := Lib.hid (show Below wB.heap.size wB w1 from hb)
    clear hb hvs
    cases hq : Q with
    | true =>
     have hRf : R = false := by rw [HR.out]; exact decide_eq_false (drops_ne HXY.out.1 HXY.out.2 (by have h1 := HQ.out; rw [hq] at h1; exact bne_iff_ne.1 h1.symm))
     have HRf := Lib.hid hRf
     clear hRf
     go_wp2_with fail
     go_ret
     exact ⟨by rw [HRf.out]; rfl, HI.out.2.trans (hbB.out.mono HI.out.2.size)⟩
    | false =>
     have he : x = y := by
      have h1 := HQ.out
      rw [hq] at h1
      exact bne_eq_false_iff_eq.1 h1.symm
     have HT := Lib.hid (show la.take (i + 1) = lb.take (i + 1) by rw [List.take_add_one, List.take_add_one, HXY.out.1, HXY.out.2, HI.out.1, he])
     clear he
     go_wp2_with fail
     go_roundw
     case rel => exact ⟨i + 1, by omega, by go_num, Lib.hid ⟨HT.out, HI.out.2.trans (hbB.out.mono HI.out.2.size)⟩⟩
     case measure => simp [intOf]; omega
   ·have hd0 : decide ((i : Int) < (la.length : Int)) = false := decide_eq_false (by omega)
    have hi9 : ¬ (i : Int) < (la.length : Int) := by omega
    have hRt : R = true := by
     rw [HR.out]
     have h1 := HI.out.1
     rw [List.take_of_length_le (by omega), List.take_of_length_le (by have := HO.out.2.2; have := HM.out; omega)] at h1
     exact decide_eq_true h1
    have HRt := Lib.hid hRt
    clear hRt
    go_wp2_with fail
    go_ret
    exact ⟨by rw [HRt.out]; rfl, HI.out.2⟩
 ·have : decide (la = lb) = false := decide_eq_false fun e => hn (by rw [e])
  rw [this]
  exact same_lens_no w hn
end Go.Proofs.YtkfimbonmnoglaaGreatDoor
end
section
namespace Go.Proofs.YtkfimbonmnoglaaGreatDoor
open Go.RowKit Go.Rel Go.Draw Go.Solid
set_option maxRecDepth 100000
set_option maxHeartbeats 8000000 in
theorem refCornered_n (s : Sol) (w : World) : Calls Tryz.prog 103 #[solV s] w fun e w' => e = .returned (solV (cornS s)) ∧ Below w.heap.size w w' := by
 by_cases hs : s = 0
 ·have hC : cornS s = s := by rw [hs]; exact corn_zero
  rw [hC]
  have HBo := Lib.hid fun W => refBounds_zero hs W
  clear hC hs
  go_enter Tryz.func103, Tryz.ntmps103
  go_wp2_with fail
  obtain ⟨W0, hW0⟩ : ∃ W0, W0 = (w.alloc (.cells #[.int .u64 (pl s 0), .int .u64 (pl s 1), .int .u64 (pl s 2), .int .u64 (pl s 3), .int .u64 (pl s 4), .int .u64 (pl s 5), .int .u64 (pl s 6), .int .u64 (pl s 7)] 26)).alloc (.cells #[.int .u64 0, .int .u64 0, .int .u64 0, .int .u64 0, .int .u64 0, .int .u64 0, .int .u64 0, .int .u64 0] 26) := ⟨_, rfl⟩
  have b0 : Blk W0 w.heap.size #[.int .u64 (pl s 0), .int .u64 (pl s 1), .int .u64 (pl s 2), .int .u64 (pl s 3), .int .u64 (pl s 4), .int .u64 (pl s 5), .int .u64 (pl s 6), .int .u64 (pl s 7)] 26 ∧ Blk W0 (w.heap.size + 1) #[.int .u64 0, .int .u64 0, .int .u64 0, .int .u64 0, .int .u64 0, .int .u64 0, .int .u64 0, .int .u64 0] 26 ∧ Below w.heap.size w W0 := by
   rw [hW0]
   exact ⟨(by repeat (first | with_reducible assumption | (refine Blk.at _ _ ?_; (simp; done)) | with_reducible refine Blk.alloc ?_ _ | with_reducible refine Blk.drew ?_ | with_reducible refine Blk.rowS ?_ _ | with_reducible refine Blk.rowO ?_ _ (by simp))), Blk.at _ _ (by simp), (by repeat (first | with_reducible exact bel_refl _ | with_reducible assumption | with_reducible refine bel_drewN ?_ _ | with_reducible refine bel_drew ?_ | with_reducible refine bel_alloc ?_ _ | with_reducible refine bel_row ?_ ?_ _ | with_reducible refine bel_set ?_ ?_ _ | refine bel_trans ?_ (by with_reducible assumption) | (simp; done) | (simp; omega)))⟩
  rw [← hW0]
  clear hW0
  refine (HBo.out _).mono ?_
  rintro e w1 ⟨rfl, hb⟩
  obtain ⟨wA, hwA⟩ : ∃ x, x = w1.alloc (.cells #[.int .i64 0, .int .i64 0, .int .i64 0, .int .i64 0, .int .i64 0, .int .i64 0] 62) := ⟨_, rfl⟩
  have k0 : Blk wA w.heap.size #[.int .u64 (pl s 0), .int .u64 (pl s 1), .int .u64 (pl s 2), .int .u64 (pl s 3), .int .u64 (pl s 4), .int .u64 (pl s 5), .int .u64 (pl s 6), .int .u64 (pl s 7)] 26 ∧ Blk wA (w.heap.size + 1) #[.int .u64 0, .int .u64 0, .int .u64 0, .int .u64 0, .int .u64 0, .int .u64 0, .int .u64 0, .int .u64 0] 26 ∧ Below w.heap.size w wA := by
   rw [hwA]
   exact ⟨(b0.1.grow hb).alloc _, (b0.2.1.grow hb).alloc _, bel_alloc (bel_trans b0.2.2 hb) _⟩
  go_upto_region 2 with fail
  rw [← hwA]
  clear hwA hb b0
  have cs := k0.1.cell; have ls := k0.1.lt
  have r2 := k0.2.1.row; have l2 := k0.2.1.lt
  have cF := (k0.2.1.rowS #[.int .u64 (pl s 0), .int .u64 (pl s 1), .int .u64 (pl s 2), .int .u64 (pl s 3), .int .u64 (pl s 4), .int .u64 (pl s 5), .int .u64 (pl s 6), .int .u64 (pl s 7)]).cell
  have hb5 := bel_row k0.2.2 (g := w.heap.size + 1) (by omega) #[.int .u64 (pl s 0), .int .u64 (pl s 1), .int .u64 (pl s 2), .int .u64 (pl s 3), .int .u64 (pl s 4), .int .u64 (pl s 5), .int .u64 (pl s 6), .int .u64 (pl s 7)]
  rw [← k0.2.1.rw]
  clear k0
  go_wp2_with fail
  exact bodyPost_ret (v := solV s) (by simp [results, Tryz.results103, go_sem, cF]) rfl ⟨rfl, hb5⟩
 ·have hC : movedM s (negC (loS s)) = (cornS s, 0) := movedM_ok.2 (.inr ⟨hs, corn_stays hs, by unfold cornS; rw [if_neg hs]⟩)
  have HBo := Lib.hid fun W => refBounds_some hs W
  have HMv := Lib.hid fun W => refMoved_n s (negC (loS s)) W
  rw [hC] at HMv
  have hr := inG_iff.1 (loS_in hs)
  obtain ⟨p, hp⟩ : ∃ p, p = cornS s := ⟨_, rfl⟩
  rw [← hp] at HMv ⊢
  obtain ⟨⟨l0, l1, l2⟩, hl⟩ : ∃ l, l = loS s := ⟨_, rfl⟩
  obtain ⟨⟨h0, h1, h2⟩, hh⟩ : ∃ l, l = hiS s := ⟨_, rfl⟩
  rw [← hl] at HBo HMv hr
  rw [← hh] at HBo
  simp only [negC] at HMv hr
  have n0 : IntKind.i64.wrap (-l0) = -l0 := w64 ⟨by omega, by omega⟩
  have n1 : IntKind.i64.wrap (-l1) = -l1 := w64 ⟨by omega, by omega⟩
  have n2 : IntKind.i64.wrap (-l2) = -l2 := w64 ⟨by omega, by omega⟩
  clear hC hp hl hh hs hr
  go_enter Tryz.func103, Tryz.ntmps103
  go_wp2_with fail
  obtain ⟨W0, hW0⟩ : ∃ W0, W0 = (w.alloc (.cells #[.int .u64 (pl s 0), .int .u64 (pl s 1), .int .u64 (pl s 2), .int .u64 (pl s 3), .int .u64 (pl s 4), .int .u64 (pl s 5), .int .u64 (pl s 6), .int .u64 (pl s 7)] 26)).alloc (.cells #[.int .u64 0, .int .u64 0, .int .u64 0, .int .u64 0, .int .u64 0, .int .u64 0, .int .u64 0, .int .u64 0] 26) := ⟨_, rfl⟩
  have b0 : Blk W0 w.heap.size #[.int .u64 (pl s 0), .int .u64 (pl s 1), .int .u64 (pl s 2), .int .u64 (pl s 3), .int .u64 (pl s 4), .int .u64 (pl s 5), .int .u64 (pl s 6), .int .u64 (pl s 7)] 26 ∧ Blk W0 (w.heap.size + 1) #[.int .u64 0, .int .u64 0, .int .u64 0, .int .u64 0, .int .u64 0, .int .u64 0, .int .u64 0, .int .u64 0] 26 ∧ Below w.heap.size w W0 := by
   rw [hW0]
   exact ⟨(by repeat (first | with_reducible assumption | (refine Blk.at _ _ ?_; (simp; done)) | with_reducible refine Blk.alloc ?_ _ | with_reducible refine Blk.drew ?_ | with_reducible refine Blk.rowS ?_ _ | with_reducible refine Blk.rowO ?_ _ (by simp))), Blk.at _ _ (by simp), (by repeat (first | with_reducible exact bel_refl _ | with_reducible assumption | with_reducible refine bel_drewN ?_ _ | with_reducible refine bel_drew ?_ | with_reducible refine bel_alloc ?_ _ | with_reducible refine bel_row ?_ ?_ _ | with_reducible refine bel_set ?_ ?_ _ | refine bel_trans ?_ (by with_reducible assumption) | (simp; done) | (simp; omega)))⟩
  rw [← hW0]
  clear hW0
  refine (HBo.out _).mono ?_
  rintro e w1 ⟨rfl, hb⟩
  obtain ⟨wA, hwA⟩ : ∃ x, x = w1.alloc (.cells #[.int .i64 l0, .int .i64 l1, .int .i64 l2, .int .i64 h0, .int .i64 h1, .int .i64 h2] 62) := ⟨_, rfl⟩
  obtain ⟨gA, hgA⟩ : ∃ x, x = w1.heap.size := ⟨_, rfl⟩
  have HK : Hid (Blk wA w.heap.size #[.int .u64 (pl s 0), .int .u64 (pl s 1), .int .u64 (pl s 2), .int .u64 (pl s 3), .int .u64 (pl s 4), .int .u64 (pl s 5), .int .u64 (pl s 6), .int .u64 (pl s 7)] 26 ∧ Blk wA (w.heap.size + 1) #[.int .u64 0, .int .u64 0, .int .u64 0, .int .u64 0, .int .u64 0, .int .u64 0, .int .u64 0, .int .u64 0] 26 ∧ Blk wA gA #[.int .i64 l0, .int .i64 l1, .int .i64 l2, .int .i64 h0, .int .i64 h1, .int .i64 h2] 62 ∧ Below w.heap.size w wA) := Lib.hid (by
   rw [hwA, hgA]
   exact ⟨(b0.1.grow hb).alloc _, (b0.2.1.grow hb).alloc _, Blk.new _ _ _, bel_alloc (bel_trans b0.2.2 hb) _⟩)
  go_upto_region 2 with fail
  rw [← hwA, ← hgA]
  clear hwA hgA hb b0
  have cs := HK.out.1.cell; have ls := HK.out.1.lt
  have cb := HK.out.2.2.1.cell; have lb := HK.out.2.2.1.lt
  go_wp2_with fail
  clear cs ls cb lb
  refine (HMv.out _).mono ?_
  rintro e w2 ⟨rfl, hb⟩
  obtain ⟨wC, hwC⟩ : ∃ x, x = w2.alloc (.cells #[.int .u64 (pl p 0), .int .u64 (pl p 1), .int .u64 (pl p 2), .int .u64 (pl p 3), .int .u64 (pl p 4), .int .u64 (pl p 5), .int .u64 (pl p 6), .int .u64 (pl p 7)] 26) := ⟨_, rfl⟩
  obtain ⟨gC, hgC⟩ : ∃ x, x = w2.heap.size := ⟨_, rfl⟩
  have k0 : Blk wC gC #[.int .u64 (pl p 0), .int .u64 (pl p 1), .int .u64 (pl p 2), .int .u64 (pl p 3), .int .u64 (pl p 4), .int .u64 (pl p 5), .int .u64 (pl p 6), .int .u64 (pl p 7)] 26 ∧ Blk wC (w.heap.size + 1) #[.int .u64 0, .int .u64 0, .int .u64 0, .int .u64 0, .int .u64 0, .int .u64 0, .int .u64 0, .int .u64 0] 26 ∧ Below w.heap.size w wC := by
   rw [hwC, hgC]
   exact ⟨Blk.new _ _ _, (HK.out.2.1.grow hb).alloc _, bel_alloc (bel_trans HK.out.2.2.2 hb) _⟩
  have hgo : w.heap.size + 1 < gC := by rw [hgC]; exact (HK.out.2.1.grow hb).lt
  go_upto_region 5 with fail
  rw [← hwC, ← hgC]
  clear hwC hgC hb HK
  have cs := (k0.1.rowO #[.int .u64 0, .int .u64 0, .int .u64 0, .int .u64 0, .int .u64 0, .int .u64 0, .int .u64 0, .int .u64 0] (g := w.heap.size + 1) (by omega)).cell; have ls := (k0.1.rowO #[.int .u64 0, .int .u64 0, .int .u64 0, .int .u64 0, .int .u64 0, .int .u64 0, .int .u64 0, .int .u64 0] (g := w.heap.size + 1) (by omega)).lt
  have r2 := k0.2.1.row; have l2 := k0.2.1.lt
  have cF := (k0.2.1.rowS #[.int .u64 (pl p 0), .int .u64 (pl p 1), .int .u64 (pl p 2), .int .u64 (pl p 3), .int .u64 (pl p 4), .int .u64 (pl p 5), .int .u64 (pl p 6), .int .u64 (pl p 7)]).cell
  have hb5 := bel_row k0.2.2 (g := w.heap.size + 1) (by omega) #[.int .u64 (pl p 0), .int .u64 (pl p 1), .int .u64 (pl p 2), .int .u64 (pl p 3), .int .u64 (pl p 4), .int .u64 (pl p 5), .int .u64 (pl p 6), .int .u64 (pl p 7)]
  rw [← k0.2.1.rw]
  clear k0 hgo
  go_wp2_with fail
  exact bodyPost_ret (v := solV p) (by simp [results, Tryz.results103, go_sem, cF]) rfl ⟨rfl, hb5⟩
end Go.Proofs.YtkfimbonmnoglaaGreatDoor
end
