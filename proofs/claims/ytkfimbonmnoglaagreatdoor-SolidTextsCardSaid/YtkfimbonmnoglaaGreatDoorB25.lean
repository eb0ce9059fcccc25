import Derived.Test.YtkfimbonmnoglaaGreatDoorB24
import Derived.Deep.Cut
import Derived.Defers
import Derived.Recover
import Derived.Laws.Pointers
/-
  Given contracts of functions of the program, and laws for them, one behind the other.
-/
set_option linter.unusedVariables false
set_option linter.unusedSimpArgs false
set_option linter.unusedSectionVars false
section
namespace Go.Proofs.YtkfimbonmnoglaaGreatDoor
open Go.RowKit Go.Rel Go.Draw Go.Solid
set_option maxRecDepth 100000
theorem catch_idle (p q : Addr) (w : World) :
  CallsD Tryz.prog 116 #[.pointer (some p), .pointer (some q)] .returning w fun e u' w' => e = .returned (.tuple #[]) ∧ u' = .returning ∧ w' = w := by
 refine callsD_of_wpS Tryz.func116 rfl fun c₀ cs hu => ?_
 apply wpS_seq
 apply wpS_region
 simp [wpOpsS, go_sem, recoverD, hu, Tryz.ntmps116, Exit.thenS]
 apply wpS_seq
 apply wpS_region
 simp [wpOpsS, go_sem, recoverD, hu, Tryz.ntmps116, Exit.thenS]
 refine wpS_cond (t := false) (by simp [Act.eval, Array.replicate]) ?_
 simp only [Bool.false_eq_true, if_false]
 refine wpS_of_wp (wp_skip ?_)
 cases c₀
 simp_all [bodyPostS, results, Tryz.results116]
abbrev dotT : ByteArray := ⟨#[46]⟩
theorem ring_count : Lib.countB ringT dotT = 0 := by decide +kernel
theorem ring_split : Lib.splitB dotT 0 0 ringT = [ringT] := by decide +kernel
theorem ring_plane : ∀ k, 1 ≤ k → k < 8 → plN ringS k = 0 := by
 intro k h1 h2
 obtain rfl | rfl | rfl | rfl | rfl | rfl | rfl : k = 1 ∨ k = 2 ∨ k = 3 ∨ k = 4 ∨ k = 5 ∨ k = 6 ∨ k = 7 := by omega
 all_goals decide +kernel
theorem ring_hexV : hexV ringS 0 = .string ringT := by
 have e : plN ringS 0 = 460039 := by decide +kernel
 unfold hexV
 rw [e, ring_hex]
theorem write_ring (w : World) (hT : Tab w) : Calls Tryz.prog 47 #[solV ringS] w fun e w' => e = .returned (.string ringT) ∧ Below w.heap.size w w' := by
 have := solidWrite_one ringS ring_plane w (tab_15 hT)
 rw [ring_hexV] at this
 exact this
set_option maxHeartbeats 8000000 in
theorem read_ring (w : World) (hT : Tab w) (m : Int) (hm : w.cell? ⟨2, 0, none⟩ = some (.int .i64 m)) : Calls Tryz.prog 48 #[.string ringT] w fun e w' => e = .returned (.tuple #[solV ringS, .int .i64 0]) ∧ Below w.heap.size w w' := by
 have hmf : ∀ (fn : Fn) (first cap : Array Value) (w : World), (Instr.makeFunc fn first cap).run Tryz.prog w = .ok (.func fn first cap) w := fun _ _ _ _ => rfl
 have HS : Hid (∀ W, Below w.heap.size w W → Calls Tryz.prog 117 #[.string ringT, .string dotT] W fun e w' => e = .returned (.slice (some ⟨W.heap.size, 0, none⟩) 1 1) ∧ w' = W.alloc (.cells #[.string ringT] 9)) := Lib.hid fun W hb => by
  have := Tryz.strings_Split ringT dotT m W (by decide) ((hb.cell (p := ⟨2, 0, none⟩) (block_lt_of_cell hm)).trans hm) (by decide)
  rw [ring_count, ring_split] at this
  exact this
 have HP : Hid (∀ W, Below w.heap.size w W → Calls Tryz.prog 118 #[.string ringT] W fun e w' => e = .returned (.int .u64 460039) ∧ Below W.heap.size W w') := Lib.hid fun W hb => plane_ring W (hT.grow hb)
 have HW : Hid (∀ W, Below w.heap.size w W → Calls Tryz.prog 47 #[.agg #[.int .u64 460039, .int .u64 0, .int .u64 0, .int .u64 0, .int .u64 0, .int .u64 0, .int .u64 0, .int .u64 0]] W fun e w' => e = .returned (.string ringT) ∧ Below W.heap.size W w') := Lib.hid fun W hb => by
  rw [← ring_row]
  exact write_ring W (hT.grow hb)
 clear hT hm
 rw [show solV ringS = .agg #[.int .u64 460039, .int .u64 0, .int .u64 0, .int .u64 0, .int .u64 0, .int .u64 0, .int .u64 0, .int .u64 0] from congrArg Value.agg ring_row]
 go_enter_defers Tryz.func48, Tryz.ntmps48
 go_wp2_with fail
 refine (HS.out _ (by repeat (first | with_reducible exact bel_refl _ | with_reducible assumption | with_reducible refine bel_drewN ?_ _ | with_reducible refine bel_drew ?_ | with_reducible refine bel_alloc ?_ _ | with_reducible refine bel_row ?_ ?_ _ | with_reducible refine bel_set ?_ ?_ _ | refine bel_trans ?_ (by with_reducible assumption) | (simp; done) | (simp; omega)))).mono ?_
 rintro e w1 ⟨rfl, rfl⟩
 go_wp2_with fail
 obtain ⟨w2, hw2⟩ : ∃ w2, w2 = ((w.alloc (.cells #[.int .u64 0, .int .u64 0, .int .u64 0, .int .u64 0, .int .u64 0, .int .u64 0, .int .u64 0, .int .u64 0] 26)).alloc (.cells #[.int .i64 0] 27)).alloc (.cells #[.string ringT] 9) := ⟨_, rfl⟩
 have b0 : Blk w2 w.heap.size #[.int .u64 0, .int .u64 0, .int .u64 0, .int .u64 0, .int .u64 0, .int .u64 0, .int .u64 0, .int .u64 0] 26 := by rw [hw2]; exact (by repeat (first | with_reducible assumption | (refine Blk.at _ _ ?_; (simp; done)) | with_reducible refine Blk.alloc ?_ _ | with_reducible refine Blk.drew ?_ | with_reducible refine Blk.rowS ?_ _ | with_reducible refine Blk.rowO ?_ _ (by simp)))
 have b1 : Blk w2 (w.heap.size + 1) #[.int .i64 0] 27 := by rw [hw2]; exact (by repeat (first | with_reducible assumption | (refine Blk.at _ _ ?_; (simp; done)) | with_reducible refine Blk.alloc ?_ _ | with_reducible refine Blk.drew ?_ | with_reducible refine Blk.rowS ?_ _ | with_reducible refine Blk.rowO ?_ _ (by simp)))
 have b2 : Blk w2 (w.heap.size + 1 + 1) #[.string ringT] 9 := by rw [hw2]; exact Blk.at _ _ (by simp)
 have hb2 : Below w.heap.size w w2 := by rw [hw2]; exact (by repeat (first | with_reducible exact bel_refl _ | with_reducible assumption | with_reducible refine bel_drewN ?_ _ | with_reducible refine bel_drew ?_ | with_reducible refine bel_alloc ?_ _ | with_reducible refine bel_row ?_ ?_ _ | with_reducible refine bel_set ?_ ?_ _ | refine bel_trans ?_ (by with_reducible assumption) | (simp; done) | (simp; omega)))
 rw [← hw2]
 have H2 := Lib.hid (And.intro b0 (And.intro b1 (And.intro b2 hb2)))
 clear hw2 b0 b1 b2 hb2
 go_loopw [10] (fun iv wx => (iv = .int .i64 0 ∧ Hid (Blk wx w.heap.size #[.int .u64 0, .int .u64 0, .int .u64 0, .int .u64 0, .int .u64 0, .int .u64 0, .int .u64 0, .int .u64 0] 26 ∧ Blk wx (w.heap.size + 1) #[.int .i64 0] 27 ∧ Blk wx (w.heap.size + 1 + 1) #[.string ringT] 9 ∧ Below w.heap.size w wx)) ∨ (iv = .int .i64 1 ∧ Hid (Blk wx w.heap.size #[.int .u64 460039, .int .u64 0, .int .u64 0, .int .u64 0, .int .u64 0, .int .u64 0, .int .u64 0, .int .u64 0] 26 ∧ Blk wx (w.heap.size + 1) #[.int .i64 0] 27 ∧ Below w.heap.size w wx))) (fun iv _ => 1 - (intOf iv).toNat)
 case atStart => exact .inl ⟨rfl, H2⟩
 case round =>
  rcases hrel with ⟨rfl, HI⟩ | ⟨rfl, HI⟩
  ·have c2 := HI.out.2.2.1.cell; have l2 := HI.out.2.2.1.lt
   go_wp2_with fail
   refine (HP.out _ HI.out.2.2.2).mono ?_
   rintro e w3 ⟨rfl, hb3⟩
   have b0 := HI.out.1.grow hb3
   have b1 := HI.out.2.1.grow hb3
   have c0 := b0.cell; have l0 := b0.lt; have f0 := b0.free 0
   have H3 := Lib.hid (And.intro b0 (And.intro b1 (bel_trans HI.out.2.2.2 hb3)))
   clear b0 b1 c2 l2 hb3
   go_wp2_with fail
   go_roundw
   case rel =>
    refine .inr ⟨rfl, Lib.hid ⟨H3.out.1.set 0 _, H3.out.2.1.gb (gb_set (gb_refl w3 (some w.heap.size)) _ rfl _) (by simp <;> omega), H3.out.2.2.grown (gb_set (gb_refl w3 (some w.heap.size)) _ rfl _) H3.out.2.2.size (fun k e => by cases e; omega)⟩⟩
   case measure => decide
  ·have c0 := HI.out.1.cell; have l0 := HI.out.1.lt
   go_wp2_with fail
   refine (HW.out _ HI.out.2.2).mono ?_
   rintro e w3 ⟨rfl, hb3⟩
   have b0 := HI.out.1.grow hb3
   have b1 := HI.out.2.1.grow hb3
   have c0' := b0.cell; have l0' := b0.lt; have r0 := b0.row
   have c1 := b1.cell; have l1 := b1.lt; have f1 := b1.free 0
   have H3 := Lib.hid (And.intro b0 (And.intro b1 (bel_trans HI.out.2.2 hb3)))
   rw [← b0.rw]
   clear b0 b1 c0 l0 hb3
   go_wp2_with fail
   obtain ⟨W4, hW4⟩ : ∃ W4, W4 = (w3.setCell ⟨w.heap.size + 1, 0, none⟩ (.int .i64 0)).setRow w.heap.size #[.int .u64 460039, .int .u64 0, .int .u64 0, .int .u64 0, .int .u64 0, .int .u64 0, .int .u64 0, .int .u64 0] := ⟨_, rfl⟩
   have hgs := gb_set (gb_refl w3 (some (w.heap.size + 1))) ⟨w.heap.size + 1, 0, none⟩ rfl (.int .i64 0)
   have B0 : Blk W4 w.heap.size #[.int .u64 460039, .int .u64 0, .int .u64 0, .int .u64 0, .int .u64 0, .int .u64 0, .int .u64 0, .int .u64 0] 26 := by rw [hW4]; exact (H3.out.1.gb hgs (by simp)).rowS _
   have B1 : Blk W4 (w.heap.size + 1) #[.int .i64 0] 27 := by rw [hW4]; exact (H3.out.2.1.set 0 _).rowO _ (by omega)
   have hb4 : Below w.heap.size w W4 := by rw [hW4]; exact bel_row (H3.out.2.2.grown hgs H3.out.2.2.size (fun k e => by cases e; omega)) (Nat.le_refl _) _
   rw [← hW4]
   have d0 := B0.cell; have d1 := B1.cell; have m0 := B0.lt
   refine leaves_cons (f := 116) (args := #[.pointer (some ⟨w.heap.size, 0, none⟩), .pointer (some ⟨w.heap.size + 1, 0, none⟩)]) (by simp) (by simp [go_sem]) ?_
   refine (catch_idle _ _ _).mono ?_
   rintro e u' w'' ⟨rfl, rfl, rfl⟩
   refine ⟨.tuple #[.agg #[.int .u64 460039, .int .u64 0, .int .u64 0, .int .u64 0, .int .u64 0, .int .u64 0, .int .u64 0, .int .u64 0], .int .i64 0], by simp [results, Tryz.results48, go_sem, d0, d1], rfl, hb4⟩
end Go.Proofs.YtkfimbonmnoglaaGreatDoor
end
