import Derived.Test.YtccnkebkgegohaaGreatDoorHY10
import Derived.Deep.Cut
/-
  Given contracts of functions of the program, and laws for them, one behind the other.
-/
set_option linter.unusedVariables false
set_option linter.unusedSimpArgs false
set_option linter.unusedSectionVars false
section
namespace Go.Proofs.YtccnkebkgegohaaGreatDoor
open Go.RowKit Go.Rel
set_option maxRecDepth 100000
/-! next, of the reference: what it makes -/
set_option maxHeartbeats 8000000 in
theorem refNext_fit (b s c : Sol) (p : Option Addr) (n d K k : Nat) (on : Int) (x : Sol) (w : World) (hk : k < 8) (H104 : Hid (∀ w', Below w.heap.size w w' → Calls Tryz.prog 104 #[.int .i64 n, .agg #[.int .u8 K, .int .i64 k, .int .u64 (pl x 0), .int .u64 (pl x 1), .int .u64 (pl x 2), .int .u64 (pl x 3), .int .u64 (pl x 4), .int .u64 (pl x 5), .int .u64 (pl x 6), .int .u64 (pl x 7)]] w' fun e w'' => e = .returned (.bool true) ∧ Below w'.heap.size w' w'')) (H100 : Hid (∀ w', Below w.heap.size w w' → Calls Tryz.prog 100 #[.agg #[.int .u64 (pl b 0), .int .u64 (pl b 1), .int .u64 (pl b 2), .int .u64 (pl b 3), .int .u64 (pl b 4), .int .u64 (pl b 5), .int .u64 (pl b 6), .int .u64 (pl b 7), .slice p n d], .agg #[.int .u8 K, .int .i64 k, .int .u64 (pl x 0), .int .u64 (pl x 1), .int .u64 (pl x 2), .int .u64 (pl x 3), .int .u64 (pl x 4), .int .u64 (pl x 5), .int .u64 (pl x 6), .int .u64 (pl x 7)]] w' fun e w'' => e = .returned (.agg #[.int .u64 (pl c 0), .int .u64 (pl c 1), .int .u64 (pl c 2), .int .u64 (pl c 3), .int .u64 (pl c 4), .int .u64 (pl c 5), .int .u64 (pl c 6), .int .u64 (pl c 7)]) ∧ Below w'.heap.size w' w'')) (hK : ((K : Int) == 2) = true) (hK3 : ((K : Int) == 3) = false) (hon : (bits .and .u8 on (2 ^ k) != 0) = false) (H152 : Hid (∀ w', Below w.heap.size w w' → Calls Tryz.prog 152 #[.agg #[.int .u64 (pl c 0), .int .u64 (pl c 1), .int .u64 (pl c 2), .int .u64 (pl c 3), .int .u64 (pl c 4), .int .u64 (pl c 5), .int .u64 (pl c 6), .int .u64 (pl c 7)], .agg #[.int .u64 (pl s 0), .int .u64 (pl s 1), .int .u64 (pl s 2), .int .u64 (pl s 3), .int .u64 (pl s 4), .int .u64 (pl s 5), .int .u64 (pl s 6), .int .u64 (pl s 7)]] w' fun e w'' => e = .returned (.bool false) ∧ Below w'.heap.size w' w'')) :
  Calls Tryz.prog 154 #[.agg #[.int .u64 (pl b 0), .int .u64 (pl b 1), .int .u64 (pl b 2), .int .u64 (pl b 3), .int .u64 (pl b 4), .int .u64 (pl b 5), .int .u64 (pl b 6), .int .u64 (pl b 7), .slice p n d], .agg #[.int .u64 (pl s 0), .int .u64 (pl s 1), .int .u64 (pl s 2), .int .u64 (pl s 3), .int .u64 (pl s 4), .int .u64 (pl s 5), .int .u64 (pl s 6), .int .u64 (pl s 7), .int .u8 on], .agg #[.int .u8 K, .int .i64 k, .int .u64 (pl x 0), .int .u64 (pl x 1), .int .u64 (pl x 2), .int .u64 (pl x 3), .int .u64 (pl x 4), .int .u64 (pl x 5), .int .u64 (pl x 6), .int .u64 (pl x 7)]] w fun e w' => e = .returned (.tuple #[.agg #[.int .u64 (pl (s ||| c) 0), .int .u64 (pl (s ||| c) 1), .int .u64 (pl (s ||| c) 2), .int .u64 (pl (s ||| c) 3), .int .u64 (pl (s ||| c) 4), .int .u64 (pl (s ||| c) 5), .int .u64 (pl (s ||| c) 6), .int .u64 (pl (s ||| c) 7), .int .u8 (bits .or .u8 on (2 ^ k))], .int .i64 0]) ∧ Below w.heap.size w w' := by
 go_enter Tryz.func154, Tryz.ntmps154
 go_wp2_with fail
 refine (H104.out _ bel_by).mono ?_
 rintro e w1 ⟨rfl, hb⟩
 have hB : Below w.heap.size w w1 := bel_trans bel_by hb
 have g0 : Blk w1 (w.heap.size) #[.int .u64 (pl b 0), .int .u64 (pl b 1), .int .u64 (pl b 2), .int .u64 (pl b 3), .int .u64 (pl b 4), .int .u64 (pl b 5), .int .u64 (pl b 6), .int .u64 (pl b 7), .slice p n d] 27 := Blk.grow blk_by hb
 have g1 : Blk w1 (w.heap.size + 1) #[.int .u64 (pl s 0), .int .u64 (pl s 1), .int .u64 (pl s 2), .int .u64 (pl s 3), .int .u64 (pl s 4), .int .u64 (pl s 5), .int .u64 (pl s 6), .int .u64 (pl s 7), .int .u8 on] 37 := Blk.grow blk_by hb
 have g2 : Blk w1 (w.heap.size + 1 + 1) #[.int .u8 K, .int .i64 k, .int .u64 (pl x 0), .int .u64 (pl x 1), .int .u64 (pl x 2), .int .u64 (pl x 3), .int .u64 (pl x 4), .int .u64 (pl x 5), .int .u64 (pl x 6), .int .u64 (pl x 7)] 46 := Blk.grow blk_by hb
 have g3 : Blk w1 (w.heap.size + 1 + 1 + 1) #[.int .u64 0, .int .u64 0, .int .u64 0, .int .u64 0, .int .u64 0, .int .u64 0, .int .u64 0, .int .u64 0, .int .u8 0] 37 := Blk.grow blk_by hb
 clear hb
 have c0 := g0.cell
 have l0 := g0.lt
 have c1 := g1.cell
 have l1 := g1.lt
 have c2 := g2.cell
 have l2 := g2.lt
 go_wp2_with fail
 clear c0 l0 c1 l1 c2 l2
 refine (H100.out _ hB).mono ?_
 rintro e w2 ⟨rfl, hb⟩
 have hs1 := g3.lt
 have hs2 := hb.size
 replace hB := bel_trans hB hb
 have hB0 := hB
 replace g0 := g0.grow hb
 replace g1 := g1.grow hb
 replace g2 := g2.grow hb
 replace g3 := g3.grow hb
 clear hb
 have hw8 : IntKind.u8.wrap ((2 : Int) ^ k) = 2 ^ k := by
  obtain rfl | rfl | rfl | rfl | rfl | rfl | rfl | rfl : k = 0 ∨ k = 1 ∨ k = 2 ∨ k = 3 ∨ k = 4 ∨ k = 5 ∨ k = 6 ∨ k = 7 := by omega
  all_goals decide
 have hu : IntKind.u64.wrap (k : Int) = k := by
  obtain rfl | rfl | rfl | rfl | rfl | rfl | rfl | rfl : k = 0 ∨ k = 1 ∨ k = 2 ∨ k = 3 ∨ k = 4 ∨ k = 5 ∨ k = 6 ∨ k = 7 := by omega
  all_goals decide
 have c0 := g0.cell
 have l0 := g0.lt
 have c1 := g1.cell
 have l1 := g1.lt
 have c2 := g2.cell
 have l2 := g2.lt
 go_upto_if 50 with (fail)
 obtain ⟨w3, hw3⟩ : ∃ w3 : World, w3 = w2.alloc (.cells (#[.int .u64 (pl c 0), .int .u64 (pl c 1), .int .u64 (pl c 2), .int .u64 (pl c 3), .int .u64 (pl c 4), .int .u64 (pl c 5), .int .u64 (pl c 6), .int .u64 (pl c 7)] : Array Value) 24) := ⟨_, rfl⟩
 have hbb : Below w2.heap.size w2 w3 := by subst hw3; exact bel_alloc (bel_refl _) _
 have g4 : Blk w3 w2.heap.size #[.int .u64 (pl c 0), .int .u64 (pl c 1), .int .u64 (pl c 2), .int .u64 (pl c 3), .int .u64 (pl c 4), .int .u64 (pl c 5), .int .u64 (pl c 6), .int .u64 (pl c 7)] 24 := by subst hw3; exact Blk.new _ _ _
 rw [← hw3]
 clear hw3 c0 l0 c1 l1 c2 l2
 replace hB := bel_trans hB hbb
 replace g0 := g0.grow hbb
 replace g1 := g1.grow hbb
 replace g2 := g2.grow hbb
 replace g3 := g3.grow hbb
 clear hbb
 have hne4 : w.heap.size + 1 + 1 + 1 < w2.heap.size := by omega
 generalize w2.heap.size = B4 at *
 have c0 := g0.cell
 have l0 := g0.lt
 have c1 := g1.cell
 have l1 := g1.lt
 have c2 := g2.cell
 have l2 := g2.lt
 have c4 := g4.cell
 have l4 := g4.lt
 go_wp2_with fail
 clear c0 l0 c1 l1 c2 l2 c4 l4
 refine (H152.out _ hB).mono ?_
 rintro e w4 ⟨rfl, hb⟩
 replace hB := bel_trans hB hb
 replace g0 := g0.grow hb
 replace g1 := g1.grow hb
 replace g2 := g2.grow hb
 replace g3 := g3.grow hb
 replace g4 := g4.grow hb
 clear hb
 have r1 := g1.row
 have l1 := g1.lt
 have r3 := g3.row
 have l3 := g3.lt
 have c4 := g4.cell
 have l4 := g4.lt
 have n1 : B4 ≠ w.heap.size + 1 := by omega
 have n3 : B4 ≠ w.heap.size + 1 + 1 + 1 := by omega
 have c2 := g2.cell
 have l2 := g2.lt
 rw [← g3.rw, ← g1.rw]
 clear g0 g1 g2 g3 g4
 go_wp2_with fail
 refine wp_loop_rounds 9 ?_
 iterate 8
  rw [rounds_succ]
  go_wp2_with fail
  refine Go.Rel.region_still_tail 10 (by kernel_rfl) (by kernel_rfl) ?_
  simp only [List.take_succ_cons, List.take_zero, List.drop_succ_cons, List.drop_zero]
  repeat still_step
  refine wpStill_nil ?_
  go_wp2_with fail
 rw [rounds_succ]
 go_wp2_with fail
 refine bodyPost_ret (by simp [results, Tryz.results154, go_sem, *]) rfl ⟨rfl, (blw_row (blw_row hB (by omega) _) (by omega) _).drew.drew.drew.drew.drew.drew.drew.drew⟩
set_option maxHeartbeats 8000000 in
theorem refNext_cut (b s c : Sol) (p : Option Addr) (n d K k : Nat) (on : Int) (x : Sol) (w : World) (hk : k < 8) (H104 : Hid (∀ w', Below w.heap.size w w' → Calls Tryz.prog 104 #[.int .i64 n, .agg #[.int .u8 K, .int .i64 k, .int .u64 (pl x 0), .int .u64 (pl x 1), .int .u64 (pl x 2), .int .u64 (pl x 3), .int .u64 (pl x 4), .int .u64 (pl x 5), .int .u64 (pl x 6), .int .u64 (pl x 7)]] w' fun e w'' => e = .returned (.bool true) ∧ Below w'.heap.size w' w'')) (H100 : Hid (∀ w', Below w.heap.size w w' → Calls Tryz.prog 100 #[.agg #[.int .u64 (pl b 0), .int .u64 (pl b 1), .int .u64 (pl b 2), .int .u64 (pl b 3), .int .u64 (pl b 4), .int .u64 (pl b 5), .int .u64 (pl b 6), .int .u64 (pl b 7), .slice p n d], .agg #[.int .u8 K, .int .i64 k, .int .u64 (pl x 0), .int .u64 (pl x 1), .int .u64 (pl x 2), .int .u64 (pl x 3), .int .u64 (pl x 4), .int .u64 (pl x 5), .int .u64 (pl x 6), .int .u64 (pl x 7)]] w' fun e w'' => e = .returned (.agg #[.int .u64 (pl c 0), .int .u64 (pl c 1), .int .u64 (pl c 2), .int .u64 (pl c 3), .int .u64 (pl c 4), .int .u64 (pl c 5), .int .u64 (pl c 6), .int .u64 (pl c 7)]) ∧ Below w'.heap.size w' w'')) (hK : ((K : Int) == 2) = false) (hK3 : ((K : Int) == 3) = false) (h0 : IntKind.u64.wrap (pl s 0 - pl c 0) = pl (s &&& ~~~c) 0) (h1 : IntKind.u64.wrap (pl s 1 - pl c 1) = pl (s &&& ~~~c) 1) (h2 : IntKind.u64.wrap (pl s 2 - pl c 2) = pl (s &&& ~~~c) 2) (h3 : IntKind.u64.wrap (pl s 3 - pl c 3) = pl (s &&& ~~~c) 3) (h4 : IntKind.u64.wrap (pl s 4 - pl c 4) = pl (s &&& ~~~c) 4) (h5 : IntKind.u64.wrap (pl s 5 - pl c 5) = pl (s &&& ~~~c) 5) (h6 : IntKind.u64.wrap (pl s 6 - pl c 6) = pl (s &&& ~~~c) 6) (h7 : IntKind.u64.wrap (pl s 7 - pl c 7) = pl (s &&& ~~~c) 7) (H190 : Hid (∀ w', Below w.heap.size w w' → Calls Tryz.prog 190 #[.agg #[.int .u64 (pl c 0), .int .u64 (pl c 1), .int .u64 (pl c 2), .int .u64 (pl c 3), .int .u64 (pl c 4), .int .u64 (pl c 5), .int .u64 (pl c 6), .int .u64 (pl c 7)], .agg #[.int .u64 (pl s 0), .int .u64 (pl s 1), .int .u64 (pl s 2), .int .u64 (pl s 3), .int .u64 (pl s 4), .int .u64 (pl s 5), .int .u64 (pl s 6), .int .u64 (pl s 7)]] w' fun e w'' => e = .returned (.bool true) ∧ Below w'.heap.size w' w'')) :
  Calls Tryz.prog 154 #[.agg #[.int .u64 (pl b 0), .int .u64 (pl b 1), .int .u64 (pl b 2), .int .u64 (pl b 3), .int .u64 (pl b 4), .int .u64 (pl b 5), .int .u64 (pl b 6), .int .u64 (pl b 7), .slice p n d], .agg #[.int .u64 (pl s 0), .int .u64 (pl s 1), .int .u64 (pl s 2), .int .u64 (pl s 3), .int .u64 (pl s 4), .int .u64 (pl s 5), .int .u64 (pl s 6), .int .u64 (pl s 7), .int .u8 on], .agg #[.int .u8 K, .int .i64 k, .int .u64 (pl x 0), .int .u64 (pl x 1), .int .u64 (pl x 2), .int .u64 (pl x 3), .int .u64 (pl x 4), .int .u64 (pl x 5), .int .u64 (pl x 6), .int .u64 (pl x 7)]] w fun e w' => e = .returned (.tuple #[.agg #[.int .u64 (pl (s &&& ~~~c) 0), .int .u64 (pl (s &&& ~~~c) 1), .int .u64 (pl (s &&& ~~~c) 2), .int .u64 (pl (s &&& ~~~c) 3), .int .u64 (pl (s &&& ~~~c) 4), .int .u64 (pl (s &&& ~~~c) 5), .int .u64 (pl (s &&& ~~~c) 6), .int .u64 (pl (s &&& ~~~c) 7), .int .u8 on], .int .i64 0]) ∧ Below w.heap.size w w' := by
 go_enter Tryz.func154, Tryz.ntmps154
 go_wp2_with fail
 refine (H104.out _ bel_by).mono ?_
 rintro e w1 ⟨rfl, hb⟩
 have hB : Below w.heap.size w w1 := bel_trans bel_by hb
 have g0 : Blk w1 (w.heap.size) #[.int .u64 (pl b 0), .int .u64 (pl b 1), .int .u64 (pl b 2), .int .u64 (pl b 3), .int .u64 (pl b 4), .int .u64 (pl b 5), .int .u64 (pl b 6), .int .u64 (pl b 7), .slice p n d] 27 := Blk.grow blk_by hb
 have g1 : Blk w1 (w.heap.size + 1) #[.int .u64 (pl s 0), .int .u64 (pl s 1), .int .u64 (pl s 2), .int .u64 (pl s 3), .int .u64 (pl s 4), .int .u64 (pl s 5), .int .u64 (pl s 6), .int .u64 (pl s 7), .int .u8 on] 37 := Blk.grow blk_by hb
 have g2 : Blk w1 (w.heap.size + 1 + 1) #[.int .u8 K, .int .i64 k, .int .u64 (pl x 0), .int .u64 (pl x 1), .int .u64 (pl x 2), .int .u64 (pl x 3), .int .u64 (pl x 4), .int .u64 (pl x 5), .int .u64 (pl x 6), .int .u64 (pl x 7)] 46 := Blk.grow blk_by hb
 have g3 : Blk w1 (w.heap.size + 1 + 1 + 1) #[.int .u64 0, .int .u64 0, .int .u64 0, .int .u64 0, .int .u64 0, .int .u64 0, .int .u64 0, .int .u64 0, .int .u8 0] 37 := Blk.grow blk_by hb
 clear hb
 have c0 := g0.cell
 have l0 := g0.lt
 have c1 := g1.cell
 have l1 := g1.lt
 have c2 := g2.cell
 have l2 := g2.lt
 go_wp2_with fail
 clear c0 l0 c1 l1 c2 l2
 refine (H100.out _ hB).mono ?_
 rintro e w2 ⟨rfl, hb⟩
 have hs1 := g3.lt
 have hs2 := hb.size
 replace hB := bel_trans hB hb
 have hB0 := hB
 replace g0 := g0.grow hb
 replace g1 := g1.grow hb
 replace g2 := g2.grow hb
 replace g3 := g3.grow hb
 clear hb
 have hw8 : IntKind.u8.wrap ((2 : Int) ^ k) = 2 ^ k := by
  obtain rfl | rfl | rfl | rfl | rfl | rfl | rfl | rfl : k = 0 ∨ k = 1 ∨ k = 2 ∨ k = 3 ∨ k = 4 ∨ k = 5 ∨ k = 6 ∨ k = 7 := by omega
  all_goals decide
 have hu : IntKind.u64.wrap (k : Int) = k := by
  obtain rfl | rfl | rfl | rfl | rfl | rfl | rfl | rfl : k = 0 ∨ k = 1 ∨ k = 2 ∨ k = 3 ∨ k = 4 ∨ k = 5 ∨ k = 6 ∨ k = 7 := by omega
  all_goals decide
 have c0 := g0.cell
 have l0 := g0.lt
 have c1 := g1.cell
 have l1 := g1.lt
 have c2 := g2.cell
 have l2 := g2.lt
 go_upto_if 50 with (fail)
 obtain ⟨w3, hw3⟩ : ∃ w3 : World, w3 = w2.alloc (.cells (#[.int .u64 (pl c 0), .int .u64 (pl c 1), .int .u64 (pl c 2), .int .u64 (pl c 3), .int .u64 (pl c 4), .int .u64 (pl c 5), .int .u64 (pl c 6), .int .u64 (pl c 7)] : Array Value) 24) := ⟨_, rfl⟩
 have hbb : Below w2.heap.size w2 w3 := by subst hw3; exact bel_alloc (bel_refl _) _
 have g4 : Blk w3 w2.heap.size #[.int .u64 (pl c 0), .int .u64 (pl c 1), .int .u64 (pl c 2), .int .u64 (pl c 3), .int .u64 (pl c 4), .int .u64 (pl c 5), .int .u64 (pl c 6), .int .u64 (pl c 7)] 24 := by subst hw3; exact Blk.new _ _ _
 rw [← hw3]
 clear hw3 c0 l0 c1 l1 c2 l2
 replace hB := bel_trans hB hbb
 replace g0 := g0.grow hbb
 replace g1 := g1.grow hbb
 replace g2 := g2.grow hbb
 replace g3 := g3.grow hbb
 clear hbb
 have hne4 : w.heap.size + 1 + 1 + 1 < w2.heap.size := by omega
 generalize w2.heap.size = B4 at *
 have c0 := g0.cell
 have l0 := g0.lt
 have c1 := g1.cell
 have l1 := g1.lt
 have c2 := g2.cell
 have l2 := g2.lt
 have c4 := g4.cell
 have l4 := g4.lt
 go_wp2_with fail
 clear c0 l0 c1 l1 c2 l2 c4 l4
 refine (H190.out _ hB).mono ?_
 rintro e w4 ⟨rfl, hb⟩
 replace hB := bel_trans hB hb
 replace g0 := g0.grow hb
 replace g1 := g1.grow hb
 replace g2 := g2.grow hb
 replace g3 := g3.grow hb
 replace g4 := g4.grow hb
 clear hb
 have r1 := g1.row
 have l1 := g1.lt
 have r3 := g3.row
 have l3 := g3.lt
 have c4 := g4.cell
 have l4 := g4.lt
 have n1 : B4 ≠ w.heap.size + 1 := by omega
 have n3 : B4 ≠ w.heap.size + 1 + 1 + 1 := by omega
 have c2 := g2.cell
 have l2 := g2.lt
 rw [← g3.rw, ← g1.rw]
 clear g0 g1 g2 g3 g4
 go_wp2_with fail
 refine wp_loop_rounds 9 ?_
 iterate 8
  rw [rounds_succ]
  go_wp2_with fail
  refine Go.Rel.region_still_tail 10 (by kernel_rfl) (by kernel_rfl) ?_
  simp only [List.take_succ_cons, List.take_zero, List.drop_succ_cons, List.drop_zero]
  repeat still_step
  refine wpStill_nil ?_
  go_wp2_with fail
 rw [rounds_succ]
 go_wp2_with fail
 refine bodyPost_ret (by simp [results, Tryz.results154, go_sem, *]) rfl ⟨rfl, (blw_row (blw_row hB (by omega) _) (by omega) _).drew.drew.drew.drew.drew.drew.drew.drew⟩
set_option maxHeartbeats 8000000 in
theorem refNext_take (b s c : Sol) (p : Option Addr) (n d K k : Nat) (on : Int) (x : Sol) (w : World) (hk : k < 8) (H104 : Hid (∀ w', Below w.heap.size w w' → Calls Tryz.prog 104 #[.int .i64 n, .agg #[.int .u8 K, .int .i64 k, .int .u64 (pl x 0), .int .u64 (pl x 1), .int .u64 (pl x 2), .int .u64 (pl x 3), .int .u64 (pl x 4), .int .u64 (pl x 5), .int .u64 (pl x 6), .int .u64 (pl x 7)]] w' fun e w'' => e = .returned (.bool true) ∧ Below w'.heap.size w' w'')) (H100 : Hid (∀ w', Below w.heap.size w w' → Calls Tryz.prog 100 #[.agg #[.int .u64 (pl b 0), .int .u64 (pl b 1), .int .u64 (pl b 2), .int .u64 (pl b 3), .int .u64 (pl b 4), .int .u64 (pl b 5), .int .u64 (pl b 6), .int .u64 (pl b 7), .slice p n d], .agg #[.int .u8 K, .int .i64 k, .int .u64 (pl x 0), .int .u64 (pl x 1), .int .u64 (pl x 2), .int .u64 (pl x 3), .int .u64 (pl x 4), .int .u64 (pl x 5), .int .u64 (pl x 6), .int .u64 (pl x 7)]] w' fun e w'' => e = .returned (.agg #[.int .u64 (pl c 0), .int .u64 (pl c 1), .int .u64 (pl c 2), .int .u64 (pl c 3), .int .u64 (pl c 4), .int .u64 (pl c 5), .int .u64 (pl c 6), .int .u64 (pl c 7)]) ∧ Below w'.heap.size w' w'')) (hK : ((K : Int) == 2) = false) (hK3 : ((K : Int) == 3) = true) (hon : (bits .and .u8 on (2 ^ k) == 0) = false) (h0 : IntKind.u64.wrap (pl s 0 - pl c 0) = pl (s &&& ~~~c) 0) (h1 : IntKind.u64.wrap (pl s 1 - pl c 1) = pl (s &&& ~~~c) 1) (h2 : IntKind.u64.wrap (pl s 2 - pl c 2) = pl (s &&& ~~~c) 2) (h3 : IntKind.u64.wrap (pl s 3 - pl c 3) = pl (s &&& ~~~c) 3) (h4 : IntKind.u64.wrap (pl s 4 - pl c 4) = pl (s &&& ~~~c) 4) (h5 : IntKind.u64.wrap (pl s 5 - pl c 5) = pl (s &&& ~~~c) 5) (h6 : IntKind.u64.wrap (pl s 6 - pl c 6) = pl (s &&& ~~~c) 6) (h7 : IntKind.u64.wrap (pl s 7 - pl c 7) = pl (s &&& ~~~c) 7) (hbit : IntKind.u8.wrap (on - 2 ^ k) = bits .andNot .u8 on (2 ^ k)) (H190 : Hid (∀ w', Below w.heap.size w w' → Calls Tryz.prog 190 #[.agg #[.int .u64 (pl c 0), .int .u64 (pl c 1), .int .u64 (pl c 2), .int .u64 (pl c 3), .int .u64 (pl c 4), .int .u64 (pl c 5), .int .u64 (pl c 6), .int .u64 (pl c 7)], .agg #[.int .u64 (pl s 0), .int .u64 (pl s 1), .int .u64 (pl s 2), .int .u64 (pl s 3), .int .u64 (pl s 4), .int .u64 (pl s 5), .int .u64 (pl s 6), .int .u64 (pl s 7)]] w' fun e w'' => e = .returned (.bool true) ∧ Below w'.heap.size w' w'')) :
  Calls Tryz.prog 154 #[.agg #[.int .u64 (pl b 0), .int .u64 (pl b 1), .int .u64 (pl b 2), .int .u64 (pl b 3), .int .u64 (pl b 4), .int .u64 (pl b 5), .int .u64 (pl b 6), .int .u64 (pl b 7), .slice p n d], .agg #[.int .u64 (pl s 0), .int .u64 (pl s 1), .int .u64 (pl s 2), .int .u64 (pl s 3), .int .u64 (pl s 4), .int .u64 (pl s 5), .int .u64 (pl s 6), .int .u64 (pl s 7), .int .u8 on], .agg #[.int .u8 K, .int .i64 k, .int .u64 (pl x 0), .int .u64 (pl x 1), .int .u64 (pl x 2), .int .u64 (pl x 3), .int .u64 (pl x 4), .int .u64 (pl x 5), .int .u64 (pl x 6), .int .u64 (pl x 7)]] w fun e w' => e = .returned (.tuple #[.agg #[.int .u64 (pl (s &&& ~~~c) 0), .int .u64 (pl (s &&& ~~~c) 1), .int .u64 (pl (s &&& ~~~c) 2), .int .u64 (pl (s &&& ~~~c) 3), .int .u64 (pl (s &&& ~~~c) 4), .int .u64 (pl (s &&& ~~~c) 5), .int .u64 (pl (s &&& ~~~c) 6), .int .u64 (pl (s &&& ~~~c) 7), .int .u8 (bits .andNot .u8 on (2 ^ k))], .int .i64 0]) ∧ Below w.heap.size w w' := by
 go_enter Tryz.func154, Tryz.ntmps154
 go_wp2_with fail
 refine (H104.out _ bel_by).mono ?_
 rintro e w1 ⟨rfl, hb⟩
 have hB : Below w.heap.size w w1 := bel_trans bel_by hb
 have g0 : Blk w1 (w.heap.size) #[.int .u64 (pl b 0), .int .u64 (pl b 1), .int .u64 (pl b 2), .int .u64 (pl b 3), .int .u64 (pl b 4), .int .u64 (pl b 5), .int .u64 (pl b 6), .int .u64 (pl b 7), .slice p n d] 27 := Blk.grow blk_by hb
 have g1 : Blk w1 (w.heap.size + 1) #[.int .u64 (pl s 0), .int .u64 (pl s 1), .int .u64 (pl s 2), .int .u64 (pl s 3), .int .u64 (pl s 4), .int .u64 (pl s 5), .int .u64 (pl s 6), .int .u64 (pl s 7), .int .u8 on] 37 := Blk.grow blk_by hb
 have g2 : Blk w1 (w.heap.size + 1 + 1) #[.int .u8 K, .int .i64 k, .int .u64 (pl x 0), .int .u64 (pl x 1), .int .u64 (pl x 2), .int .u64 (pl x 3), .int .u64 (pl x 4), .int .u64 (pl x 5), .int .u64 (pl x 6), .int .u64 (pl x 7)] 46 := Blk.grow blk_by hb
 have g3 : Blk w1 (w.heap.size + 1 + 1 + 1) #[.int .u64 0, .int .u64 0, .int .u64 0, .int .u64 0, .int .u64 0, .int .u64 0, .int .u64 0, .int .u64 0, .int .u8 0] 37 := Blk.grow blk_by hb
 clear hb
 have c0 := g0.cell
 have l0 := g0.lt
 have c1 := g1.cell
 have l1 := g1.lt
 have c2 := g2.cell
 have l2 := g2.lt
 go_wp2_with fail
 clear c0 l0 c1 l1 c2 l2
 refine (H100.out _ hB).mono ?_
 rintro e w2 ⟨rfl, hb⟩
 have hs1 := g3.lt
 have hs2 := hb.size
 replace hB := bel_trans hB hb
 have hB0 := hB
 replace g0 := g0.grow hb
 replace g1 := g1.grow hb
 replace g2 := g2.grow hb
 replace g3 := g3.grow hb
 clear hb
 have hw8 : IntKind.u8.wrap ((2 : Int) ^ k) = 2 ^ k := by
  obtain rfl | rfl | rfl | rfl | rfl | rfl | rfl | rfl : k = 0 ∨ k = 1 ∨ k = 2 ∨ k = 3 ∨ k = 4 ∨ k = 5 ∨ k = 6 ∨ k = 7 := by omega
  all_goals decide
 have hu : IntKind.u64.wrap (k : Int) = k := by
  obtain rfl | rfl | rfl | rfl | rfl | rfl | rfl | rfl : k = 0 ∨ k = 1 ∨ k = 2 ∨ k = 3 ∨ k = 4 ∨ k = 5 ∨ k = 6 ∨ k = 7 := by omega
  all_goals decide
 have c0 := g0.cell
 have l0 := g0.lt
 have c1 := g1.cell
 have l1 := g1.lt
 have c2 := g2.cell
 have l2 := g2.lt
 go_upto_if 50 with (fail)
 obtain ⟨w3, hw3⟩ : ∃ w3 : World, w3 = w2.alloc (.cells (#[.int .u64 (pl c 0), .int .u64 (pl c 1), .int .u64 (pl c 2), .int .u64 (pl c 3), .int .u64 (pl c 4), .int .u64 (pl c 5), .int .u64 (pl c 6), .int .u64 (pl c 7)] : Array Value) 24) := ⟨_, rfl⟩
 have hbb : Below w2.heap.size w2 w3 := by subst hw3; exact bel_alloc (bel_refl _) _
 have g4 : Blk w3 w2.heap.size #[.int .u64 (pl c 0), .int .u64 (pl c 1), .int .u64 (pl c 2), .int .u64 (pl c 3), .int .u64 (pl c 4), .int .u64 (pl c 5), .int .u64 (pl c 6), .int .u64 (pl c 7)] 24 := by subst hw3; exact Blk.new _ _ _
 rw [← hw3]
 clear hw3 c0 l0 c1 l1 c2 l2
 replace hB := bel_trans hB hbb
 replace g0 := g0.grow hbb
 replace g1 := g1.grow hbb
 replace g2 := g2.grow hbb
 replace g3 := g3.grow hbb
 clear hbb
 have hne4 : w.heap.size + 1 + 1 + 1 < w2.heap.size := by omega
 generalize w2.heap.size = B4 at *
 have c0 := g0.cell
 have l0 := g0.lt
 have c1 := g1.cell
 have l1 := g1.lt
 have c2 := g2.cell
 have l2 := g2.lt
 have c4 := g4.cell
 have l4 := g4.lt
 go_wp2_with fail
 clear c0 l0 c1 l1 c2 l2 c4 l4
 refine (H190.out _ hB).mono ?_
 rintro e w4 ⟨rfl, hb⟩
 replace hB := bel_trans hB hb
 replace g0 := g0.grow hb
 replace g1 := g1.grow hb
 replace g2 := g2.grow hb
 replace g3 := g3.grow hb
 replace g4 := g4.grow hb
 clear hb
 have r1 := g1.row
 have l1 := g1.lt
 have r3 := g3.row
 have l3 := g3.lt
 have c4 := g4.cell
 have l4 := g4.lt
 have n1 : B4 ≠ w.heap.size + 1 := by omega
 have n3 : B4 ≠ w.heap.size + 1 + 1 + 1 := by omega
 have c2 := g2.cell
 have l2 := g2.lt
 rw [← g3.rw, ← g1.rw]
 clear g0 g1 g2 g3 g4
 go_wp2_with fail
 refine wp_loop_rounds 9 ?_
 iterate 8
  rw [rounds_succ]
  go_wp2_with fail
  refine Go.Rel.region_still_tail 10 (by kernel_rfl) (by kernel_rfl) ?_
  simp only [List.take_succ_cons, List.take_zero, List.drop_succ_cons, List.drop_zero]
  repeat still_step
  refine wpStill_nil ?_
  go_wp2_with fail
 rw [rounds_succ]
 go_wp2_with fail
 refine bodyPost_ret (by simp [results, Tryz.results154, go_sem, *]) rfl ⟨rfl, (blw_row (blw_row hB (by omega) _) (by omega) _).drew.drew.drew.drew.drew.drew.drew.drew⟩
end Go.Proofs.YtccnkebkgegohaaGreatDoor
end
section
namespace Go.Proofs.YtccnkebkgegohaaGreatDoor
open Go.RowKit Go.Rel
set_option maxRecDepth 100000
/-! next, of the reference: one form -/
theorem sub_pl {s c : Sol} (h : c &&& s = c) (i : Nat) (hi : i < 8) : IntKind.u64.wrap (pl s i - pl c i) = pl (s &&& ~~~c) i := by
 have h2 : plv c i &&& plv s i = plv c i := by rw [← plv_and, h]
 unfold pl
 rw [plv_andNot s c i hi]
 generalize plv s i = x at h2 ⊢
 generalize plv c i = y at h2 ⊢
 have e : (x &&& ~~~y) + y = x := by
  rw [BitVec.add_eq_or_of_and_eq_zero]
  ·apply BitVec.eq_of_getLsbD_eq
   intro j hj
   rw [BitVec.getLsbD_or, BitVec.getLsbD_and, not_lsb _ hj]
   have := bv_sub.1 h2 j
   revert this
   cases y.getLsbD j <;> cases x.getLsbD j <;> simp
  ·apply BitVec.eq_of_getLsbD_eq
   intro j hj
   rw [BitVec.getLsbD_and, BitVec.getLsbD_and, not_lsb _ hj]
   cases y.getLsbD j <;> cases x.getLsbD j <;> simp
 have e2 := congrArg BitVec.toNat e
 rw [BitVec.toNat_add] at e2
 have l1 := (x &&& ~~~y).isLt
 have l2 := y.isLt
 have l3 := x.isLt
 simp only [IntKind.wrap, IntKind.bits, IntKind.signed, Bool.false_and, Bool.false_eq_true, if_false]
 omega
theorem sub_bit : ∀ (p : Fin 8) (o : BitVec 8), o &&& BitVec.ofInt 8 (2 ^ p.1) ≠ 0 → IntKind.u8.wrap ((o.toNat : Int) - 2 ^ p.1) = ((o &&& ~~~BitVec.ofInt 8 (2 ^ p.1)).toNat : Int) := by decide +kernel
def nxtE (l : List Sol) (s : StB) (a : Ac) : Int := match nextM l (upI s) a with
 | .inl e => e
 | .inr _ => 0
theorem nxtE_some {l : List Sol} {s t : StB} {a : Ac} (h : stB l s a = some t) : nxtE l s a = 0 := by unfold nxtE; rw [(next_B l s a).1 t h]
theorem bz (v : BitVec 8) : ((v.toNat : Int) = 0) ↔ v = 0 := by
 constructor
 ·intro h; apply BitVec.eq_of_toNat_eq; simpa using h
 ·intro h; subst h; rfl
theorem refNext_spec (b : Sol) (v : Value) (l : List Sol) (a : Ac) (s : StB) (w : World) (H : SlS w v l) (h8 : l.length ≤ 8) (T : StB) (hT : (stB l s a).getD s = T) :
  Calls Tryz.prog 154 #[.agg #[.int .u64 (pl b 0), .int .u64 (pl b 1), .int .u64 (pl b 2), .int .u64 (pl b 3), .int .u64 (pl b 4), .int .u64 (pl b 5), .int .u64 (pl b 6), .int .u64 (pl b 7), v], .agg #[.int .u64 (pl s.1 0), .int .u64 (pl s.1 1), .int .u64 (pl s.1 2), .int .u64 (pl s.1 3), .int .u64 (pl s.1 4), .int .u64 (pl s.1 5), .int .u64 (pl s.1 6), .int .u64 (pl s.1 7), .int .u8 (s.2.toNat : Int)], .agg #[.int .u8 a.1, .int .i64 a.2.1, .int .u64 (pl a.2.2 0), .int .u64 (pl a.2.2 1), .int .u64 (pl a.2.2 2), .int .u64 (pl a.2.2 3), .int .u64 (pl a.2.2 4), .int .u64 (pl a.2.2 5), .int .u64 (pl a.2.2 6), .int .u64 (pl a.2.2 7)]] w fun e w' => e = .returned (.tuple #[.agg #[.int .u64 (pl T.1 0), .int .u64 (pl T.1 1), .int .u64 (pl T.1 2), .int .u64 (pl T.1 3), .int .u64 (pl T.1 4), .int .u64 (pl T.1 5), .int .u64 (pl T.1 6), .int .u64 (pl T.1 7), .int .u8 ((T.2.toNat : Nat) : Int)], .int .i64 (nxtE l s a)]) ∧ Below w.heap.size w w' := by
 subst hT
 have H' := H
 obtain ⟨p, d, rfl, _, _⟩ := H'
 have hl : (l.map solL).length = l.length := List.length_map ..
 obtain ⟨K, P, x⟩ := a
 obtain ⟨wd, o⟩ := s
 by_cases hf : fits l.length (K, P, x) = true
 ·have hP : ∃ k : Nat, k < 8 ∧ P = (k : Int) := by
   unfold fits at hf
   split at hf
   ·simp only [Bool.and_eq_true, beq_iff_eq] at hf
    exact ⟨0, by omega, hf.1⟩
   ·simp only [Bool.and_eq_true, beq_iff_eq, decide_eq_true_eq] at hf
    exact ⟨P.toNat, by omega, by omega⟩
  obtain ⟨k, hk, rfl⟩ := hP
  have H104 : Hid (∀ w', Below w.heap.size w w' → Calls Tryz.prog 104 #[.int .i64 ((l.map solL).length : Nat), .agg #[.int .u8 K, .int .i64 k, .int .u64 (pl x 0), .int .u64 (pl x 1), .int .u64 (pl x 2), .int .u64 (pl x 3), .int .u64 (pl x 4), .int .u64 (pl x 5), .int .u64 (pl x 6), .int .u64 (pl x 7)]] w' fun e w'' => e = .returned (.bool true) ∧ Below w'.heap.size w' w'') := Lib.hid fun w' _ => by
   have := refFits_spec (l.map solL).length (K, (k : Int), x) w'
   rw [hl, hf] at this
   rw [hl]
   exact this
  have H100 : Hid (∀ w', Below w.heap.size w w' → Calls Tryz.prog 100 #[.agg #[.int .u64 (pl b 0), .int .u64 (pl b 1), .int .u64 (pl b 2), .int .u64 (pl b 3), .int .u64 (pl b 4), .int .u64 (pl b 5), .int .u64 (pl b 6), .int .u64 (pl b 7), .slice p (l.map solL).length d], .agg #[.int .u8 K, .int .i64 k, .int .u64 (pl x 0), .int .u64 (pl x 1), .int .u64 (pl x 2), .int .u64 (pl x 3), .int .u64 (pl x 4), .int .u64 (pl x 5), .int .u64 (pl x 6), .int .u64 (pl x 7)]] w' fun e w'' => e = .returned (solV (acCells l (K, (k : Int), x))) ∧ Below w'.heap.size w' w'') := Lib.hid fun w' hb => refCells_spec b _ l (K, (k : Int), x) w' (H.mono hb) hf
  have hbit : bitOf (k : Int) = 2 ^ k := by unfold bitOf; simp
  have hB : bitB (K, (k : Int), x) = BitVec.ofInt 8 (2 ^ k) := by unfold bitB; rw [show (K, (k : Int), x).2.1 = (k : Int) from rfl, hbit]
  have hand : bits .and .u8 (o.toNat : Int) (2 ^ k) = ((o &&& bitB (K, (k : Int), x)).toNat : Int) := by rw [bits8, ofInt_toNat, hB]
  have hor : bits .or .u8 (o.toNat : Int) (2 ^ k) = ((o ||| bitB (K, (k : Int), x)).toNat : Int) := by rw [bits8, ofInt_toNat, hB]
  have hnot : bits .andNot .u8 (o.toNat : Int) (2 ^ k) = ((o &&& ~~~bitB (K, (k : Int), x)).toNat : Int) := by rw [bits8, ofInt_toNat, hB]
  have H152 := fun r (hr : meetsB (acCells l (K, (k : Int), x)) wd = r) => (Lib.hid fun w' (_ : Below w.heap.size w w') => hr ▸ refMeet_spec (acCells l (K, (k : Int), x)) wd w' : Hid (∀ w', Below w.heap.size w w' → Calls Tryz.prog 152 #[solV (acCells l (K, (k : Int), x)), solV wd] w' fun e w'' => e = .returned (.bool r) ∧ Below w'.heap.size w' w''))
  have H190 := fun r (hr : (acCells l (K, (k : Int), x) &&& wd == acCells l (K, (k : Int), x)) = r) => (Lib.hid fun w' (_ : Below w.heap.size w w') => hr ▸ refInside_spec (acCells l (K, (k : Int), x)) wd w' : Hid (∀ w', Below w.heap.size w w' → Calls Tryz.prog 190 #[solV (acCells l (K, (k : Int), x)), solV wd] w' fun e w'' => e = .returned (.bool r) ∧ Below w'.heap.size w' w''))
  have hnx : nxtE l (wd, o) (K, (k : Int), x) = refM (made l (K, (k : Int), x)) (upI (wd, o)) := by
   unfold nxtE nextM
   rw [if_pos hf]
   split
   ·next e he =>
    split at he
    ·cases he
    ·exact (Sum.inl.inj he).symm
   ·next t he =>
    split at he
    ·next h0 => exact h0.symm
    ·cases he
  rcases fits_kindA hf with h1 | h1 | h1
  ·simp only at h1
   subst h1
   have hm : made l (1, (k : Int), x) = (1, 0, acCells l (1, (k : Int), x)) := rfl
   rw [hnx, hm, show upI (wd, o) = (wd, (o.toNat : Int)) from rfl, refM1, stB_cut hf rfl]
   by_cases hc : acCells l (1, (k : Int), x) &&& wd = acCells l (1, (k : Int), x)
   ·rw [if_pos hc, if_pos hc]
    exact refNext_cut b wd _ p _ d 1 k _ x w hk H104 H100 (by decide) (by decide) (sub_pl hc 0 (by omega)) (sub_pl hc 1 (by omega)) (sub_pl hc 2 (by omega)) (sub_pl hc 3 (by omega)) (sub_pl hc 4 (by omega)) (sub_pl hc 5 (by omega)) (sub_pl hc 6 (by omega)) (sub_pl hc 7 (by omega)) (H190 true (by simpa using hc))
   ·rw [if_neg hc, if_neg hc]
    exact refNext_cut1 b wd _ p _ d 1 k _ x w hk H104 H100 (by decide) (by decide) (H190 false (by simpa using hc))
  ·simp only at h1
   subst h1
   have hm : made l (2, (k : Int), x) = (2, 2 ^ k, acCells l (2, (k : Int), x)) := by unfold made; simp only; rw [if_neg (by decide), hbit]
   rw [hnx, hm, show upI (wd, o) = (wd, (o.toNat : Int)) from rfl, refM2, stB_fit hf rfl, hand]
   by_cases h2 : o &&& bitB (2, (k : Int), x) = 0
   ·rw [if_pos ((bz _).2 h2)]
    have hon : (bits .and .u8 (o.toNat : Int) (2 ^ k) != 0) = false := by rw [hand, (bz _).2 h2]; rfl
    by_cases h3 : acCells l (2, (k : Int), x) &&& wd = 0
    ·rw [if_pos h3, if_pos ⟨h2, h3⟩]
     have := refNext_fit b wd _ p _ d 2 k _ x w hk H104 H100 (by decide) (by decide) hon (H152 false (by unfold meetsB; rw [Bool.not_eq_false', beq_iff_eq]; exact h3))
     rw [hor] at this
     exact this
    ·rw [if_neg h3, if_neg (fun h => h3 h.2)]
     exact refNext_place b wd _ p _ d 2 k _ x w hk H104 H100 (by decide) (by decide) hon (H152 true (by unfold meetsB; rw [Bool.not_eq_true', beq_eq_false_iff_ne]; exact h3))
   ·rw [if_neg (fun h => h2 ((bz _).1 h)), if_neg (fun h => h2 h.1)]
    exact refNext_piece2 b wd _ p _ d 2 k _ x w hk H104 H100 (by decide) (by decide) (by rw [hand, bne_iff_ne]; exact fun h => h2 ((bz _).1 h))
  ·simp only at h1
   subst h1
   have hm : made l (3, (k : Int), x) = (3, 2 ^ k, acCells l (3, (k : Int), x)) := by unfold made; simp only; rw [if_neg (by decide), hbit]
   rw [hnx, hm, show upI (wd, o) = (wd, (o.toNat : Int)) from rfl, refM3 3 (by decide) (by decide), stB_take hf rfl, hand]
   by_cases h2 : o &&& bitB (3, (k : Int), x) = 0
   ·rw [if_pos ((bz _).2 h2), if_neg (fun h => h.1 h2)]
    exact refNext_piece3 b wd _ p _ d 3 k _ x w hk H104 H100 (by decide) (by decide) (by rw [hand, (bz _).2 h2]; rfl)
   ·have hon : (bits .and .u8 (o.toNat : Int) (2 ^ k) == 0) = false := by rw [hand, beq_eq_false_iff_ne]; exact fun h => h2 ((bz _).1 h)
    rw [if_neg (fun h => h2 ((bz _).1 h))]
    by_cases h3 : acCells l (3, (k : Int), x) &&& wd = acCells l (3, (k : Int), x)
    ·rw [if_pos h3, if_pos ⟨h2, h3⟩]
     have := refNext_take b wd _ p _ d 3 k _ x w hk H104 H100 (by decide) (by decide) hon (sub_pl h3 0 (by omega)) (sub_pl h3 1 (by omega)) (sub_pl h3 2 (by omega)) (sub_pl h3 3 (by omega)) (sub_pl h3 4 (by omega)) (sub_pl h3 5 (by omega)) (sub_pl h3 6 (by omega)) (sub_pl h3 7 (by omega)) (by
      rw [hnot, hB]
      exact sub_bit ⟨k, hk⟩ o (by rw [← hB]; exact h2)) (H190 true (by simpa using h3))
     rw [hnot] at this
     exact this
    ·rw [if_neg h3, if_neg (fun h => h3 h.2)]
     exact refNext_cut3 b wd _ p _ d 3 k _ x w hk H104 H100 (by decide) (by decide) hon (H190 false (by simpa using h3))
 ·have hst : stB l (wd, o) (K, P, x) = none := by unfold stB; rw [if_neg hf]
  have hn : nxtE l (wd, o) (K, P, x) = 1 := by unfold nxtE nextM; rw [if_neg hf]
  rw [hst, hn]
  exact refNext_unfit b wd 0 p _ d K 0 _ x w P (Lib.hid fun w' _ => by
   have := refFits_spec (l.map solL).length (K, P, x) w'
   rw [hl, Bool.eq_false_iff.2 hf] at this
   rw [hl]
   exact this)
end Go.Proofs.YtccnkebkgegohaaGreatDoor
end
