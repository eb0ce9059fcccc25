import Derived.Test.YtccnkebkgegohaaGreatDoorHY1
import Derived.Deep.Cut
/-
  Given contracts of functions of the program, and laws for them, one behind the other.
-/
set_option linter.unusedVariables false
set_option linter.unusedSimpArgs false
set_option linter.unusedSectionVars false
section
namespace Go.Proofs.YtccnkebkgegohaaGreatDoor
open Go.RowKit Go.Rel
set_option maxRecDepth 100000
/-! Merge, Conflict -/
section
variable {b : Sol} {l : List Sol} {g h : List Ac} {t u : StB} {v av v2 av2 : Value}
def confV (x : Option (Ac × Ac)) : Ac × Ac × Bool := match x with
 | some (a, b) => (a, b, true)
 | none => ((0, 0, 0), (0, 0, 0), false)
structure TwoB (b1 b2 : Nat) (x y : Ac) (W : World) : Prop where
 p : Blk W b1 (acA x) 46
 q : Blk W b2 (acA y) 46
theorem TwoB.grow {b1 b2 : Nat} {x y : Ac} {W W' : World} (H : TwoB b1 b2 x y W) (hb : Below W.heap.size W W') : TwoB b1 b2 x y W' := ⟨H.p.grow hb, H.q.grow hb⟩
end
end Go.Proofs.YtccnkebkgegohaaGreatDoor
end
section
namespace Go.Proofs.YtccnkebkgegohaaGreatDoor
open Go.RowKit Go.Rel
set_option maxRecDepth 100000
/-- a world that grew by what a walk lays: found by its form -/
class BelI (w0 w : World) : Prop where
 out : Below w0.heap.size w0 w
instance (w : World) : BelI w w := ⟨bel_refl w⟩
instance (w0 w : World) [h : BelI w0 w] (o : Obj) : BelI w0 (w.alloc o) := ⟨bel_alloc h.out o⟩
instance (w0 w : World) [h : BelI w0 w] : BelI w0 w.drew := ⟨bel_drew h.out⟩
instance (w0 w : World) [h : BelI w0 w] (n : Nat) : BelI w0 (w.drewN n) := ⟨bel_drewN h.out n⟩
theorem bni {w0 w : World} [h : BelI w0 w] : Below w0.heap.size w0 w := h.out
end Go.Proofs.YtccnkebkgegohaaGreatDoor
end
section
namespace Go.Proofs.YtccnkebkgegohaaGreatDoor
open Go.RowKit Go.Rel
set_option maxRecDepth 100000
/-! next, of the reference -/
set_option maxHeartbeats 8000000 in
theorem refNext_unfit (b s c : Sol) (p : Option Addr) (n d K k : Nat) (on : Int) (x : Sol) (w : World) (P : Int) (H104 : Hid (∀ w', Below w.heap.size w w' → Calls Tryz.prog 104 #[.int .i64 n, .agg #[.int .u8 K, .int .i64 P, .int .u64 (pl x 0), .int .u64 (pl x 1), .int .u64 (pl x 2), .int .u64 (pl x 3), .int .u64 (pl x 4), .int .u64 (pl x 5), .int .u64 (pl x 6), .int .u64 (pl x 7)]] w' fun e w'' => e = .returned (.bool false) ∧ Below w'.heap.size w' w'')) :
  Calls Tryz.prog 154 #[.agg #[.int .u64 (pl b 0), .int .u64 (pl b 1), .int .u64 (pl b 2), .int .u64 (pl b 3), .int .u64 (pl b 4), .int .u64 (pl b 5), .int .u64 (pl b 6), .int .u64 (pl b 7), .slice p n d], .agg #[.int .u64 (pl s 0), .int .u64 (pl s 1), .int .u64 (pl s 2), .int .u64 (pl s 3), .int .u64 (pl s 4), .int .u64 (pl s 5), .int .u64 (pl s 6), .int .u64 (pl s 7), .int .u8 on], .agg #[.int .u8 K, .int .i64 P, .int .u64 (pl x 0), .int .u64 (pl x 1), .int .u64 (pl x 2), .int .u64 (pl x 3), .int .u64 (pl x 4), .int .u64 (pl x 5), .int .u64 (pl x 6), .int .u64 (pl x 7)]] w fun e w' => e = .returned (.tuple #[.agg #[.int .u64 (pl s 0), .int .u64 (pl s 1), .int .u64 (pl s 2), .int .u64 (pl s 3), .int .u64 (pl s 4), .int .u64 (pl s 5), .int .u64 (pl s 6), .int .u64 (pl s 7), .int .u8 on], .int .i64 1]) ∧ Below w.heap.size w w' := by
 go_enter Tryz.func154, Tryz.ntmps154
 go_wp2_with fail
 refine (H104.out _ bel_by).mono ?_
 rintro e w1 ⟨rfl, hb⟩
 have hB : Below w.heap.size w w1 := bel_trans bel_by hb
 have g0 : Blk w1 (w.heap.size) #[.int .u64 (pl b 0), .int .u64 (pl b 1), .int .u64 (pl b 2), .int .u64 (pl b 3), .int .u64 (pl b 4), .int .u64 (pl b 5), .int .u64 (pl b 6), .int .u64 (pl b 7), .slice p n d] 27 := Blk.grow blk_by hb
 have g1 : Blk w1 (w.heap.size + 1) #[.int .u64 (pl s 0), .int .u64 (pl s 1), .int .u64 (pl s 2), .int .u64 (pl s 3), .int .u64 (pl s 4), .int .u64 (pl s 5), .int .u64 (pl s 6), .int .u64 (pl s 7), .int .u8 on] 37 := Blk.grow blk_by hb
 have g2 : Blk w1 (w.heap.size + 1 + 1) #[.int .u8 K, .int .i64 P, .int .u64 (pl x 0), .int .u64 (pl x 1), .int .u64 (pl x 2), .int .u64 (pl x 3), .int .u64 (pl x 4), .int .u64 (pl x 5), .int .u64 (pl x 6), .int .u64 (pl x 7)] 46 := Blk.grow blk_by hb
 have g3 : Blk w1 (w.heap.size + 1 + 1 + 1) #[.int .u64 0, .int .u64 0, .int .u64 0, .int .u64 0, .int .u64 0, .int .u64 0, .int .u64 0, .int .u64 0, .int .u8 0] 37 := Blk.grow blk_by hb
 clear hb
 have c0 := g0.cell
 have l0 := g0.lt
 have c1 := g1.cell
 have l1 := g1.lt
 have c2 := g2.cell
 have l2 := g2.lt
 have r3 := g3.row
 rw [← g3.rw]
 clear g3
 go_wp2_with fail
 refine bodyPost_ret (by simp [results, Tryz.results154, go_sem, *]) rfl ⟨rfl, blw_row hB (by omega) _⟩
set_option maxHeartbeats 8000000 in
theorem refNext_piece2 (b s c : Sol) (p : Option Addr) (n d K k : Nat) (on : Int) (x : Sol) (w : World) (hk : k < 8) (H104 : Hid (∀ w', Below w.heap.size w w' → Calls Tryz.prog 104 #[.int .i64 n, .agg #[.int .u8 K, .int .i64 k, .int .u64 (pl x 0), .int .u64 (pl x 1), .int .u64 (pl x 2), .int .u64 (pl x 3), .int .u64 (pl x 4), .int .u64 (pl x 5), .int .u64 (pl x 6), .int .u64 (pl x 7)]] w' fun e w'' => e = .returned (.bool true) ∧ Below w'.heap.size w' w'')) (H100 : Hid (∀ w', Below w.heap.size w w' → Calls Tryz.prog 100 #[.agg #[.int .u64 (pl b 0), .int .u64 (pl b 1), .int .u64 (pl b 2), .int .u64 (pl b 3), .int .u64 (pl b 4), .int .u64 (pl b 5), .int .u64 (pl b 6), .int .u64 (pl b 7), .slice p n d], .agg #[.int .u8 K, .int .i64 k, .int .u64 (pl x 0), .int .u64 (pl x 1), .int .u64 (pl x 2), .int .u64 (pl x 3), .int .u64 (pl x 4), .int .u64 (pl x 5), .int .u64 (pl x 6), .int .u64 (pl x 7)]] w' fun e w'' => e = .returned (.agg #[.int .u64 (pl c 0), .int .u64 (pl c 1), .int .u64 (pl c 2), .int .u64 (pl c 3), .int .u64 (pl c 4), .int .u64 (pl c 5), .int .u64 (pl c 6), .int .u64 (pl c 7)]) ∧ Below w'.heap.size w' w'')) (hK : ((K : Int) == 2) = true) (hK3 : ((K : Int) == 3) = false) (hon : (bits .and .u8 on (2 ^ k) != 0) = true) :
  Calls Tryz.prog 154 #[.agg #[.int .u64 (pl b 0), .int .u64 (pl b 1), .int .u64 (pl b 2), .int .u64 (pl b 3), .int .u64 (pl b 4), .int .u64 (pl b 5), .int .u64 (pl b 6), .int .u64 (pl b 7), .slice p n d], .agg #[.int .u64 (pl s 0), .int .u64 (pl s 1), .int .u64 (pl s 2), .int .u64 (pl s 3), .int .u64 (pl s 4), .int .u64 (pl s 5), .int .u64 (pl s 6), .int .u64 (pl s 7), .int .u8 on], .agg #[.int .u8 K, .int .i64 k, .int .u64 (pl x 0), .int .u64 (pl x 1), .int .u64 (pl x 2), .int .u64 (pl x 3), .int .u64 (pl x 4), .int .u64 (pl x 5), .int .u64 (pl x 6), .int .u64 (pl x 7)]] w fun e w' => e = .returned (.tuple #[.agg #[.int .u64 (pl s 0), .int .u64 (pl s 1), .int .u64 (pl s 2), .int .u64 (pl s 3), .int .u64 (pl s 4), .int .u64 (pl s 5), .int .u64 (pl s 6), .int .u64 (pl s 7), .int .u8 on], .int .i64 42]) ∧ Below w.heap.size w w' := by
 go_enter Tryz.func154, Tryz.ntmps154
 go_wp2_with fail
 refine (H104.out _ bel_by).mono ?_
 rintro e w1 ⟨rfl, hb⟩
 have hB : Below w.heap.size w w1 := bel_trans bel_by hb
 have g0 : Blk w1 (w.heap.size) #[.int .u64 (pl b 0), .int .u64 (pl b 1), .int .u64 (pl b 2), .int .u64 (pl b 3), .int .u64 (pl b 4), .int .u64 (pl b 5), .int .u64 (pl b 6), .int .u64 (pl b 7), .slice p n d] 27 := Blk.grow blk_by hb
 have g1 : Blk w1 (w.heap.size + 1) #[.int .u64 (pl s 0), .int .u64 (pl s 1), .int .u64 (pl s 2), .int .u64 (pl s 3), .int .u64 (pl s 4), .int .u64 (pl s 5), .int .u64 (pl s 6), .int .u64 (pl s 7), .int .u8 on] 37 := Blk.grow blk_by hb
 have g2 : Blk w1 (w.heap.size + 1 + 1) #[.int .u8 K, .int .i64 k, .int .u64 (pl x 0), .int .u64 (pl x 1), .int .u64 (pl x 2), .int .u64 (pl x 3), .int .u64 (pl x 4), .int .u64 (pl x 5), .int .u64 (pl x 6), .int .u64 (pl x 7)] 46 := Blk.grow blk_by hb
 have g3 : Blk w1 (w.heap.size + 1 + 1 + 1) #[.int .u64 0, .int .u64 0, .int .u64 0, .int .u64 0, .int .u64 0, .int .u64 0, .int .u64 0, .int .u64 0, .int .u8 0] 37 := Blk.grow blk_by hb
 clear hb
 have c0 := g0.cell
 have l0 := g0.lt
 have c1 := g1.cell
 have l1 := g1.lt
 have c2 := g2.cell
 have l2 := g2.lt
 go_wp2_with fail
 clear c0 l0 c1 l1 c2 l2
 refine (H100.out _ hB).mono ?_
 rintro e w2 ⟨rfl, hb⟩
 have hs1 := g3.lt
 have hs2 := hb.size
 replace hB := bel_trans hB hb
 have hB0 := hB
 replace g0 := g0.grow hb
 replace g1 := g1.grow hb
 replace g2 := g2.grow hb
 replace g3 := g3.grow hb
 clear hb
 have hw8 : IntKind.u8.wrap ((2 : Int) ^ k) = 2 ^ k := by
  obtain rfl | rfl | rfl | rfl | rfl | rfl | rfl | rfl : k = 0 ∨ k = 1 ∨ k = 2 ∨ k = 3 ∨ k = 4 ∨ k = 5 ∨ k = 6 ∨ k = 7 := by omega
  all_goals decide
 have hu : IntKind.u64.wrap (k : Int) = k := by
  obtain rfl | rfl | rfl | rfl | rfl | rfl | rfl | rfl : k = 0 ∨ k = 1 ∨ k = 2 ∨ k = 3 ∨ k = 4 ∨ k = 5 ∨ k = 6 ∨ k = 7 := by omega
  all_goals decide
 have c0 := g0.cell
 have l0 := g0.lt
 have c1 := g1.cell
 have l1 := g1.lt
 have c2 := g2.cell
 have l2 := g2.lt
 go_upto_if 50 with (fail)
 obtain ⟨w3, hw3⟩ : ∃ w3 : World, w3 = w2.alloc (.cells (#[.int .u64 (pl c 0), .int .u64 (pl c 1), .int .u64 (pl c 2), .int .u64 (pl c 3), .int .u64 (pl c 4), .int .u64 (pl c 5), .int .u64 (pl c 6), .int .u64 (pl c 7)] : Array Value) 24) := ⟨_, rfl⟩
 have hbb : Below w2.heap.size w2 w3 := by subst hw3; exact bel_alloc (bel_refl _) _
 have g4 : Blk w3 w2.heap.size #[.int .u64 (pl c 0), .int .u64 (pl c 1), .int .u64 (pl c 2), .int .u64 (pl c 3), .int .u64 (pl c 4), .int .u64 (pl c 5), .int .u64 (pl c 6), .int .u64 (pl c 7)] 24 := by subst hw3; exact Blk.new _ _ _
 rw [← hw3]
 clear hw3 c0 l0 c1 l1 c2 l2
 replace hB := bel_trans hB hbb
 replace g0 := g0.grow hbb
 replace g1 := g1.grow hbb
 replace g2 := g2.grow hbb
 replace g3 := g3.grow hbb
 clear hbb
 generalize w2.heap.size = B4 at *
 have c0 := g0.cell
 have l0 := g0.lt
 have c1 := g1.cell
 have l1 := g1.lt
 have c2 := g2.cell
 have l2 := g2.lt
 have c4 := g4.cell
 have l4 := g4.lt
 have r3 := g3.row
 rw [← g3.rw]
 clear g3
 go_wp2_with fail
 refine bodyPost_ret (by simp [results, Tryz.results154, go_sem, *]) rfl ⟨rfl, blw_row hB (by omega) _⟩
set_option maxHeartbeats 8000000 in
theorem refNext_piece3 (b s c : Sol) (p : Option Addr) (n d K k : Nat) (on : Int) (x : Sol) (w : World) (hk : k < 8) (H104 : Hid (∀ w', Below w.heap.size w w' → Calls Tryz.prog 104 #[.int .i64 n, .agg #[.int .u8 K, .int .i64 k, .int .u64 (pl x 0), .int .u64 (pl x 1), .int .u64 (pl x 2), .int .u64 (pl x 3), .int .u64 (pl x 4), .int .u64 (pl x 5), .int .u64 (pl x 6), .int .u64 (pl x 7)]] w' fun e w'' => e = .returned (.bool true) ∧ Below w'.heap.size w' w'')) (H100 : Hid (∀ w', Below w.heap.size w w' → Calls Tryz.prog 100 #[.agg #[.int .u64 (pl b 0), .int .u64 (pl b 1), .int .u64 (pl b 2), .int .u64 (pl b 3), .int .u64 (pl b 4), .int .u64 (pl b 5), .int .u64 (pl b 6), .int .u64 (pl b 7), .slice p n d], .agg #[.int .u8 K, .int .i64 k, .int .u64 (pl x 0), .int .u64 (pl x 1), .int .u64 (pl x 2), .int .u64 (pl x 3), .int .u64 (pl x 4), .int .u64 (pl x 5), .int .u64 (pl x 6), .int .u64 (pl x 7)]] w' fun e w'' => e = .returned (.agg #[.int .u64 (pl c 0), .int .u64 (pl c 1), .int .u64 (pl c 2), .int .u64 (pl c 3), .int .u64 (pl c 4), .int .u64 (pl c 5), .int .u64 (pl c 6), .int .u64 (pl c 7)]) ∧ Below w'.heap.size w' w'')) (hK : ((K : Int) == 2) = false) (hK3 : ((K : Int) == 3) = true) (hon : (bits .and .u8 on (2 ^ k) == 0) = true) :
  Calls Tryz.prog 154 #[.agg #[.int .u64 (pl b 0), .int .u64 (pl b 1), .int .u64 (pl b 2), .int .u64 (pl b 3), .int .u64 (pl b 4), .int .u64 (pl b 5), .int .u64 (pl b 6), .int .u64 (pl b 7), .slice p n d], .agg #[.int .u64 (pl s 0), .int .u64 (pl s 1), .int .u64 (pl s 2), .int .u64 (pl s 3), .int .u64 (pl s 4), .int .u64 (pl s 5), .int .u64 (pl s 6), .int .u64 (pl s 7), .int .u8 on], .agg #[.int .u8 K, .int .i64 k, .int .u64 (pl x 0), .int .u64 (pl x 1), .int .u64 (pl x 2), .int .u64 (pl x 3), .int .u64 (pl x 4), .int .u64 (pl x 5), .int .u64 (pl x 6), .int .u64 (pl x 7)]] w fun e w' => e = .returned (.tuple #[.agg #[.int .u64 (pl s 0), .int .u64 (pl s 1), .int .u64 (pl s 2), .int .u64 (pl s 3), .int .u64 (pl s 4), .int .u64 (pl s 5), .int .u64 (pl s 6), .int .u64 (pl s 7), .int .u8 on], .int .i64 42]) ∧ Below w.heap.size w w' := by
 go_enter Tryz.func154, Tryz.ntmps154
 go_wp2_with fail
 refine (H104.out _ bel_by).mono ?_
 rintro e w1 ⟨rfl, hb⟩
 have hB : Below w.heap.size w w1 := bel_trans bel_by hb
 have g0 : Blk w1 (w.heap.size) #[.int .u64 (pl b 0), .int .u64 (pl b 1), .int .u64 (pl b 2), .int .u64 (pl b 3), .int .u64 (pl b 4), .int .u64 (pl b 5), .int .u64 (pl b 6), .int .u64 (pl b 7), .slice p n d] 27 := Blk.grow blk_by hb
 have g1 : Blk w1 (w.heap.size + 1) #[.int .u64 (pl s 0), .int .u64 (pl s 1), .int .u64 (pl s 2), .int .u64 (pl s 3), .int .u64 (pl s 4), .int .u64 (pl s 5), .int .u64 (pl s 6), .int .u64 (pl s 7), .int .u8 on] 37 := Blk.grow blk_by hb
 have g2 : Blk w1 (w.heap.size + 1 + 1) #[.int .u8 K, .int .i64 k, .int .u64 (pl x 0), .int .u64 (pl x 1), .int .u64 (pl x 2), .int .u64 (pl x 3), .int .u64 (pl x 4), .int .u64 (pl x 5), .int .u64 (pl x 6), .int .u64 (pl x 7)] 46 := Blk.grow blk_by hb
 have g3 : Blk w1 (w.heap.size + 1 + 1 + 1) #[.int .u64 0, .int .u64 0, .int .u64 0, .int .u64 0, .int .u64 0, .int .u64 0, .int .u64 0, .int .u64 0, .int .u8 0] 37 := Blk.grow blk_by hb
 clear hb
 have c0 := g0.cell
 have l0 := g0.lt
 have c1 := g1.cell
 have l1 := g1.lt
 have c2 := g2.cell
 have l2 := g2.lt
 go_wp2_with fail
 clear c0 l0 c1 l1 c2 l2
 refine (H100.out _ hB).mono ?_
 rintro e w2 ⟨rfl, hb⟩
 have hs1 := g3.lt
 have hs2 := hb.size
 replace hB := bel_trans hB hb
 have hB0 := hB
 replace g0 := g0.grow hb
 replace g1 := g1.grow hb
 replace g2 := g2.grow hb
 replace g3 := g3.grow hb
 clear hb
 have hw8 : IntKind.u8.wrap ((2 : Int) ^ k) = 2 ^ k := by
  obtain rfl | rfl | rfl | rfl | rfl | rfl | rfl | rfl : k = 0 ∨ k = 1 ∨ k = 2 ∨ k = 3 ∨ k = 4 ∨ k = 5 ∨ k = 6 ∨ k = 7 := by omega
  all_goals decide
 have hu : IntKind.u64.wrap (k : Int) = k := by
  obtain rfl | rfl | rfl | rfl | rfl | rfl | rfl | rfl : k = 0 ∨ k = 1 ∨ k = 2 ∨ k = 3 ∨ k = 4 ∨ k = 5 ∨ k = 6 ∨ k = 7 := by omega
  all_goals decide
 have c0 := g0.cell
 have l0 := g0.lt
 have c1 := g1.cell
 have l1 := g1.lt
 have c2 := g2.cell
 have l2 := g2.lt
 go_upto_if 50 with (fail)
 obtain ⟨w3, hw3⟩ : ∃ w3 : World, w3 = w2.alloc (.cells (#[.int .u64 (pl c 0), .int .u64 (pl c 1), .int .u64 (pl c 2), .int .u64 (pl c 3), .int .u64 (pl c 4), .int .u64 (pl c 5), .int .u64 (pl c 6), .int .u64 (pl c 7)] : Array Value) 24) := ⟨_, rfl⟩
 have hbb : Below w2.heap.size w2 w3 := by subst hw3; exact bel_alloc (bel_refl _) _
 have g4 : Blk w3 w2.heap.size #[.int .u64 (pl c 0), .int .u64 (pl c 1), .int .u64 (pl c 2), .int .u64 (pl c 3), .int .u64 (pl c 4), .int .u64 (pl c 5), .int .u64 (pl c 6), .int .u64 (pl c 7)] 24 := by subst hw3; exact Blk.new _ _ _
 rw [← hw3]
 clear hw3 c0 l0 c1 l1 c2 l2
 replace hB := bel_trans hB hbb
 replace g0 := g0.grow hbb
 replace g1 := g1.grow hbb
 replace g2 := g2.grow hbb
 replace g3 := g3.grow hbb
 clear hbb
 generalize w2.heap.size = B4 at *
 have c0 := g0.cell
 have l0 := g0.lt
 have c1 := g1.cell
 have l1 := g1.lt
 have c2 := g2.cell
 have l2 := g2.lt
 have c4 := g4.cell
 have l4 := g4.lt
 have r3 := g3.row
 rw [← g3.rw]
 clear g3
 go_wp2_with fail
 refine bodyPost_ret (by simp [results, Tryz.results154, go_sem, *]) rfl ⟨rfl, blw_row hB (by omega) _⟩
set_option maxHeartbeats 8000000 in
theorem refNext_place (b s c : Sol) (p : Option Addr) (n d K k : Nat) (on : Int) (x : Sol) (w : World) (hk : k < 8) (H104 : Hid (∀ w', Below w.heap.size w w' → Calls Tryz.prog 104 #[.int .i64 n, .agg #[.int .u8 K, .int .i64 k, .int .u64 (pl x 0), .int .u64 (pl x 1), .int .u64 (pl x 2), .int .u64 (pl x 3), .int .u64 (pl x 4), .int .u64 (pl x 5), .int .u64 (pl x 6), .int .u64 (pl x 7)]] w' fun e w'' => e = .returned (.bool true) ∧ Below w'.heap.size w' w'')) (H100 : Hid (∀ w', Below w.heap.size w w' → Calls Tryz.prog 100 #[.agg #[.int .u64 (pl b 0), .int .u64 (pl b 1), .int .u64 (pl b 2), .int .u64 (pl b 3), .int .u64 (pl b 4), .int .u64 (pl b 5), .int .u64 (pl b 6), .int .u64 (pl b 7), .slice p n d], .agg #[.int .u8 K, .int .i64 k, .int .u64 (pl x 0), .int .u64 (pl x 1), .int .u64 (pl x 2), .int .u64 (pl x 3), .int .u64 (pl x 4), .int .u64 (pl x 5), .int .u64 (pl x 6), .int .u64 (pl x 7)]] w' fun e w'' => e = .returned (.agg #[.int .u64 (pl c 0), .int .u64 (pl c 1), .int .u64 (pl c 2), .int .u64 (pl c 3), .int .u64 (pl c 4), .int .u64 (pl c 5), .int .u64 (pl c 6), .int .u64 (pl c 7)]) ∧ Below w'.heap.size w' w'')) (hK : ((K : Int) == 2) = true) (hK3 : ((K : Int) == 3) = false) (hon : (bits .and .u8 on (2 ^ k) != 0) = false) (H152 : Hid (∀ w', Below w.heap.size w w' → Calls Tryz.prog 152 #[.agg #[.int .u64 (pl c 0), .int .u64 (pl c 1), .int .u64 (pl c 2), .int .u64 (pl c 3), .int .u64 (pl c 4), .int .u64 (pl c 5), .int .u64 (pl c 6), .int .u64 (pl c 7)], .agg #[.int .u64 (pl s 0), .int .u64 (pl s 1), .int .u64 (pl s 2), .int .u64 (pl s 3), .int .u64 (pl s 4), .int .u64 (pl s 5), .int .u64 (pl s 6), .int .u64 (pl s 7)]] w' fun e w'' => e = .returned (.bool true) ∧ Below w'.heap.size w' w'')) :
  Calls Tryz.prog 154 #[.agg #[.int .u64 (pl b 0), .int .u64 (pl b 1), .int .u64 (pl b 2), .int .u64 (pl b 3), .int .u64 (pl b 4), .int .u64 (pl b 5), .int .u64 (pl b 6), .int .u64 (pl b 7), .slice p n d], .agg #[.int .u64 (pl s 0), .int .u64 (pl s 1), .int .u64 (pl s 2), .int .u64 (pl s 3), .int .u64 (pl s 4), .int .u64 (pl s 5), .int .u64 (pl s 6), .int .u64 (pl s 7), .int .u8 on], .agg #[.int .u8 K, .int .i64 k, .int .u64 (pl x 0), .int .u64 (pl x 1), .int .u64 (pl x 2), .int .u64 (pl x 3), .int .u64 (pl x 4), .int .u64 (pl x 5), .int .u64 (pl x 6), .int .u64 (pl x 7)]] w fun e w' => e = .returned (.tuple #[.agg #[.int .u64 (pl s 0), .int .u64 (pl s 1), .int .u64 (pl s 2), .int .u64 (pl s 3), .int .u64 (pl s 4), .int .u64 (pl s 5), .int .u64 (pl s 6), .int .u64 (pl s 7), .int .u8 on], .int .i64 41]) ∧ Below w.heap.size w w' := by
 go_enter Tryz.func154, Tryz.ntmps154
 go_wp2_with fail
 refine (H104.out _ bel_by).mono ?_
 rintro e w1 ⟨rfl, hb⟩
 have hB : Below w.heap.size w w1 := bel_trans bel_by hb
 have g0 : Blk w1 (w.heap.size) #[.int .u64 (pl b 0), .int .u64 (pl b 1), .int .u64 (pl b 2), .int .u64 (pl b 3), .int .u64 (pl b 4), .int .u64 (pl b 5), .int .u64 (pl b 6), .int .u64 (pl b 7), .slice p n d] 27 := Blk.grow blk_by hb
 have g1 : Blk w1 (w.heap.size + 1) #[.int .u64 (pl s 0), .int .u64 (pl s 1), .int .u64 (pl s 2), .int .u64 (pl s 3), .int .u64 (pl s 4), .int .u64 (pl s 5), .int .u64 (pl s 6), .int .u64 (pl s 7), .int .u8 on] 37 := Blk.grow blk_by hb
 have g2 : Blk w1 (w.heap.size + 1 + 1) #[.int .u8 K, .int .i64 k, .int .u64 (pl x 0), .int .u64 (pl x 1), .int .u64 (pl x 2), .int .u64 (pl x 3), .int .u64 (pl x 4), .int .u64 (pl x 5), .int .u64 (pl x 6), .int .u64 (pl x 7)] 46 := Blk.grow blk_by hb
 have g3 : Blk w1 (w.heap.size + 1 + 1 + 1) #[.int .u64 0, .int .u64 0, .int .u64 0, .int .u64 0, .int .u64 0, .int .u64 0, .int .u64 0, .int .u64 0, .int .u8 0] 37 := Blk.grow blk_by hb
 clear hb
 have c0 := g0.cell
 have l0 := g0.lt
 have c1 := g1.cell
 have l1 := g1.lt
 have c2 := g2.cell
 have l2 := g2.lt
 go_wp2_with fail
 clear c0 l0 c1 l1 c2 l2
 refine (H100.out _ hB).mono ?_
 rintro e w2 ⟨rfl, hb⟩
 have hs1 := g3.lt
 have hs2 := hb.size
 replace hB := bel_trans hB hb
 have hB0 := hB
 replace g0 := g0.grow hb
 replace g1 := g1.grow hb
 replace g2 := g2.grow hb
 replace g3 := g3.grow hb
 clear hb
 have hw8 : IntKind.u8.wrap ((2 : Int) ^ k) = 2 ^ k := by
  obtain rfl | rfl | rfl | rfl | rfl | rfl | rfl | rfl : k = 0 ∨ k = 1 ∨ k = 2 ∨ k = 3 ∨ k = 4 ∨ k = 5 ∨ k = 6 ∨ k = 7 := by omega
  all_goals decide
 have hu : IntKind.u64.wrap (k : Int) = k := by
  obtain rfl | rfl | rfl | rfl | rfl | rfl | rfl | rfl : k = 0 ∨ k = 1 ∨ k = 2 ∨ k = 3 ∨ k = 4 ∨ k = 5 ∨ k = 6 ∨ k = 7 := by omega
  all_goals decide
 have c0 := g0.cell
 have l0 := g0.lt
 have c1 := g1.cell
 have l1 := g1.lt
 have c2 := g2.cell
 have l2 := g2.lt
 go_upto_if 50 with (fail)
 obtain ⟨w3, hw3⟩ : ∃ w3 : World, w3 = w2.alloc (.cells (#[.int .u64 (pl c 0), .int .u64 (pl c 1), .int .u64 (pl c 2), .int .u64 (pl c 3), .int .u64 (pl c 4), .int .u64 (pl c 5), .int .u64 (pl c 6), .int .u64 (pl c 7)] : Array Value) 24) := ⟨_, rfl⟩
 have hbb : Below w2.heap.size w2 w3 := by subst hw3; exact bel_alloc (bel_refl _) _
 have g4 : Blk w3 w2.heap.size #[.int .u64 (pl c 0), .int .u64 (pl c 1), .int .u64 (pl c 2), .int .u64 (pl c 3), .int .u64 (pl c 4), .int .u64 (pl c 5), .int .u64 (pl c 6), .int .u64 (pl c 7)] 24 := by subst hw3; exact Blk.new _ _ _
 rw [← hw3]
 clear hw3 c0 l0 c1 l1 c2 l2
 replace hB := bel_trans hB hbb
 replace g0 := g0.grow hbb
 replace g1 := g1.grow hbb
 replace g2 := g2.grow hbb
 replace g3 := g3.grow hbb
 clear hbb
 generalize w2.heap.size = B4 at *
 have c0 := g0.cell
 have l0 := g0.lt
 have c1 := g1.cell
 have l1 := g1.lt
 have c2 := g2.cell
 have l2 := g2.lt
 have c4 := g4.cell
 have l4 := g4.lt
 go_wp2_with fail
 clear c0 l0 c1 l1 c2 l2 c4 l4
 refine (H152.out _ hB).mono ?_
 rintro e w4 ⟨rfl, hb⟩
 replace hB := bel_trans hB hb
 replace g0 := g0.grow hb
 replace g1 := g1.grow hb
 replace g2 := g2.grow hb
 replace g3 := g3.grow hb
 replace g4 := g4.grow hb
 clear hb
 have c0 := g0.cell
 have l0 := g0.lt
 have c1 := g1.cell
 have l1 := g1.lt
 have c2 := g2.cell
 have l2 := g2.lt
 have c4 := g4.cell
 have l4 := g4.lt
 have r3 := g3.row
 rw [← g3.rw]
 clear g3
 go_wp2_with fail
 refine bodyPost_ret (by simp [results, Tryz.results154, go_sem, *]) rfl ⟨rfl, blw_row hB (by omega) _⟩
set_option maxHeartbeats 8000000 in
theorem refNext_cut1 (b s c : Sol) (p : Option Addr) (n d K k : Nat) (on : Int) (x : Sol) (w : World) (hk : k < 8) (H104 : Hid (∀ w', Below w.heap.size w w' → Calls Tryz.prog 104 #[.int .i64 n, .agg #[.int .u8 K, .int .i64 k, .int .u64 (pl x 0), .int .u64 (pl x 1), .int .u64 (pl x 2), .int .u64 (pl x 3), .int .u64 (pl x 4), .int .u64 (pl x 5), .int .u64 (pl x 6), .int .u64 (pl x 7)]] w' fun e w'' => e = .returned (.bool true) ∧ Below w'.heap.size w' w'')) (H100 : Hid (∀ w', Below w.heap.size w w' → Calls Tryz.prog 100 #[.agg #[.int .u64 (pl b 0), .int .u64 (pl b 1), .int .u64 (pl b 2), .int .u64 (pl b 3), .int .u64 (pl b 4), .int .u64 (pl b 5), .int .u64 (pl b 6), .int .u64 (pl b 7), .slice p n d], .agg #[.int .u8 K, .int .i64 k, .int .u64 (pl x 0), .int .u64 (pl x 1), .int .u64 (pl x 2), .int .u64 (pl x 3), .int .u64 (pl x 4), .int .u64 (pl x 5), .int .u64 (pl x 6), .int .u64 (pl x 7)]] w' fun e w'' => e = .returned (.agg #[.int .u64 (pl c 0), .int .u64 (pl c 1), .int .u64 (pl c 2), .int .u64 (pl c 3), .int .u64 (pl c 4), .int .u64 (pl c 5), .int .u64 (pl c 6), .int .u64 (pl c 7)]) ∧ Below w'.heap.size w' w'')) (hK : ((K : Int) == 2) = false) (hK3 : ((K : Int) == 3) = false) (H190 : Hid (∀ w', Below w.heap.size w w' → Calls Tryz.prog 190 #[.agg #[.int .u64 (pl c 0), .int .u64 (pl c 1), .int .u64 (pl c 2), .int .u64 (pl c 3), .int .u64 (pl c 4), .int .u64 (pl c 5), .int .u64 (pl c 6), .int .u64 (pl c 7)], .agg #[.int .u64 (pl s 0), .int .u64 (pl s 1), .int .u64 (pl s 2), .int .u64 (pl s 3), .int .u64 (pl s 4), .int .u64 (pl s 5), .int .u64 (pl s 6), .int .u64 (pl s 7)]] w' fun e w'' => e = .returned (.bool false) ∧ Below w'.heap.size w' w'')) :
  Calls Tryz.prog 154 #[.agg #[.int .u64 (pl b 0), .int .u64 (pl b 1), .int .u64 (pl b 2), .int .u64 (pl b 3), .int .u64 (pl b 4), .int .u64 (pl b 5), .int .u64 (pl b 6), .int .u64 (pl b 7), .slice p n d], .agg #[.int .u64 (pl s 0), .int .u64 (pl s 1), .int .u64 (pl s 2), .int .u64 (pl s 3), .int .u64 (pl s 4), .int .u64 (pl s 5), .int .u64 (pl s 6), .int .u64 (pl s 7), .int .u8 on], .agg #[.int .u8 K, .int .i64 k, .int .u64 (pl x 0), .int .u64 (pl x 1), .int .u64 (pl x 2), .int .u64 (pl x 3), .int .u64 (pl x 4), .int .u64 (pl x 5), .int .u64 (pl x 6), .int .u64 (pl x 7)]] w fun e w' => e = .returned (.tuple #[.agg #[.int .u64 (pl s 0), .int .u64 (pl s 1), .int .u64 (pl s 2), .int .u64 (pl s 3), .int .u64 (pl s 4), .int .u64 (pl s 5), .int .u64 (pl s 6), .int .u64 (pl s 7), .int .u8 on], .int .i64 40]) ∧ Below w.heap.size w w' := by
 go_enter Tryz.func154, Tryz.ntmps154
 go_wp2_with fail
 refine (H104.out _ bel_by).mono ?_
 rintro e w1 ⟨rfl, hb⟩
 have hB : Below w.heap.size w w1 := bel_trans bel_by hb
 have g0 : Blk w1 (w.heap.size) #[.int .u64 (pl b 0), .int .u64 (pl b 1), .int .u64 (pl b 2), .int .u64 (pl b 3), .int .u64 (pl b 4), .int .u64 (pl b 5), .int .u64 (pl b 6), .int .u64 (pl b 7), .slice p n d] 27 := Blk.grow blk_by hb
 have g1 : Blk w1 (w.heap.size + 1) #[.int .u64 (pl s 0), .int .u64 (pl s 1), .int .u64 (pl s 2), .int .u64 (pl s 3), .int .u64 (pl s 4), .int .u64 (pl s 5), .int .u64 (pl s 6), .int .u64 (pl s 7), .int .u8 on] 37 := Blk.grow blk_by hb
 have g2 : Blk w1 (w.heap.size + 1 + 1) #[.int .u8 K, .int .i64 k, .int .u64 (pl x 0), .int .u64 (pl x 1), .int .u64 (pl x 2), .int .u64 (pl x 3), .int .u64 (pl x 4), .int .u64 (pl x 5), .int .u64 (pl x 6), .int .u64 (pl x 7)] 46 := Blk.grow blk_by hb
 have g3 : Blk w1 (w.heap.size + 1 + 1 + 1) #[.int .u64 0, .int .u64 0, .int .u64 0, .int .u64 0, .int .u64 0, .int .u64 0, .int .u64 0, .int .u64 0, .int .u8 0] 37 := Blk.grow blk_by hb
 clear hb
 have c0 := g0.cell
 have l0 := g0.lt
 have c1 := g1.cell
 have l1 := g1.lt
 have c2 := g2.cell
 have l2 := g2.lt
 go_wp2_with fail
 clear c0 l0 c1 l1 c2 l2
 refine (H100.out _ hB).mono ?_
 rintro e w2 ⟨rfl, hb⟩
 have hs1 := g3.lt
 have hs2 := hb.size
 replace hB := bel_trans hB hb
 have hB0 := hB
 replace g0 := g0.grow hb
 replace g1 := g1.grow hb
 replace g2 := g2.grow hb
 replace g3 := g3.grow hb
 clear hb
 have hw8 : IntKind.u8.wrap ((2 : Int) ^ k) = 2 ^ k := by
  obtain rfl | rfl | rfl | rfl | rfl | rfl | rfl | rfl : k = 0 ∨ k = 1 ∨ k = 2 ∨ k = 3 ∨ k = 4 ∨ k = 5 ∨ k = 6 ∨ k = 7 := by omega
  all_goals decide
 have hu : IntKind.u64.wrap (k : Int) = k := by
  obtain rfl | rfl | rfl | rfl | rfl | rfl | rfl | rfl : k = 0 ∨ k = 1 ∨ k = 2 ∨ k = 3 ∨ k = 4 ∨ k = 5 ∨ k = 6 ∨ k = 7 := by omega
  all_goals decide
 have c0 := g0.cell
 have l0 := g0.lt
 have c1 := g1.cell
 have l1 := g1.lt
 have c2 := g2.cell
 have l2 := g2.lt
 go_upto_if 50 with (fail)
 obtain ⟨w3, hw3⟩ : ∃ w3 : World, w3 = w2.alloc (.cells (#[.int .u64 (pl c 0), .int .u64 (pl c 1), .int .u64 (pl c 2), .int .u64 (pl c 3), .int .u64 (pl c 4), .int .u64 (pl c 5), .int .u64 (pl c 6), .int .u64 (pl c 7)] : Array Value) 24) := ⟨_, rfl⟩
 have hbb : Below w2.heap.size w2 w3 := by subst hw3; exact bel_alloc (bel_refl _) _
 have g4 : Blk w3 w2.heap.size #[.int .u64 (pl c 0), .int .u64 (pl c 1), .int .u64 (pl c 2), .int .u64 (pl c 3), .int .u64 (pl c 4), .int .u64 (pl c 5), .int .u64 (pl c 6), .int .u64 (pl c 7)] 24 := by subst hw3; exact Blk.new _ _ _
 rw [← hw3]
 clear hw3 c0 l0 c1 l1 c2 l2
 replace hB := bel_trans hB hbb
 replace g0 := g0.grow hbb
 replace g1 := g1.grow hbb
 replace g2 := g2.grow hbb
 replace g3 := g3.grow hbb
 clear hbb
 generalize w2.heap.size = B4 at *
 have c0 := g0.cell
 have l0 := g0.lt
 have c1 := g1.cell
 have l1 := g1.lt
 have c2 := g2.cell
 have l2 := g2.lt
 have c4 := g4.cell
 have l4 := g4.lt
 go_wp2_with fail
 clear c0 l0 c1 l1 c2 l2 c4 l4
 refine (H190.out _ hB).mono ?_
 rintro e w4 ⟨rfl, hb⟩
 replace hB := bel_trans hB hb
 replace g0 := g0.grow hb
 replace g1 := g1.grow hb
 replace g2 := g2.grow hb
 replace g3 := g3.grow hb
 replace g4 := g4.grow hb
 clear hb
 have c0 := g0.cell
 have l0 := g0.lt
 have c1 := g1.cell
 have l1 := g1.lt
 have c2 := g2.cell
 have l2 := g2.lt
 have c4 := g4.cell
 have l4 := g4.lt
 have r3 := g3.row
 rw [← g3.rw]
 clear g3
 go_wp2_with fail
 refine bodyPost_ret (by simp [results, Tryz.results154, go_sem, *]) rfl ⟨rfl, blw_row hB (by omega) _⟩
set_option maxHeartbeats 8000000 in
theorem refNext_cut3 (b s c : Sol) (p : Option Addr) (n d K k : Nat) (on : Int) (x : Sol) (w : World) (hk : k < 8) (H104 : Hid (∀ w', Below w.heap.size w w' → Calls Tryz.prog 104 #[.int .i64 n, .agg #[.int .u8 K, .int .i64 k, .int .u64 (pl x 0), .int .u64 (pl x 1), .int .u64 (pl x 2), .int .u64 (pl x 3), .int .u64 (pl x 4), .int .u64 (pl x 5), .int .u64 (pl x 6), .int .u64 (pl x 7)]] w' fun e w'' => e = .returned (.bool true) ∧ Below w'.heap.size w' w'')) (H100 : Hid (∀ w', Below w.heap.size w w' → Calls Tryz.prog 100 #[.agg #[.int .u64 (pl b 0), .int .u64 (pl b 1), .int .u64 (pl b 2), .int .u64 (pl b 3), .int .u64 (pl b 4), .int .u64 (pl b 5), .int .u64 (pl b 6), .int .u64 (pl b 7), .slice p n d], .agg #[.int .u8 K, .int .i64 k, .int .u64 (pl x 0), .int .u64 (pl x 1), .int .u64 (pl x 2), .int .u64 (pl x 3), .int .u64 (pl x 4), .int .u64 (pl x 5), .int .u64 (pl x 6), .int .u64 (pl x 7)]] w' fun e w'' => e = .returned (.agg #[.int .u64 (pl c 0), .int .u64 (pl c 1), .int .u64 (pl c 2), .int .u64 (pl c 3), .int .u64 (pl c 4), .int .u64 (pl c 5), .int .u64 (pl c 6), .int .u64 (pl c 7)]) ∧ Below w'.heap.size w' w'')) (hK : ((K : Int) == 2) = false) (hK3 : ((K : Int) == 3) = true) (hon : (bits .and .u8 on (2 ^ k) == 0) = false) (H190 : Hid (∀ w', Below w.heap.size w w' → Calls Tryz.prog 190 #[.agg #[.int .u64 (pl c 0), .int .u64 (pl c 1), .int .u64 (pl c 2), .int .u64 (pl c 3), .int .u64 (pl c 4), .int .u64 (pl c 5), .int .u64 (pl c 6), .int .u64 (pl c 7)], .agg #[.int .u64 (pl s 0), .int .u64 (pl s 1), .int .u64 (pl s 2), .int .u64 (pl s 3), .int .u64 (pl s 4), .int .u64 (pl s 5), .int .u64 (pl s 6), .int .u64 (pl s 7)]] w' fun e w'' => e = .returned (.bool false) ∧ Below w'.heap.size w' w'')) :
  Calls Tryz.prog 154 #[.agg #[.int .u64 (pl b 0), .int .u64 (pl b 1), .int .u64 (pl b 2), .int .u64 (pl b 3), .int .u64 (pl b 4), .int .u64 (pl b 5), .int .u64 (pl b 6), .int .u64 (pl b 7), .slice p n d], .agg #[.int .u64 (pl s 0), .int .u64 (pl s 1), .int .u64 (pl s 2), .int .u64 (pl s 3), .int .u64 (pl s 4), .int .u64 (pl s 5), .int .u64 (pl s 6), .int .u64 (pl s 7), .int .u8 on], .agg #[.int .u8 K, .int .i64 k, .int .u64 (pl x 0), .int .u64 (pl x 1), .int .u64 (pl x 2), .int .u64 (pl x 3), .int .u64 (pl x 4), .int .u64 (pl x 5), .int .u64 (pl x 6), .int .u64 (pl x 7)]] w fun e w' => e = .returned (.tuple #[.agg #[.int .u64 (pl s 0), .int .u64 (pl s 1), .int .u64 (pl s 2), .int .u64 (pl s 3), .int .u64 (pl s 4), .int .u64 (pl s 5), .int .u64 (pl s 6), .int .u64 (pl s 7), .int .u8 on], .int .i64 40]) ∧ Below w.heap.size w w' := by
 go_enter Tryz.func154, Tryz.ntmps154
 go_wp2_with fail
 refine (H104.out _ bel_by).mono ?_
 rintro e w1 ⟨rfl, hb⟩
 have hB : Below w.heap.size w w1 := bel_trans bel_by hb
 have g0 : Blk w1 (w.heap.size) #[.int .u64 (pl b 0), .int .u64 (pl b 1), .int .u64 (pl b 2), .int .u64 (pl b 3), .int .u64 (pl b 4), .int .u64 (pl b 5), .int .u64 (pl b 6), .int .u64 (pl b 7), .slice p n d] 27 := Blk.grow blk_by hb
 have g1 : Blk w1 (w.heap.size + 1) #[.int .u64 (pl s 0), .int .u64 (pl s 1), .int .u64 (pl s 2), .int .u64 (pl s 3), .int .u64 (pl s 4), .int .u64 (pl s 5), .int .u64 (pl s 6), .int .u64 (pl s 7), .int .u8 on] 37 := Blk.grow blk_by hb
 have g2 : Blk w1 (w.heap.size + 1 + 1) #[.int .u8 K, .int .i64 k, .int .u64 (pl x 0), .int .u64 (pl x 1), .int .u64 (pl x 2), .int .u64 (pl x 3), .int .u64 (pl x 4), .int .u64 (pl x 5), .int .u64 (pl x 6), .int .u64 (pl x 7)] 46 := Blk.grow blk_by hb
 have g3 : Blk w1 (w.heap.size + 1 + 1 + 1) #[.int .u64 0, .int .u64 0, .int .u64 0, .int .u64 0, .int .u64 0, .int .u64 0, .int .u64 0, .int .u64 0, .int .u8 0] 37 := Blk.grow blk_by hb
 clear hb
 have c0 := g0.cell
 have l0 := g0.lt
 have c1 := g1.cell
 have l1 := g1.lt
 have c2 := g2.cell
 have l2 := g2.lt
 go_wp2_with fail
 clear c0 l0 c1 l1 c2 l2
 refine (H100.out _ hB).mono ?_
 rintro e w2 ⟨rfl, hb⟩
 have hs1 := g3.lt
 have hs2 := hb.size
 replace hB := bel_trans hB hb
 have hB0 := hB
 replace g0 := g0.grow hb
 replace g1 := g1.grow hb
 replace g2 := g2.grow hb
 replace g3 := g3.grow hb
 clear hb
 have hw8 : IntKind.u8.wrap ((2 : Int) ^ k) = 2 ^ k := by
  obtain rfl | rfl | rfl | rfl | rfl | rfl | rfl | rfl : k = 0 ∨ k = 1 ∨ k = 2 ∨ k = 3 ∨ k = 4 ∨ k = 5 ∨ k = 6 ∨ k = 7 := by omega
  all_goals decide
 have hu : IntKind.u64.wrap (k : Int) = k := by
  obtain rfl | rfl | rfl | rfl | rfl | rfl | rfl | rfl : k = 0 ∨ k = 1 ∨ k = 2 ∨ k = 3 ∨ k = 4 ∨ k = 5 ∨ k = 6 ∨ k = 7 := by omega
  all_goals decide
 have c0 := g0.cell
 have l0 := g0.lt
 have c1 := g1.cell
 have l1 := g1.lt
 have c2 := g2.cell
 have l2 := g2.lt
 go_upto_if 50 with (fail)
 obtain ⟨w3, hw3⟩ : ∃ w3 : World, w3 = w2.alloc (.cells (#[.int .u64 (pl c 0), .int .u64 (pl c 1), .int .u64 (pl c 2), .int .u64 (pl c 3), .int .u64 (pl c 4), .int .u64 (pl c 5), .int .u64 (pl c 6), .int .u64 (pl c 7)] : Array Value) 24) := ⟨_, rfl⟩
 have hbb : Below w2.heap.size w2 w3 := by subst hw3; exact bel_alloc (bel_refl _) _
 have g4 : Blk w3 w2.heap.size #[.int .u64 (pl c 0), .int .u64 (pl c 1), .int .u64 (pl c 2), .int .u64 (pl c 3), .int .u64 (pl c 4), .int .u64 (pl c 5), .int .u64 (pl c 6), .int .u64 (pl c 7)] 24 := by subst hw3; exact Blk.new _ _ _
 rw [← hw3]
 clear hw3 c0 l0 c1 l1 c2 l2
 replace hB := bel_trans hB hbb
 replace g0 := g0.grow hbb
 replace g1 := g1.grow hbb
 replace g2 := g2.grow hbb
 replace g3 := g3.grow hbb
 clear hbb
 generalize w2.heap.size = B4 at *
 have c0 := g0.cell
 have l0 := g0.lt
 have c1 := g1.cell
 have l1 := g1.lt
 have c2 := g2.cell
 have l2 := g2.lt
 have c4 := g4.cell
 have l4 := g4.lt
 go_wp2_with fail
 clear c0 l0 c1 l1 c2 l2 c4 l4
 refine (H190.out _ hB).mono ?_
 rintro e w4 ⟨rfl, hb⟩
 replace hB := bel_trans hB hb
 replace g0 := g0.grow hb
 replace g1 := g1.grow hb
 replace g2 := g2.grow hb
 replace g3 := g3.grow hb
 replace g4 := g4.grow hb
 clear hb
 have c0 := g0.cell
 have l0 := g0.lt
 have c1 := g1.cell
 have l1 := g1.lt
 have c2 := g2.cell
 have l2 := g2.lt
 have c4 := g4.cell
 have l4 := g4.lt
 have r3 := g3.row
 rw [← g3.rw]
 clear g3
 go_wp2_with fail
 refine bodyPost_ret (by simp [results, Tryz.results154, go_sem, *]) rfl ⟨rfl, blw_row hB (by omega) _⟩
end Go.Proofs.YtccnkebkgegohaaGreatDoor
end
