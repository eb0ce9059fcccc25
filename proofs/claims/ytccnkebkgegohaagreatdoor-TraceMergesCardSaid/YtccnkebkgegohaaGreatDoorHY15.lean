import Derived.Test.YtccnkebkgegohaaGreatDoorHY3a
import Derived.Test.YtccnkebkgegohaaGreatDoorHY10
import Derived.Test.YtccnkebkgegohaaGreatDoorHY11
import Derived.Test.YtccnkebkgegohaaGreatDoorHY14
/-
  Given contracts of functions of the program, and laws for them, one behind the other.
-/
set_option linter.unusedVariables false
set_option linter.unusedSimpArgs false
set_option linter.unusedSectionVars false
section
namespace Go.Proofs.YtccnkebkgegohaaGreatDoor
open Go.RowKit Go.Rel
set_option maxRecDepth 100000
set_option maxHeartbeats 8000000 in
theorem TraceMerges_many (b0 b1 b2 : Sol) (p0 p1 p2 q0 q1 q2 : Option Addr) (n0 n1 n2 c0 c1 c2 k0 k1 k2 d0 d1 d2 : Nat) (w : World) (hm : (many k0 n0 || (many k1 n1 || many k2 n2)) = true) (HAL : AliveH w) :
    Calls Tryz.prog 4 #[.agg #[.int .u64 (pl b0 0), .int .u64 (pl b0 1), .int .u64 (pl b0 2), .int .u64 (pl b0 3), .int .u64 (pl b0 4), .int .u64 (pl b0 5), .int .u64 (pl b0 6), .int .u64 (pl b0 7), .slice p0 n0 c0, .slice q0 k0 d0], .agg #[.int .u64 (pl b1 0), .int .u64 (pl b1 1), .int .u64 (pl b1 2), .int .u64 (pl b1 3), .int .u64 (pl b1 4), .int .u64 (pl b1 5), .int .u64 (pl b1 6), .int .u64 (pl b1 7), .slice p1 n1 c1, .slice q1 k1 d1], .agg #[.int .u64 (pl b2 0), .int .u64 (pl b2 1), .int .u64 (pl b2 2), .int .u64 (pl b2 3), .int .u64 (pl b2 4), .int .u64 (pl b2 5), .int .u64 (pl b2 6), .int .u64 (pl b2 7), .slice p2 n2 c2, .slice q2 k2 d2]] w fun e w' => e = .returned (.bool true) ∧ Below w.heap.size w w' := by
  go_enter Tryz.func4, Tryz.ntmps4
  go_wp2_with fail
  refine (few3 (b := b0) (p := p0) (q := q0) (n := n0) (c := c0) (k := k0) (d := d0) (b' := b1) (p' := p1) (q' := q1) (n' := n1) (c' := c1) (k' := k1) (d' := d1) (b2 := b2) (p2 := p2) (q2 := q2) (n2 := n2) (c2 := c2) (k2 := k2) (d2 := d2) (t := 30) _ (by repeat (first | (refine Blk.at _ _ ?_; (simp; done)) | refine Blk.alloc ?_ _ | refine Blk.drew ?_))).mono ?_
  rw [hm]
  rintro e w1 ⟨rfl, hb⟩
  have g0 : Blk w1 (w.heap.size) #[.int .u64 (pl b0 0), .int .u64 (pl b0 1), .int .u64 (pl b0 2), .int .u64 (pl b0 3), .int .u64 (pl b0 4), .int .u64 (pl b0 5), .int .u64 (pl b0 6), .int .u64 (pl b0 7), .slice p0 n0 c0, .slice q0 k0 d0] 30 := Blk.grow (by repeat (first | (refine Blk.at _ _ ?_; (simp; done)) | refine Blk.alloc ?_ _ | refine Blk.drew ?_)) hb
  have g1 : Blk w1 (w.heap.size + 1) #[.int .u64 (pl b1 0), .int .u64 (pl b1 1), .int .u64 (pl b1 2), .int .u64 (pl b1 3), .int .u64 (pl b1 4), .int .u64 (pl b1 5), .int .u64 (pl b1 6), .int .u64 (pl b1 7), .slice p1 n1 c1, .slice q1 k1 d1] 30 := Blk.grow (by repeat (first | (refine Blk.at _ _ ?_; (simp; done)) | refine Blk.alloc ?_ _ | refine Blk.drew ?_)) hb
  have g2 : Blk w1 (w.heap.size + 1 + 1) #[.int .u64 (pl b2 0), .int .u64 (pl b2 1), .int .u64 (pl b2 2), .int .u64 (pl b2 3), .int .u64 (pl b2 4), .int .u64 (pl b2 5), .int .u64 (pl b2 6), .int .u64 (pl b2 7), .slice p2 n2 c2, .slice q2 k2 d2] 30 := Blk.grow (by repeat (first | (refine Blk.at _ _ ?_; (simp; done)) | refine Blk.alloc ?_ _ | refine Blk.drew ?_)) hb
  have hB : Below w.heap.size w w1 := bel_trans bni hb
  clear hb
  have c_g0 := g0.cell
  have l_g0 := g0.lt
  have c_g1 := g1.cell
  have l_g1 := g1.lt
  have c_g2 := g2.cell
  have l_g2 := g2.lt
  go_wp2_with fail
  clear c_g0 l_g0
  clear c_g1 l_g1
  clear c_g2 l_g2
  refine (HAL.out _ (bel_trans hB bni)).mono ?_
  rintro e w2 ⟨rfl, hb⟩
  have hbb : Below w1.heap.size w1 w2 := bel_trans bni hb
  replace hB := bel_trans hB hbb
  replace g0 := g0.grow hbb
  replace g1 := g1.grow hbb
  replace g2 := g2.grow hbb
  clear hb hbb
  have c_g0 := g0.cell
  have l_g0 := g0.lt
  have c_g1 := g1.cell
  have l_g1 := g1.lt
  have c_g2 := g2.cell
  have l_g2 := g2.lt
  go_wp2_with fail
  clear c_g0 l_g0
  clear c_g1 l_g1
  clear c_g2 l_g2
  refine bodyPost_ret (v := .bool true) (by simp [results, Tryz.results4, go_sem]) rfl ⟨rfl, hB⟩
set_option maxHeartbeats 8000000 in
theorem TraceMerges_other (b0 b1 b2 : Sol) (p0 p1 p2 q0 q1 q2 : Option Addr) (n0 n1 n2 c0 c1 c2 k0 k1 k2 d0 d1 d2 : Nat) (w : World) (hm : (many k0 n0 || (many k1 n1 || many k2 n2)) = false) (H25 : Hid (∀ w', Below w.heap.size w w' → Calls Tryz.prog 25 #[.agg #[.int .u64 (pl b0 0), .int .u64 (pl b0 1), .int .u64 (pl b0 2), .int .u64 (pl b0 3), .int .u64 (pl b0 4), .int .u64 (pl b0 5), .int .u64 (pl b0 6), .int .u64 (pl b0 7), .slice p0 n0 c0], .agg #[.int .u64 (pl b1 0), .int .u64 (pl b1 1), .int .u64 (pl b1 2), .int .u64 (pl b1 3), .int .u64 (pl b1 4), .int .u64 (pl b1 5), .int .u64 (pl b1 6), .int .u64 (pl b1 7), .slice p1 n1 c1]] w' fun e w'' => e = .returned (.bool false) ∧ Below w'.heap.size w' w'')) (HAL : AliveH w) :
    Calls Tryz.prog 4 #[.agg #[.int .u64 (pl b0 0), .int .u64 (pl b0 1), .int .u64 (pl b0 2), .int .u64 (pl b0 3), .int .u64 (pl b0 4), .int .u64 (pl b0 5), .int .u64 (pl b0 6), .int .u64 (pl b0 7), .slice p0 n0 c0, .slice q0 k0 d0], .agg #[.int .u64 (pl b1 0), .int .u64 (pl b1 1), .int .u64 (pl b1 2), .int .u64 (pl b1 3), .int .u64 (pl b1 4), .int .u64 (pl b1 5), .int .u64 (pl b1 6), .int .u64 (pl b1 7), .slice p1 n1 c1, .slice q1 k1 d1], .agg #[.int .u64 (pl b2 0), .int .u64 (pl b2 1), .int .u64 (pl b2 2), .int .u64 (pl b2 3), .int .u64 (pl b2 4), .int .u64 (pl b2 5), .int .u64 (pl b2 6), .int .u64 (pl b2 7), .slice p2 n2 c2, .slice q2 k2 d2]] w fun e w' => e = .returned (.bool true) ∧ Below w.heap.size w w' := by
  go_enter Tryz.func4, Tryz.ntmps4
  go_wp2_with fail
  refine (few3 (b := b0) (p := p0) (q := q0) (n := n0) (c := c0) (k := k0) (d := d0) (b' := b1) (p' := p1) (q' := q1) (n' := n1) (c' := c1) (k' := k1) (d' := d1) (b2 := b2) (p2 := p2) (q2 := q2) (n2 := n2) (c2 := c2) (k2 := k2) (d2 := d2) (t := 30) _ (by repeat (first | (refine Blk.at _ _ ?_; (simp; done)) | refine Blk.alloc ?_ _ | refine Blk.drew ?_))).mono ?_
  rw [hm]
  rintro e w1 ⟨rfl, hb⟩
  have g0 : Blk w1 (w.heap.size) #[.int .u64 (pl b0 0), .int .u64 (pl b0 1), .int .u64 (pl b0 2), .int .u64 (pl b0 3), .int .u64 (pl b0 4), .int .u64 (pl b0 5), .int .u64 (pl b0 6), .int .u64 (pl b0 7), .slice p0 n0 c0, .slice q0 k0 d0] 30 := Blk.grow (by repeat (first | (refine Blk.at _ _ ?_; (simp; done)) | refine Blk.alloc ?_ _ | refine Blk.drew ?_)) hb
  have g1 : Blk w1 (w.heap.size + 1) #[.int .u64 (pl b1 0), .int .u64 (pl b1 1), .int .u64 (pl b1 2), .int .u64 (pl b1 3), .int .u64 (pl b1 4), .int .u64 (pl b1 5), .int .u64 (pl b1 6), .int .u64 (pl b1 7), .slice p1 n1 c1, .slice q1 k1 d1] 30 := Blk.grow (by repeat (first | (refine Blk.at _ _ ?_; (simp; done)) | refine Blk.alloc ?_ _ | refine Blk.drew ?_)) hb
  have g2 : Blk w1 (w.heap.size + 1 + 1) #[.int .u64 (pl b2 0), .int .u64 (pl b2 1), .int .u64 (pl b2 2), .int .u64 (pl b2 3), .int .u64 (pl b2 4), .int .u64 (pl b2 5), .int .u64 (pl b2 6), .int .u64 (pl b2 7), .slice p2 n2 c2, .slice q2 k2 d2] 30 := Blk.grow (by repeat (first | (refine Blk.at _ _ ?_; (simp; done)) | refine Blk.alloc ?_ _ | refine Blk.drew ?_)) hb
  have hB : Below w.heap.size w w1 := bel_trans bni hb
  clear hb
  have c_g0 := g0.cell
  have l_g0 := g0.lt
  have c_g1 := g1.cell
  have l_g1 := g1.lt
  have c_g2 := g2.cell
  have l_g2 := g2.lt
  go_wp2_with fail
  clear c_g0 l_g0
  clear c_g1 l_g1
  clear c_g2 l_g2
  refine (H25.out _ (bel_trans hB bni)).mono ?_
  rintro e w2 ⟨rfl, hb⟩
  have hbb : Below w1.heap.size w1 w2 := bel_trans bni hb
  replace hB := bel_trans hB hbb
  replace g0 := g0.grow hbb
  replace g1 := g1.grow hbb
  replace g2 := g2.grow hbb
  clear hb hbb
  have c_g0 := g0.cell
  have l_g0 := g0.lt
  have c_g1 := g1.cell
  have l_g1 := g1.lt
  have c_g2 := g2.cell
  have l_g2 := g2.lt
  go_wp2_with fail
  clear c_g0 l_g0
  clear c_g1 l_g1
  clear c_g2 l_g2
  refine (HAL.out _ (bel_trans hB bni)).mono ?_
  rintro e w3 ⟨rfl, hb⟩
  have hbb : Below w2.heap.size w2 w3 := bel_trans bni hb
  replace hB := bel_trans hB hbb
  replace g0 := g0.grow hbb
  replace g1 := g1.grow hbb
  replace g2 := g2.grow hbb
  clear hb hbb
  have c_g0 := g0.cell
  have l_g0 := g0.lt
  have c_g1 := g1.cell
  have l_g1 := g1.lt
  have c_g2 := g2.cell
  have l_g2 := g2.lt
  go_wp2_with fail
  clear c_g0 l_g0
  clear c_g1 l_g1
  clear c_g2 l_g2
  refine bodyPost_ret (v := .bool true) (by simp [results, Tryz.results4, go_sem]) rfl ⟨rfl, hB⟩
set_option maxHeartbeats 8000000 in
theorem TraceMerges_other2 (b0 b1 b2 : Sol) (p0 p1 p2 q0 q1 q2 : Option Addr) (n0 n1 n2 c0 c1 c2 k0 k1 k2 d0 d1 d2 : Nat) (w : World) (hm : (many k0 n0 || (many k1 n1 || many k2 n2)) = false) (H25 : Hid (∀ w', Below w.heap.size w w' → Calls Tryz.prog 25 #[.agg #[.int .u64 (pl b0 0), .int .u64 (pl b0 1), .int .u64 (pl b0 2), .int .u64 (pl b0 3), .int .u64 (pl b0 4), .int .u64 (pl b0 5), .int .u64 (pl b0 6), .int .u64 (pl b0 7), .slice p0 n0 c0], .agg #[.int .u64 (pl b1 0), .int .u64 (pl b1 1), .int .u64 (pl b1 2), .int .u64 (pl b1 3), .int .u64 (pl b1 4), .int .u64 (pl b1 5), .int .u64 (pl b1 6), .int .u64 (pl b1 7), .slice p1 n1 c1]] w' fun e w'' => e = .returned (.bool true) ∧ Below w'.heap.size w' w'')) (H25b : Hid (∀ w', Below w.heap.size w w' → Calls Tryz.prog 25 #[.agg #[.int .u64 (pl b0 0), .int .u64 (pl b0 1), .int .u64 (pl b0 2), .int .u64 (pl b0 3), .int .u64 (pl b0 4), .int .u64 (pl b0 5), .int .u64 (pl b0 6), .int .u64 (pl b0 7), .slice p0 n0 c0], .agg #[.int .u64 (pl b2 0), .int .u64 (pl b2 1), .int .u64 (pl b2 2), .int .u64 (pl b2 3), .int .u64 (pl b2 4), .int .u64 (pl b2 5), .int .u64 (pl b2 6), .int .u64 (pl b2 7), .slice p2 n2 c2]] w' fun e w'' => e = .returned (.bool false) ∧ Below w'.heap.size w' w'')) (HAL : AliveH w) :
    Calls Tryz.prog 4 #[.agg #[.int .u64 (pl b0 0), .int .u64 (pl b0 1), .int .u64 (pl b0 2), .int .u64 (pl b0 3), .int .u64 (pl b0 4), .int .u64 (pl b0 5), .int .u64 (pl b0 6), .int .u64 (pl b0 7), .slice p0 n0 c0, .slice q0 k0 d0], .agg #[.int .u64 (pl b1 0), .int .u64 (pl b1 1), .int .u64 (pl b1 2), .int .u64 (pl b1 3), .int .u64 (pl b1 4), .int .u64 (pl b1 5), .int .u64 (pl b1 6), .int .u64 (pl b1 7), .slice p1 n1 c1, .slice q1 k1 d1], .agg #[.int .u64 (pl b2 0), .int .u64 (pl b2 1), .int .u64 (pl b2 2), .int .u64 (pl b2 3), .int .u64 (pl b2 4), .int .u64 (pl b2 5), .int .u64 (pl b2 6), .int .u64 (pl b2 7), .slice p2 n2 c2, .slice q2 k2 d2]] w fun e w' => e = .returned (.bool true) ∧ Below w.heap.size w w' := by
  go_enter Tryz.func4, Tryz.ntmps4
  go_wp2_with fail
  refine (few3 (b := b0) (p := p0) (q := q0) (n := n0) (c := c0) (k := k0) (d := d0) (b' := b1) (p' := p1) (q' := q1) (n' := n1) (c' := c1) (k' := k1) (d' := d1) (b2 := b2) (p2 := p2) (q2 := q2) (n2 := n2) (c2 := c2) (k2 := k2) (d2 := d2) (t := 30) _ (by repeat (first | (refine Blk.at _ _ ?_; (simp; done)) | refine Blk.alloc ?_ _ | refine Blk.drew ?_))).mono ?_
  rw [hm]
  rintro e w1 ⟨rfl, hb⟩
  have g0 : Blk w1 (w.heap.size) #[.int .u64 (pl b0 0), .int .u64 (pl b0 1), .int .u64 (pl b0 2), .int .u64 (pl b0 3), .int .u64 (pl b0 4), .int .u64 (pl b0 5), .int .u64 (pl b0 6), .int .u64 (pl b0 7), .slice p0 n0 c0, .slice q0 k0 d0] 30 := Blk.grow (by repeat (first | (refine Blk.at _ _ ?_; (simp; done)) | refine Blk.alloc ?_ _ | refine Blk.drew ?_)) hb
  have g1 : Blk w1 (w.heap.size + 1) #[.int .u64 (pl b1 0), .int .u64 (pl b1 1), .int .u64 (pl b1 2), .int .u64 (pl b1 3), .int .u64 (pl b1 4), .int .u64 (pl b1 5), .int .u64 (pl b1 6), .int .u64 (pl b1 7), .slice p1 n1 c1, .slice q1 k1 d1] 30 := Blk.grow (by repeat (first | (refine Blk.at _ _ ?_; (simp; done)) | refine Blk.alloc ?_ _ | refine Blk.drew ?_)) hb
  have g2 : Blk w1 (w.heap.size + 1 + 1) #[.int .u64 (pl b2 0), .int .u64 (pl b2 1), .int .u64 (pl b2 2), .int .u64 (pl b2 3), .int .u64 (pl b2 4), .int .u64 (pl b2 5), .int .u64 (pl b2 6), .int .u64 (pl b2 7), .slice p2 n2 c2, .slice q2 k2 d2] 30 := Blk.grow (by repeat (first | (refine Blk.at _ _ ?_; (simp; done)) | refine Blk.alloc ?_ _ | refine Blk.drew ?_)) hb
  have hB : Below w.heap.size w w1 := bel_trans bni hb
  clear hb
  have c_g0 := g0.cell
  have l_g0 := g0.lt
  have c_g1 := g1.cell
  have l_g1 := g1.lt
  have c_g2 := g2.cell
  have l_g2 := g2.lt
  go_wp2_with fail
  clear c_g0 l_g0
  clear c_g1 l_g1
  clear c_g2 l_g2
  refine (H25.out _ (bel_trans hB bni)).mono ?_
  rintro e w2 ⟨rfl, hb⟩
  have hbb : Below w1.heap.size w1 w2 := bel_trans bni hb
  replace hB := bel_trans hB hbb
  replace g0 := g0.grow hbb
  replace g1 := g1.grow hbb
  replace g2 := g2.grow hbb
  clear hb hbb
  have c_g0 := g0.cell
  have l_g0 := g0.lt
  have c_g1 := g1.cell
  have l_g1 := g1.lt
  have c_g2 := g2.cell
  have l_g2 := g2.lt
  go_wp2_with fail
  clear c_g0 l_g0
  clear c_g1 l_g1
  clear c_g2 l_g2
  refine (H25b.out _ (bel_trans hB bni)).mono ?_
  rintro e w3 ⟨rfl, hb⟩
  have hbb : Below w2.heap.size w2 w3 := bel_trans bni hb
  replace hB := bel_trans hB hbb
  replace g0 := g0.grow hbb
  replace g1 := g1.grow hbb
  replace g2 := g2.grow hbb
  clear hb hbb
  have c_g0 := g0.cell
  have l_g0 := g0.lt
  have c_g1 := g1.cell
  have l_g1 := g1.lt
  have c_g2 := g2.cell
  have l_g2 := g2.lt
  go_wp2_with fail
  clear c_g0 l_g0
  clear c_g1 l_g1
  clear c_g2 l_g2
  refine (HAL.out _ (bel_trans hB bni)).mono ?_
  rintro e w4 ⟨rfl, hb⟩
  have hbb : Below w3.heap.size w3 w4 := bel_trans bni hb
  replace hB := bel_trans hB hbb
  replace g0 := g0.grow hbb
  replace g1 := g1.grow hbb
  replace g2 := g2.grow hbb
  clear hb hbb
  have c_g0 := g0.cell
  have l_g0 := g0.lt
  have c_g1 := g1.cell
  have l_g1 := g1.lt
  have c_g2 := g2.cell
  have l_g2 := g2.lt
  go_wp2_with fail
  clear c_g0 l_g0
  clear c_g1 l_g1
  clear c_g2 l_g2
  refine bodyPost_ret (v := .bool true) (by simp [results, Tryz.results4, go_sem]) rfl ⟨rfl, hB⟩
set_option maxHeartbeats 8000000 in
theorem TraceMerges_bad (b : Sol) (p0 p1 p2 q0 q1 q2 : Option Addr) (n0 n1 n2 c0 c1 c2 k0 k1 k2 d0 d1 d2 : Nat) (w : World) (hm : (many k0 n0 || (many k1 n1 || many k2 n2)) = false) (H25 : Hid (∀ w', Below w.heap.size w w' → Calls Tryz.prog 25 #[.agg #[.int .u64 (pl b 0), .int .u64 (pl b 1), .int .u64 (pl b 2), .int .u64 (pl b 3), .int .u64 (pl b 4), .int .u64 (pl b 5), .int .u64 (pl b 6), .int .u64 (pl b 7), .slice p0 n0 c0], .agg #[.int .u64 (pl b 0), .int .u64 (pl b 1), .int .u64 (pl b 2), .int .u64 (pl b 3), .int .u64 (pl b 4), .int .u64 (pl b 5), .int .u64 (pl b 6), .int .u64 (pl b 7), .slice p1 n1 c1]] w' fun e w'' => e = .returned (.bool true) ∧ Below w'.heap.size w' w'')) (H25b : Hid (∀ w', Below w.heap.size w w' → Calls Tryz.prog 25 #[.agg #[.int .u64 (pl b 0), .int .u64 (pl b 1), .int .u64 (pl b 2), .int .u64 (pl b 3), .int .u64 (pl b 4), .int .u64 (pl b 5), .int .u64 (pl b 6), .int .u64 (pl b 7), .slice p0 n0 c0], .agg #[.int .u64 (pl b 0), .int .u64 (pl b 1), .int .u64 (pl b 2), .int .u64 (pl b 3), .int .u64 (pl b 4), .int .u64 (pl b 5), .int .u64 (pl b 6), .int .u64 (pl b 7), .slice p2 n2 c2]] w' fun e w'' => e = .returned (.bool true) ∧ Below w'.heap.size w' w'')) (x y z z2 : Int) (hz : (z != 0) = true) (hz1 : (z == 0) = false) (hz2 : (z2 == 0) = false) (H26 : Hid (∀ w', Below w.heap.size w w' → Calls Tryz.prog 26 #[.agg #[.int .u64 (pl b 0), .int .u64 (pl b 1), .int .u64 (pl b 2), .int .u64 (pl b 3), .int .u64 (pl b 4), .int .u64 (pl b 5), .int .u64 (pl b 6), .int .u64 (pl b 7), .slice p0 n0 c0, .slice q0 k0 d0], .agg #[.int .u64 (pl b 0), .int .u64 (pl b 1), .int .u64 (pl b 2), .int .u64 (pl b 3), .int .u64 (pl b 4), .int .u64 (pl b 5), .int .u64 (pl b 6), .int .u64 (pl b 7), .slice p1 n1 c1, .slice q1 k1 d1]] w' (HRes 0 [] [] z w'))) (H26b : Hid (∀ w', Below w.heap.size w w' → Calls Tryz.prog 26 #[.agg #[.int .u64 (pl b 0), .int .u64 (pl b 1), .int .u64 (pl b 2), .int .u64 (pl b 3), .int .u64 (pl b 4), .int .u64 (pl b 5), .int .u64 (pl b 6), .int .u64 (pl b 7), .slice p1 n1 c1, .slice q1 k1 d1], .agg #[.int .u64 (pl b 0), .int .u64 (pl b 1), .int .u64 (pl b 2), .int .u64 (pl b 3), .int .u64 (pl b 4), .int .u64 (pl b 5), .int .u64 (pl b 6), .int .u64 (pl b 7), .slice p0 n0 c0, .slice q0 k0 d0]] w' (HRes 0 [] [] z2 w'))) (H27 : Hid (∀ w', Below w.heap.size w w' → Calls Tryz.prog 27 #[.agg #[.int .u64 (pl b 0), .int .u64 (pl b 1), .int .u64 (pl b 2), .int .u64 (pl b 3), .int .u64 (pl b 4), .int .u64 (pl b 5), .int .u64 (pl b 6), .int .u64 (pl b 7), .slice p2 n2 c2, .slice q2 k2 d2]] w' fun e w'' => e = .returned (.tuple #[.int .i64 x, .int .i64 y]) ∧ Below w'.heap.size w' w'')) (HAL : AliveH w) :
    Calls Tryz.prog 4 #[.agg #[.int .u64 (pl b 0), .int .u64 (pl b 1), .int .u64 (pl b 2), .int .u64 (pl b 3), .int .u64 (pl b 4), .int .u64 (pl b 5), .int .u64 (pl b 6), .int .u64 (pl b 7), .slice p0 n0 c0, .slice q0 k0 d0], .agg #[.int .u64 (pl b 0), .int .u64 (pl b 1), .int .u64 (pl b 2), .int .u64 (pl b 3), .int .u64 (pl b 4), .int .u64 (pl b 5), .int .u64 (pl b 6), .int .u64 (pl b 7), .slice p1 n1 c1, .slice q1 k1 d1], .agg #[.int .u64 (pl b 0), .int .u64 (pl b 1), .int .u64 (pl b 2), .int .u64 (pl b 3), .int .u64 (pl b 4), .int .u64 (pl b 5), .int .u64 (pl b 6), .int .u64 (pl b 7), .slice p2 n2 c2, .slice q2 k2 d2]] w fun e w' => e = .returned (.bool true) ∧ Below w.heap.size w w' := by
  go_enter Tryz.func4, Tryz.ntmps4
  go_wp2_with fail
  refine (few3 (b := b) (p := p0) (q := q0) (n := n0) (c := c0) (k := k0) (d := d0) (b' := b) (p' := p1) (q' := q1) (n' := n1) (c' := c1) (k' := k1) (d' := d1) (b2 := b) (p2 := p2) (q2 := q2) (n2 := n2) (c2 := c2) (k2 := k2) (d2 := d2) (t := 30) _ (by repeat (first | (refine Blk.at _ _ ?_; (simp; done)) | refine Blk.alloc ?_ _ | refine Blk.drew ?_))).mono ?_
  rw [hm]
  rintro e w1 ⟨rfl, hb⟩
  have g0 : Blk w1 (w.heap.size) #[.int .u64 (pl b 0), .int .u64 (pl b 1), .int .u64 (pl b 2), .int .u64 (pl b 3), .int .u64 (pl b 4), .int .u64 (pl b 5), .int .u64 (pl b 6), .int .u64 (pl b 7), .slice p0 n0 c0, .slice q0 k0 d0] 30 := Blk.grow (by repeat (first | (refine Blk.at _ _ ?_; (simp; done)) | refine Blk.alloc ?_ _ | refine Blk.drew ?_)) hb
  have g1 : Blk w1 (w.heap.size + 1) #[.int .u64 (pl b 0), .int .u64 (pl b 1), .int .u64 (pl b 2), .int .u64 (pl b 3), .int .u64 (pl b 4), .int .u64 (pl b 5), .int .u64 (pl b 6), .int .u64 (pl b 7), .slice p1 n1 c1, .slice q1 k1 d1] 30 := Blk.grow (by repeat (first | (refine Blk.at _ _ ?_; (simp; done)) | refine Blk.alloc ?_ _ | refine Blk.drew ?_)) hb
  have g2 : Blk w1 (w.heap.size + 1 + 1) #[.int .u64 (pl b 0), .int .u64 (pl b 1), .int .u64 (pl b 2), .int .u64 (pl b 3), .int .u64 (pl b 4), .int .u64 (pl b 5), .int .u64 (pl b 6), .int .u64 (pl b 7), .slice p2 n2 c2, .slice q2 k2 d2] 30 := Blk.grow (by repeat (first | (refine Blk.at _ _ ?_; (simp; done)) | refine Blk.alloc ?_ _ | refine Blk.drew ?_)) hb
  have hB : Below w.heap.size w w1 := bel_trans bni hb
  clear hb
  have c_g0 := g0.cell
  have l_g0 := g0.lt
  have c_g1 := g1.cell
  have l_g1 := g1.lt
  have c_g2 := g2.cell
  have l_g2 := g2.lt
  go_wp2_with fail
  clear c_g0 l_g0
  clear c_g1 l_g1
  clear c_g2 l_g2
  refine (H25.out _ (bel_trans hB bni)).mono ?_
  rintro e w2 ⟨rfl, hb⟩
  have hbb : Below w1.heap.size w1 w2 := bel_trans bni hb
  replace hB := bel_trans hB hbb
  replace g0 := g0.grow hbb
  replace g1 := g1.grow hbb
  replace g2 := g2.grow hbb
  clear hb hbb
  have c_g0 := g0.cell
  have l_g0 := g0.lt
  have c_g1 := g1.cell
  have l_g1 := g1.lt
  have c_g2 := g2.cell
  have l_g2 := g2.lt
  go_wp2_with fail
  clear c_g0 l_g0
  clear c_g1 l_g1
  clear c_g2 l_g2
  refine (H25b.out _ (bel_trans hB bni)).mono ?_
  rintro e w3 ⟨rfl, hb⟩
  have hbb : Below w2.heap.size w2 w3 := bel_trans bni hb
  replace hB := bel_trans hB hbb
  replace g0 := g0.grow hbb
  replace g1 := g1.grow hbb
  replace g2 := g2.grow hbb
  clear hb hbb
  have c_g0 := g0.cell
  have l_g0 := g0.lt
  have c_g1 := g1.cell
  have l_g1 := g1.lt
  have c_g2 := g2.cell
  have l_g2 := g2.lt
  go_wp2_with fail
  clear c_g0 l_g0
  clear c_g1 l_g1
  clear c_g2 l_g2
  refine (H26.out _ (bel_trans hB bni)).mono ?_
  rintro e w4 ⟨p7, n7, c7, q7, k7, d7, rfl, S7, A7, hb⟩
  have hbb : Below w3.heap.size w3 w4 := bel_trans bni hb
  replace hB := bel_trans hB hbb
  replace g0 := g0.grow hbb
  replace g1 := g1.grow hbb
  replace g2 := g2.grow hbb
  clear hb hbb
  clear S7
  clear A7
  have c_g0 := g0.cell
  have l_g0 := g0.lt
  have c_g1 := g1.cell
  have l_g1 := g1.lt
  have c_g2 := g2.cell
  have l_g2 := g2.lt
  go_wp2_with fail
  clear c_g0 l_g0
  clear c_g1 l_g1
  clear c_g2 l_g2
  refine (H26b.out _ (bel_trans hB bni)).mono ?_
  rintro e w5 ⟨p9, n9, c9, q9, k9, d9, rfl, S9, A9, hb⟩
  have hbb : Below w4.heap.size w4 w5 := bel_trans bni hb
  replace hB := bel_trans hB hbb
  replace g0 := g0.grow hbb
  replace g1 := g1.grow hbb
  replace g2 := g2.grow hbb
  clear hb hbb
  clear S9
  clear A9
  have c_g0 := g0.cell
  have l_g0 := g0.lt
  have c_g1 := g1.cell
  have l_g1 := g1.lt
  have c_g2 := g2.cell
  have l_g2 := g2.lt
  go_wp2_with fail
  clear c_g0 l_g0
  clear c_g1 l_g1
  clear c_g2 l_g2
  refine (H27.out _ (bel_trans hB bni)).mono ?_
  rintro e w6 ⟨rfl, hb⟩
  have hbb : Below w5.heap.size w5 w6 := bel_trans bni hb
  replace hB := bel_trans hB hbb
  replace g0 := g0.grow hbb
  replace g1 := g1.grow hbb
  replace g2 := g2.grow hbb
  clear hb hbb
  have c_g0 := g0.cell
  have l_g0 := g0.lt
  have c_g1 := g1.cell
  have l_g1 := g1.lt
  have c_g2 := g2.cell
  have l_g2 := g2.lt
  go_wp2_with fail
  clear c_g0 l_g0
  clear c_g1 l_g1
  clear c_g2 l_g2
  refine (HAL.out _ (bel_trans hB bni)).mono ?_
  rintro e w7 ⟨rfl, hb⟩
  have hbb : Below w6.heap.size w6 w7 := bel_trans bni hb
  replace hB := bel_trans hB hbb
  replace g0 := g0.grow hbb
  replace g1 := g1.grow hbb
  replace g2 := g2.grow hbb
  clear hb hbb
  have c_g0 := g0.cell
  have l_g0 := g0.lt
  have c_g1 := g1.cell
  have l_g1 := g1.lt
  have c_g2 := g2.cell
  have l_g2 := g2.lt
  go_wp2_with fail
  clear c_g0 l_g0
  clear c_g1 l_g1
  clear c_g2 l_g2
  refine bodyPost_ret (v := .bool true) (by simp [results, Tryz.results4, go_sem]) rfl ⟨rfl, hB⟩
set_option maxHeartbeats 8000000 in
theorem TraceMerges_bad3 (b : Sol) (p0 p1 p2 q0 q1 q2 : Option Addr) (n0 n1 n2 c0 c1 c2 k0 k1 k2 d0 d1 d2 : Nat) (w : World) (hm : (many k0 n0 || (many k1 n1 || many k2 n2)) = false) (H25 : Hid (∀ w', Below w.heap.size w w' → Calls Tryz.prog 25 #[.agg #[.int .u64 (pl b 0), .int .u64 (pl b 1), .int .u64 (pl b 2), .int .u64 (pl b 3), .int .u64 (pl b 4), .int .u64 (pl b 5), .int .u64 (pl b 6), .int .u64 (pl b 7), .slice p0 n0 c0], .agg #[.int .u64 (pl b 0), .int .u64 (pl b 1), .int .u64 (pl b 2), .int .u64 (pl b 3), .int .u64 (pl b 4), .int .u64 (pl b 5), .int .u64 (pl b 6), .int .u64 (pl b 7), .slice p1 n1 c1]] w' fun e w'' => e = .returned (.bool true) ∧ Below w'.heap.size w' w'')) (H25b : Hid (∀ w', Below w.heap.size w w' → Calls Tryz.prog 25 #[.agg #[.int .u64 (pl b 0), .int .u64 (pl b 1), .int .u64 (pl b 2), .int .u64 (pl b 3), .int .u64 (pl b 4), .int .u64 (pl b 5), .int .u64 (pl b 6), .int .u64 (pl b 7), .slice p0 n0 c0], .agg #[.int .u64 (pl b 0), .int .u64 (pl b 1), .int .u64 (pl b 2), .int .u64 (pl b 3), .int .u64 (pl b 4), .int .u64 (pl b 5), .int .u64 (pl b 6), .int .u64 (pl b 7), .slice p2 n2 c2]] w' fun e w'' => e = .returned (.bool true) ∧ Below w'.heap.size w' w'')) {l : List Sol} {g h k : List Ac} {s t u : StB} (HR : Hid (Runs b l g s ∧ Runs b l h t)) (HS0 : Hid (SlS w (.slice p0 n0 c0) l ∧ SlA w (.slice q0 k0 d0) g)) (HS1 : Hid (SlS w (.slice p1 n1 c1) l ∧ SlA w (.slice q1 k1 d1) h)) (hF : Hid (Free2 l g h)) (hlen : g.length + h.length ≤ 60) (hlen2 : h.length + g.length ≤ 60) (x y : Int) (hy : (y != 0) = true) (H27 : Hid (∀ w', Below w.heap.size w w' → Calls Tryz.prog 27 #[.agg #[.int .u64 (pl b 0), .int .u64 (pl b 1), .int .u64 (pl b 2), .int .u64 (pl b 3), .int .u64 (pl b 4), .int .u64 (pl b 5), .int .u64 (pl b 6), .int .u64 (pl b 7), .slice p2 n2 c2, .slice q2 k2 d2]] w' fun e w'' => e = .returned (.tuple #[.int .i64 x, .int .i64 y]) ∧ Below w'.heap.size w' w'')) (HAL : AliveH w) :
    Calls Tryz.prog 4 #[.agg #[.int .u64 (pl b 0), .int .u64 (pl b 1), .int .u64 (pl b 2), .int .u64 (pl b 3), .int .u64 (pl b 4), .int .u64 (pl b 5), .int .u64 (pl b 6), .int .u64 (pl b 7), .slice p0 n0 c0, .slice q0 k0 d0], .agg #[.int .u64 (pl b 0), .int .u64 (pl b 1), .int .u64 (pl b 2), .int .u64 (pl b 3), .int .u64 (pl b 4), .int .u64 (pl b 5), .int .u64 (pl b 6), .int .u64 (pl b 7), .slice p1 n1 c1, .slice q1 k1 d1], .agg #[.int .u64 (pl b 0), .int .u64 (pl b 1), .int .u64 (pl b 2), .int .u64 (pl b 3), .int .u64 (pl b 4), .int .u64 (pl b 5), .int .u64 (pl b 6), .int .u64 (pl b 7), .slice p2 n2 c2, .slice q2 k2 d2]] w fun e w' => e = .returned (.bool true) ∧ Below w.heap.size w w' := by
  go_enter Tryz.func4, Tryz.ntmps4
  go_wp2_with fail
  refine (few3 (b := b) (p := p0) (q := q0) (n := n0) (c := c0) (k := k0) (d := d0) (b' := b) (p' := p1) (q' := q1) (n' := n1) (c' := c1) (k' := k1) (d' := d1) (b2 := b) (p2 := p2) (q2 := q2) (n2 := n2) (c2 := c2) (k2 := k2) (d2 := d2) (t := 30) _ (by repeat (first | (refine Blk.at _ _ ?_; (simp; done)) | refine Blk.alloc ?_ _ | refine Blk.drew ?_))).mono ?_
  rw [hm]
  rintro e w1 ⟨rfl, hb⟩
  have g0 : Blk w1 (w.heap.size) #[.int .u64 (pl b 0), .int .u64 (pl b 1), .int .u64 (pl b 2), .int .u64 (pl b 3), .int .u64 (pl b 4), .int .u64 (pl b 5), .int .u64 (pl b 6), .int .u64 (pl b 7), .slice p0 n0 c0, .slice q0 k0 d0] 30 := Blk.grow (by repeat (first | (refine Blk.at _ _ ?_; (simp; done)) | refine Blk.alloc ?_ _ | refine Blk.drew ?_)) hb
  have g1 : Blk w1 (w.heap.size + 1) #[.int .u64 (pl b 0), .int .u64 (pl b 1), .int .u64 (pl b 2), .int .u64 (pl b 3), .int .u64 (pl b 4), .int .u64 (pl b 5), .int .u64 (pl b 6), .int .u64 (pl b 7), .slice p1 n1 c1, .slice q1 k1 d1] 30 := Blk.grow (by repeat (first | (refine Blk.at _ _ ?_; (simp; done)) | refine Blk.alloc ?_ _ | refine Blk.drew ?_)) hb
  have g2 : Blk w1 (w.heap.size + 1 + 1) #[.int .u64 (pl b 0), .int .u64 (pl b 1), .int .u64 (pl b 2), .int .u64 (pl b 3), .int .u64 (pl b 4), .int .u64 (pl b 5), .int .u64 (pl b 6), .int .u64 (pl b 7), .slice p2 n2 c2, .slice q2 k2 d2] 30 := Blk.grow (by repeat (first | (refine Blk.at _ _ ?_; (simp; done)) | refine Blk.alloc ?_ _ | refine Blk.drew ?_)) hb
  have hB : Below w.heap.size w w1 := bel_trans bni hb
  replace HS0 := Lib.hid (And.intro (HS0.out.1.mono hB) (HS0.out.2.mono hB))
  replace HS1 := Lib.hid (And.intro (HS1.out.1.mono hB) (HS1.out.2.mono hB))
  clear hb
  have c_g0 := g0.cell
  have l_g0 := g0.lt
  have c_g1 := g1.cell
  have l_g1 := g1.lt
  have c_g2 := g2.cell
  have l_g2 := g2.lt
  go_wp2_with fail
  clear c_g0 l_g0
  clear c_g1 l_g1
  clear c_g2 l_g2
  refine (H25.out _ (bel_trans hB bni)).mono ?_
  rintro e w2 ⟨rfl, hb⟩
  have hbb : Below w1.heap.size w1 w2 := bel_trans bni hb
  replace hB := bel_trans hB hbb
  replace g0 := g0.grow hbb
  replace g1 := g1.grow hbb
  replace g2 := g2.grow hbb
  replace HS0 := Lib.hid (And.intro (HS0.out.1.mono hbb) (HS0.out.2.mono hbb))
  replace HS1 := Lib.hid (And.intro (HS1.out.1.mono hbb) (HS1.out.2.mono hbb))
  clear hb hbb
  have c_g0 := g0.cell
  have l_g0 := g0.lt
  have c_g1 := g1.cell
  have l_g1 := g1.lt
  have c_g2 := g2.cell
  have l_g2 := g2.lt
  go_wp2_with fail
  clear c_g0 l_g0
  clear c_g1 l_g1
  clear c_g2 l_g2
  refine (H25b.out _ (bel_trans hB bni)).mono ?_
  rintro e w3 ⟨rfl, hb⟩
  have hbb : Below w2.heap.size w2 w3 := bel_trans bni hb
  replace hB := bel_trans hB hbb
  replace g0 := g0.grow hbb
  replace g1 := g1.grow hbb
  replace g2 := g2.grow hbb
  replace HS0 := Lib.hid (And.intro (HS0.out.1.mono hbb) (HS0.out.2.mono hbb))
  replace HS1 := Lib.hid (And.intro (HS1.out.1.mono hbb) (HS1.out.2.mono hbb))
  clear hb hbb
  have c_g0 := g0.cell
  have l_g0 := g0.lt
  have c_g1 := g1.cell
  have l_g1 := g1.lt
  have c_g2 := g2.cell
  have l_g2 := g2.lt
  go_wp2_with fail
  clear c_g0 l_g0
  clear c_g1 l_g1
  clear c_g2 l_g2
  refine (Merge_j HR.out.1 HR.out.2 hF.out hlen _ (HS0.out.1.mono bni) (HS0.out.2.mono bni) (HS1.out.1.mono bni) (HS1.out.2.mono bni)).mono ?_
  rintro e w4 ⟨p7, n7, c7, q7, k7, d7, rfl, S7, A7, hb⟩
  have hbb : Below w3.heap.size w3 w4 := bel_trans bni hb
  replace hB := bel_trans hB hbb
  replace g0 := g0.grow hbb
  replace g1 := g1.grow hbb
  replace g2 := g2.grow hbb
  replace HS0 := Lib.hid (And.intro (HS0.out.1.mono hbb) (HS0.out.2.mono hbb))
  replace HS1 := Lib.hid (And.intro (HS1.out.1.mono hbb) (HS1.out.2.mono hbb))
  clear hb hbb
  have HS7 := Lib.hid (And.intro S7 A7)
  clear S7 A7
  have c_g0 := g0.cell
  have l_g0 := g0.lt
  have c_g1 := g1.cell
  have l_g1 := g1.lt
  have c_g2 := g2.cell
  have l_g2 := g2.lt
  go_wp2_with fail
  clear c_g0 l_g0
  clear c_g1 l_g1
  clear c_g2 l_g2
  refine (Merge_j HR.out.2 HR.out.1 (free2_symm hF.out) hlen2 _ (HS1.out.1.mono bni) (HS1.out.2.mono bni) (HS0.out.1.mono bni) (HS0.out.2.mono bni)).mono ?_
  rintro e w5 ⟨p9, n9, c9, q9, k9, d9, rfl, S9, A9, hb⟩
  have g7 : Blk w5 (w4.heap.size) #[.int .u64 (pl b 0), .int .u64 (pl b 1), .int .u64 (pl b 2), .int .u64 (pl b 3), .int .u64 (pl b 4), .int .u64 (pl b 5), .int .u64 (pl b 6), .int .u64 (pl b 7), .slice p7 n7 c7, .slice q7 k7 d7] 30 := Blk.grow (by repeat (first | (refine Blk.at _ _ ?_; (simp; done)) | refine Blk.alloc ?_ _ | refine Blk.drew ?_)) hb
  have hbb : Below w4.heap.size w4 w5 := bel_trans bni hb
  replace hB := bel_trans hB hbb
  replace g0 := g0.grow hbb
  replace g1 := g1.grow hbb
  replace g2 := g2.grow hbb
  replace HS0 := Lib.hid (And.intro (HS0.out.1.mono hbb) (HS0.out.2.mono hbb))
  replace HS1 := Lib.hid (And.intro (HS1.out.1.mono hbb) (HS1.out.2.mono hbb))
  replace HS7 := Lib.hid (And.intro (HS7.out.1.mono hbb) (HS7.out.2.mono hbb))
  clear hb hbb
  generalize w4.heap.size = B5 at *
  have HS9 := Lib.hid (And.intro S9 A9)
  clear S9 A9
  have c_g0 := g0.cell
  have l_g0 := g0.lt
  have c_g1 := g1.cell
  have l_g1 := g1.lt
  have c_g2 := g2.cell
  have l_g2 := g2.lt
  have c_g7 := g7.cell
  have l_g7 := g7.lt
  rw [join_symm hF.out] at HS9
  go_wp2_with fail
  clear c_g0 l_g0
  clear c_g1 l_g1
  clear c_g2 l_g2
  clear c_g7 l_g7
  refine (H27.out _ (bel_trans hB bni)).mono ?_
  rintro e w6 ⟨rfl, hb⟩
  have g9 : Blk w6 (w5.heap.size) #[.int .u64 (pl b 0), .int .u64 (pl b 1), .int .u64 (pl b 2), .int .u64 (pl b 3), .int .u64 (pl b 4), .int .u64 (pl b 5), .int .u64 (pl b 6), .int .u64 (pl b 7), .slice p9 n9 c9, .slice q9 k9 d9] 30 := Blk.grow (by repeat (first | (refine Blk.at _ _ ?_; (simp; done)) | refine Blk.alloc ?_ _ | refine Blk.drew ?_)) hb
  have hbb : Below w5.heap.size w5 w6 := bel_trans bni hb
  replace hB := bel_trans hB hbb
  replace g0 := g0.grow hbb
  replace g1 := g1.grow hbb
  replace g2 := g2.grow hbb
  replace g7 := g7.grow hbb
  replace HS0 := Lib.hid (And.intro (HS0.out.1.mono hbb) (HS0.out.2.mono hbb))
  replace HS1 := Lib.hid (And.intro (HS1.out.1.mono hbb) (HS1.out.2.mono hbb))
  replace HS7 := Lib.hid (And.intro (HS7.out.1.mono hbb) (HS7.out.2.mono hbb))
  replace HS9 := Lib.hid (And.intro (HS9.out.1.mono hbb) (HS9.out.2.mono hbb))
  clear hb hbb
  generalize w5.heap.size = B6 at *
  have c_g0 := g0.cell
  have l_g0 := g0.lt
  have c_g1 := g1.cell
  have l_g1 := g1.lt
  have c_g2 := g2.cell
  have l_g2 := g2.lt
  have c_g7 := g7.cell
  have l_g7 := g7.lt
  have c_g9 := g9.cell
  have l_g9 := g9.lt
  go_wp2_with fail
  clear c_g0 l_g0
  clear c_g1 l_g1
  clear c_g2 l_g2
  clear c_g7 l_g7
  clear c_g9 l_g9
  refine (Same_eq _ (HS7.out.1.mono bni) (HS7.out.2.mono bni) (HS9.out.1.mono bni) (HS9.out.2.mono bni)).mono ?_
  rintro e w7 ⟨rfl, hb⟩
  have hbb : Below w6.heap.size w6 w7 := bel_trans bni hb
  replace hB := bel_trans hB hbb
  replace g0 := g0.grow hbb
  replace g1 := g1.grow hbb
  replace g2 := g2.grow hbb
  replace g7 := g7.grow hbb
  replace g9 := g9.grow hbb
  replace HS0 := Lib.hid (And.intro (HS0.out.1.mono hbb) (HS0.out.2.mono hbb))
  replace HS1 := Lib.hid (And.intro (HS1.out.1.mono hbb) (HS1.out.2.mono hbb))
  replace HS7 := Lib.hid (And.intro (HS7.out.1.mono hbb) (HS7.out.2.mono hbb))
  replace HS9 := Lib.hid (And.intro (HS9.out.1.mono hbb) (HS9.out.2.mono hbb))
  clear hb hbb
  have c_g0 := g0.cell
  have l_g0 := g0.lt
  have c_g1 := g1.cell
  have l_g1 := g1.lt
  have c_g2 := g2.cell
  have l_g2 := g2.lt
  have c_g7 := g7.cell
  have l_g7 := g7.lt
  have c_g9 := g9.cell
  have l_g9 := g9.lt
  go_wp2_with fail
  clear c_g0 l_g0
  clear c_g1 l_g1
  clear c_g2 l_g2
  clear c_g7 l_g7
  clear c_g9 l_g9
  refine (HAL.out _ (bel_trans hB bni)).mono ?_
  rintro e w8 ⟨rfl, hb⟩
  have hbb : Below w7.heap.size w7 w8 := bel_trans bni hb
  replace hB := bel_trans hB hbb
  replace g0 := g0.grow hbb
  replace g1 := g1.grow hbb
  replace g2 := g2.grow hbb
  replace g7 := g7.grow hbb
  replace g9 := g9.grow hbb
  replace HS0 := Lib.hid (And.intro (HS0.out.1.mono hbb) (HS0.out.2.mono hbb))
  replace HS1 := Lib.hid (And.intro (HS1.out.1.mono hbb) (HS1.out.2.mono hbb))
  replace HS7 := Lib.hid (And.intro (HS7.out.1.mono hbb) (HS7.out.2.mono hbb))
  replace HS9 := Lib.hid (And.intro (HS9.out.1.mono hbb) (HS9.out.2.mono hbb))
  clear hb hbb
  have c_g0 := g0.cell
  have l_g0 := g0.lt
  have c_g1 := g1.cell
  have l_g1 := g1.lt
  have c_g2 := g2.cell
  have l_g2 := g2.lt
  have c_g7 := g7.cell
  have l_g7 := g7.lt
  have c_g9 := g9.cell
  have l_g9 := g9.lt
  go_wp2_with fail
  clear c_g0 l_g0
  clear c_g1 l_g1
  clear c_g2 l_g2
  clear c_g7 l_g7
  clear c_g9 l_g9
  refine bodyPost_ret (v := .bool true) (by simp [results, Tryz.results4, go_sem]) rfl ⟨rfl, hB⟩
end Go.Proofs.YtccnkebkgegohaaGreatDoor
end
