import Derived.Test.YtccnkebkgegohaaGreatDoorHY7
import Derived.Test.YtccnkebkgegohaaGreatDoorHY10
import Derived.Test.YtccnkebkgegohaaGreatDoorHY11
/-
  Given contracts of functions of the program, and laws for them, one behind the other.
-/
set_option linter.unusedVariables false
set_option linter.unusedSimpArgs false
set_option linter.unusedSectionVars false
section
namespace Go.Proofs.YtccnkebkgegohaaGreatDoor
open Go.RowKit Go.Rel
set_option maxRecDepth 100000
set_option maxHeartbeats 8000000 in
theorem TraceJoins_many (b0 b1 b2 : Sol) (p0 p1 p2 q0 q1 q2 : Option Addr) (n0 n1 n2 c0 c1 c2 k0 k1 k2 d0 d1 d2 : Nat) (w : World) (hm : (many k0 n0 || (many k1 n1 || many k2 n2)) = true) (HAL : AliveH w) :
    Calls Tryz.prog 12 #[.agg #[.int .u64 (pl b0 0), .int .u64 (pl b0 1), .int .u64 (pl b0 2), .int .u64 (pl b0 3), .int .u64 (pl b0 4), .int .u64 (pl b0 5), .int .u64 (pl b0 6), .int .u64 (pl b0 7), .slice p0 n0 c0, .slice q0 k0 d0], .agg #[.int .u64 (pl b1 0), .int .u64 (pl b1 1), .int .u64 (pl b1 2), .int .u64 (pl b1 3), .int .u64 (pl b1 4), .int .u64 (pl b1 5), .int .u64 (pl b1 6), .int .u64 (pl b1 7), .slice p1 n1 c1, .slice q1 k1 d1], .agg #[.int .u64 (pl b2 0), .int .u64 (pl b2 1), .int .u64 (pl b2 2), .int .u64 (pl b2 3), .int .u64 (pl b2 4), .int .u64 (pl b2 5), .int .u64 (pl b2 6), .int .u64 (pl b2 7), .slice p2 n2 c2, .slice q2 k2 d2]] w fun e w' => e = .returned (.bool true) ∧ Below w.heap.size w w' := by
  go_enter Tryz.func12, Tryz.ntmps12
  go_wp2_with fail
  refine (few3 (b := b0) (p := p0) (q := q0) (n := n0) (c := c0) (k := k0) (d := d0) (b' := b1) (p' := p1) (q' := q1) (n' := n1) (c' := c1) (k' := k1) (d' := d1) (b2 := b2) (p2 := p2) (q2 := q2) (n2 := n2) (c2 := c2) (k2 := k2) (d2 := d2) (t := 30) _ (by repeat (first | with_reducible assumption | (refine Blk.at _ _ ?_; (simp; done)) | with_reducible refine Blk.alloc ?_ _ | with_reducible refine Blk.drew ?_ | with_reducible refine Blk.rowS ?_ _ | with_reducible refine Blk.rowO ?_ _ (by simp)))).mono ?_
  rw [hm]
  rintro e w1 ⟨rfl, hb⟩
  have g0 : Blk w1 (w.heap.size) #[.int .u64 (pl b0 0), .int .u64 (pl b0 1), .int .u64 (pl b0 2), .int .u64 (pl b0 3), .int .u64 (pl b0 4), .int .u64 (pl b0 5), .int .u64 (pl b0 6), .int .u64 (pl b0 7), .slice p0 n0 c0, .slice q0 k0 d0] 30 := Blk.grow (by repeat (first | with_reducible assumption | (refine Blk.at _ _ ?_; (simp; done)) | with_reducible refine Blk.alloc ?_ _ | with_reducible refine Blk.drew ?_ | with_reducible refine Blk.rowS ?_ _ | with_reducible refine Blk.rowO ?_ _ (by simp))) hb
  have g1 : Blk w1 (w.heap.size + 1) #[.int .u64 (pl b1 0), .int .u64 (pl b1 1), .int .u64 (pl b1 2), .int .u64 (pl b1 3), .int .u64 (pl b1 4), .int .u64 (pl b1 5), .int .u64 (pl b1 6), .int .u64 (pl b1 7), .slice p1 n1 c1, .slice q1 k1 d1] 30 := Blk.grow (by repeat (first | with_reducible assumption | (refine Blk.at _ _ ?_; (simp; done)) | with_reducible refine Blk.alloc ?_ _ | with_reducible refine Blk.drew ?_ | with_reducible refine Blk.rowS ?_ _ | with_reducible refine Blk.rowO ?_ _ (by simp))) hb
  have g2 : Blk w1 (w.heap.size + 1 + 1) #[.int .u64 (pl b2 0), .int .u64 (pl b2 1), .int .u64 (pl b2 2), .int .u64 (pl b2 3), .int .u64 (pl b2 4), .int .u64 (pl b2 5), .int .u64 (pl b2 6), .int .u64 (pl b2 7), .slice p2 n2 c2, .slice q2 k2 d2] 30 := Blk.grow (by repeat (first | with_reducible assumption | (refine Blk.at _ _ ?_; (simp; done)) | with_reducible refine Blk.alloc ?_ _ | with_reducible refine Blk.drew ?_ | with_reducible refine Blk.rowS ?_ _ | with_reducible refine Blk.rowO ?_ _ (by simp))) hb
  have hB : Below w.heap.size w w1 := bel_trans (by repeat (first | with_reducible exact bel_refl _ | with_reducible assumption | with_reducible refine bel_drewN ?_ _ | with_reducible refine bel_drew ?_ | with_reducible refine bel_alloc ?_ _ | with_reducible refine bel_row ?_ ?_ _ | with_reducible refine bel_set ?_ ?_ _ | refine bel_trans ?_ (by with_reducible assumption) | (simp; done) | (simp; omega))) hb
  clear hb
  have c_g0 := g0.cell
  have l_g0 := g0.lt
  have c_g1 := g1.cell
  have l_g1 := g1.lt
  have c_g2 := g2.cell
  have l_g2 := g2.lt
  go_wp2_with fail
  clear c_g0 l_g0
  clear c_g1 l_g1
  clear c_g2 l_g2
  refine (HAL.out _ (bel_trans hB bni)).mono ?_
  rintro e w2 ⟨rfl, hb⟩
  have hbb : Below w1.heap.size w1 w2 := bel_trans bni hb
  replace hB := bel_trans hB hbb
  replace g0 := g0.grow hbb
  replace g1 := g1.grow hbb
  replace g2 := g2.grow hbb
  clear hb hbb
  have c_g0 := g0.cell
  have l_g0 := g0.lt
  have c_g1 := g1.cell
  have l_g1 := g1.lt
  have c_g2 := g2.cell
  have l_g2 := g2.lt
  go_wp2_with fail
  clear c_g0 l_g0
  clear c_g1 l_g1
  clear c_g2 l_g2
  refine bodyPost_ret (v := .bool true) (by simp [results, Tryz.results12, go_sem]) rfl ⟨rfl, hB⟩
set_option maxHeartbeats 8000000 in
theorem TraceJoins_other (b0 b1 b2 : Sol) (p0 p1 p2 q0 q1 q2 : Option Addr) (n0 n1 n2 c0 c1 c2 k0 k1 k2 d0 d1 d2 : Nat) (w : World) (hm : (many k0 n0 || (many k1 n1 || many k2 n2)) = false) (H25 : Hid (∀ w', Below w.heap.size w w' → Calls Tryz.prog 25 #[.agg #[.int .u64 (pl b0 0), .int .u64 (pl b0 1), .int .u64 (pl b0 2), .int .u64 (pl b0 3), .int .u64 (pl b0 4), .int .u64 (pl b0 5), .int .u64 (pl b0 6), .int .u64 (pl b0 7), .slice p0 n0 c0], .agg #[.int .u64 (pl b1 0), .int .u64 (pl b1 1), .int .u64 (pl b1 2), .int .u64 (pl b1 3), .int .u64 (pl b1 4), .int .u64 (pl b1 5), .int .u64 (pl b1 6), .int .u64 (pl b1 7), .slice p1 n1 c1]] w' fun e w'' => e = .returned (.bool false) ∧ Below w'.heap.size w' w'')) (HAL : AliveH w) :
    Calls Tryz.prog 12 #[.agg #[.int .u64 (pl b0 0), .int .u64 (pl b0 1), .int .u64 (pl b0 2), .int .u64 (pl b0 3), .int .u64 (pl b0 4), .int .u64 (pl b0 5), .int .u64 (pl b0 6), .int .u64 (pl b0 7), .slice p0 n0 c0, .slice q0 k0 d0], .agg #[.int .u64 (pl b1 0), .int .u64 (pl b1 1), .int .u64 (pl b1 2), .int .u64 (pl b1 3), .int .u64 (pl b1 4), .int .u64 (pl b1 5), .int .u64 (pl b1 6), .int .u64 (pl b1 7), .slice p1 n1 c1, .slice q1 k1 d1], .agg #[.int .u64 (pl b2 0), .int .u64 (pl b2 1), .int .u64 (pl b2 2), .int .u64 (pl b2 3), .int .u64 (pl b2 4), .int .u64 (pl b2 5), .int .u64 (pl b2 6), .int .u64 (pl b2 7), .slice p2 n2 c2, .slice q2 k2 d2]] w fun e w' => e = .returned (.bool true) ∧ Below w.heap.size w w' := by
  go_enter Tryz.func12, Tryz.ntmps12
  go_wp2_with fail
  refine (few3 (b := b0) (p := p0) (q := q0) (n := n0) (c := c0) (k := k0) (d := d0) (b' := b1) (p' := p1) (q' := q1) (n' := n1) (c' := c1) (k' := k1) (d' := d1) (b2 := b2) (p2 := p2) (q2 := q2) (n2 := n2) (c2 := c2) (k2 := k2) (d2 := d2) (t := 30) _ (by repeat (first | with_reducible assumption | (refine Blk.at _ _ ?_; (simp; done)) | with_reducible refine Blk.alloc ?_ _ | with_reducible refine Blk.drew ?_ | with_reducible refine Blk.rowS ?_ _ | with_reducible refine Blk.rowO ?_ _ (by simp)))).mono ?_
  rw [hm]
  rintro e w1 ⟨rfl, hb⟩
  have g0 : Blk w1 (w.heap.size) #[.int .u64 (pl b0 0), .int .u64 (pl b0 1), .int .u64 (pl b0 2), .int .u64 (pl b0 3), .int .u64 (pl b0 4), .int .u64 (pl b0 5), .int .u64 (pl b0 6), .int .u64 (pl b0 7), .slice p0 n0 c0, .slice q0 k0 d0] 30 := Blk.grow (by repeat (first | with_reducible assumption | (refine Blk.at _ _ ?_; (simp; done)) | with_reducible refine Blk.alloc ?_ _ | with_reducible refine Blk.drew ?_ | with_reducible refine Blk.rowS ?_ _ | with_reducible refine Blk.rowO ?_ _ (by simp))) hb
  have g1 : Blk w1 (w.heap.size + 1) #[.int .u64 (pl b1 0), .int .u64 (pl b1 1), .int .u64 (pl b1 2), .int .u64 (pl b1 3), .int .u64 (pl b1 4), .int .u64 (pl b1 5), .int .u64 (pl b1 6), .int .u64 (pl b1 7), .slice p1 n1 c1, .slice q1 k1 d1] 30 := Blk.grow (by repeat (first | with_reducible assumption | (refine Blk.at _ _ ?_; (simp; done)) | with_reducible refine Blk.alloc ?_ _ | with_reducible refine Blk.drew ?_ | with_reducible refine Blk.rowS ?_ _ | with_reducible refine Blk.rowO ?_ _ (by simp))) hb
  have g2 : Blk w1 (w.heap.size + 1 + 1) #[.int .u64 (pl b2 0), .int .u64 (pl b2 1), .int .u64 (pl b2 2), .int .u64 (pl b2 3), .int .u64 (pl b2 4), .int .u64 (pl b2 5), .int .u64 (pl b2 6), .int .u64 (pl b2 7), .slice p2 n2 c2, .slice q2 k2 d2] 30 := Blk.grow (by repeat (first | with_reducible assumption | (refine Blk.at _ _ ?_; (simp; done)) | with_reducible refine Blk.alloc ?_ _ | with_reducible refine Blk.drew ?_ | with_reducible refine Blk.rowS ?_ _ | with_reducible refine Blk.rowO ?_ _ (by simp))) hb
  have hB : Below w.heap.size w w1 := bel_trans (by repeat (first | with_reducible exact bel_refl _ | with_reducible assumption | with_reducible refine bel_drewN ?_ _ | with_reducible refine bel_drew ?_ | with_reducible refine bel_alloc ?_ _ | with_reducible refine bel_row ?_ ?_ _ | with_reducible refine bel_set ?_ ?_ _ | refine bel_trans ?_ (by with_reducible assumption) | (simp; done) | (simp; omega))) hb
  clear hb
  have c_g0 := g0.cell
  have l_g0 := g0.lt
  have c_g1 := g1.cell
  have l_g1 := g1.lt
  have c_g2 := g2.cell
  have l_g2 := g2.lt
  go_wp2_with fail
  clear c_g0 l_g0
  clear c_g1 l_g1
  clear c_g2 l_g2
  refine (H25.out _ (bel_trans hB bni)).mono ?_
  rintro e w2 ⟨rfl, hb⟩
  have hbb : Below w1.heap.size w1 w2 := bel_trans bni hb
  replace hB := bel_trans hB hbb
  replace g0 := g0.grow hbb
  replace g1 := g1.grow hbb
  replace g2 := g2.grow hbb
  clear hb hbb
  have c_g0 := g0.cell
  have l_g0 := g0.lt
  have c_g1 := g1.cell
  have l_g1 := g1.lt
  have c_g2 := g2.cell
  have l_g2 := g2.lt
  go_wp2_with fail
  clear c_g0 l_g0
  clear c_g1 l_g1
  clear c_g2 l_g2
  refine (HAL.out _ (bel_trans hB bni)).mono ?_
  rintro e w3 ⟨rfl, hb⟩
  have hbb : Below w2.heap.size w2 w3 := bel_trans bni hb
  replace hB := bel_trans hB hbb
  replace g0 := g0.grow hbb
  replace g1 := g1.grow hbb
  replace g2 := g2.grow hbb
  clear hb hbb
  have c_g0 := g0.cell
  have l_g0 := g0.lt
  have c_g1 := g1.cell
  have l_g1 := g1.lt
  have c_g2 := g2.cell
  have l_g2 := g2.lt
  go_wp2_with fail
  clear c_g0 l_g0
  clear c_g1 l_g1
  clear c_g2 l_g2
  refine bodyPost_ret (v := .bool true) (by simp [results, Tryz.results12, go_sem]) rfl ⟨rfl, hB⟩
set_option maxHeartbeats 8000000 in
theorem TraceJoins_other2 (b0 b1 b2 : Sol) (p0 p1 p2 q0 q1 q2 : Option Addr) (n0 n1 n2 c0 c1 c2 k0 k1 k2 d0 d1 d2 : Nat) (w : World) (hm : (many k0 n0 || (many k1 n1 || many k2 n2)) = false) (H25 : Hid (∀ w', Below w.heap.size w w' → Calls Tryz.prog 25 #[.agg #[.int .u64 (pl b0 0), .int .u64 (pl b0 1), .int .u64 (pl b0 2), .int .u64 (pl b0 3), .int .u64 (pl b0 4), .int .u64 (pl b0 5), .int .u64 (pl b0 6), .int .u64 (pl b0 7), .slice p0 n0 c0], .agg #[.int .u64 (pl b1 0), .int .u64 (pl b1 1), .int .u64 (pl b1 2), .int .u64 (pl b1 3), .int .u64 (pl b1 4), .int .u64 (pl b1 5), .int .u64 (pl b1 6), .int .u64 (pl b1 7), .slice p1 n1 c1]] w' fun e w'' => e = .returned (.bool true) ∧ Below w'.heap.size w' w'')) (H25b : Hid (∀ w', Below w.heap.size w w' → Calls Tryz.prog 25 #[.agg #[.int .u64 (pl b0 0), .int .u64 (pl b0 1), .int .u64 (pl b0 2), .int .u64 (pl b0 3), .int .u64 (pl b0 4), .int .u64 (pl b0 5), .int .u64 (pl b0 6), .int .u64 (pl b0 7), .slice p0 n0 c0], .agg #[.int .u64 (pl b2 0), .int .u64 (pl b2 1), .int .u64 (pl b2 2), .int .u64 (pl b2 3), .int .u64 (pl b2 4), .int .u64 (pl b2 5), .int .u64 (pl b2 6), .int .u64 (pl b2 7), .slice p2 n2 c2]] w' fun e w'' => e = .returned (.bool false) ∧ Below w'.heap.size w' w'')) (HAL : AliveH w) :
    Calls Tryz.prog 12 #[.agg #[.int .u64 (pl b0 0), .int .u64 (pl b0 1), .int .u64 (pl b0 2), .int .u64 (pl b0 3), .int .u64 (pl b0 4), .int .u64 (pl b0 5), .int .u64 (pl b0 6), .int .u64 (pl b0 7), .slice p0 n0 c0, .slice q0 k0 d0], .agg #[.int .u64 (pl b1 0), .int .u64 (pl b1 1), .int .u64 (pl b1 2), .int .u64 (pl b1 3), .int .u64 (pl b1 4), .int .u64 (pl b1 5), .int .u64 (pl b1 6), .int .u64 (pl b1 7), .slice p1 n1 c1, .slice q1 k1 d1], .agg #[.int .u64 (pl b2 0), .int .u64 (pl b2 1), .int .u64 (pl b2 2), .int .u64 (pl b2 3), .int .u64 (pl b2 4), .int .u64 (pl b2 5), .int .u64 (pl b2 6), .int .u64 (pl b2 7), .slice p2 n2 c2, .slice q2 k2 d2]] w fun e w' => e = .returned (.bool true) ∧ Below w.heap.size w w' := by
  go_enter Tryz.func12, Tryz.ntmps12
  go_wp2_with fail
  refine (few3 (b := b0) (p := p0) (q := q0) (n := n0) (c := c0) (k := k0) (d := d0) (b' := b1) (p' := p1) (q' := q1) (n' := n1) (c' := c1) (k' := k1) (d' := d1) (b2 := b2) (p2 := p2) (q2 := q2) (n2 := n2) (c2 := c2) (k2 := k2) (d2 := d2) (t := 30) _ (by repeat (first | with_reducible assumption | (refine Blk.at _ _ ?_; (simp; done)) | with_reducible refine Blk.alloc ?_ _ | with_reducible refine Blk.drew ?_ | with_reducible refine Blk.rowS ?_ _ | with_reducible refine Blk.rowO ?_ _ (by simp)))).mono ?_
  rw [hm]
  rintro e w1 ⟨rfl, hb⟩
  have g0 : Blk w1 (w.heap.size) #[.int .u64 (pl b0 0), .int .u64 (pl b0 1), .int .u64 (pl b0 2), .int .u64 (pl b0 3), .int .u64 (pl b0 4), .int .u64 (pl b0 5), .int .u64 (pl b0 6), .int .u64 (pl b0 7), .slice p0 n0 c0, .slice q0 k0 d0] 30 := Blk.grow (by repeat (first | with_reducible assumption | (refine Blk.at _ _ ?_; (simp; done)) | with_reducible refine Blk.alloc ?_ _ | with_reducible refine Blk.drew ?_ | with_reducible refine Blk.rowS ?_ _ | with_reducible refine Blk.rowO ?_ _ (by simp))) hb
  have g1 : Blk w1 (w.heap.size + 1) #[.int .u64 (pl b1 0), .int .u64 (pl b1 1), .int .u64 (pl b1 2), .int .u64 (pl b1 3), .int .u64 (pl b1 4), .int .u64 (pl b1 5), .int .u64 (pl b1 6), .int .u64 (pl b1 7), .slice p1 n1 c1, .slice q1 k1 d1] 30 := Blk.grow (by repeat (first | with_reducible assumption | (refine Blk.at _ _ ?_; (simp; done)) | with_reducible refine Blk.alloc ?_ _ | with_reducible refine Blk.drew ?_ | with_reducible refine Blk.rowS ?_ _ | with_reducible refine Blk.rowO ?_ _ (by simp))) hb
  have g2 : Blk w1 (w.heap.size + 1 + 1) #[.int .u64 (pl b2 0), .int .u64 (pl b2 1), .int .u64 (pl b2 2), .int .u64 (pl b2 3), .int .u64 (pl b2 4), .int .u64 (pl b2 5), .int .u64 (pl b2 6), .int .u64 (pl b2 7), .slice p2 n2 c2, .slice q2 k2 d2] 30 := Blk.grow (by repeat (first | with_reducible assumption | (refine Blk.at _ _ ?_; (simp; done)) | with_reducible refine Blk.alloc ?_ _ | with_reducible refine Blk.drew ?_ | with_reducible refine Blk.rowS ?_ _ | with_reducible refine Blk.rowO ?_ _ (by simp))) hb
  have hB : Below w.heap.size w w1 := bel_trans (by repeat (first | with_reducible exact bel_refl _ | with_reducible assumption | with_reducible refine bel_drewN ?_ _ | with_reducible refine bel_drew ?_ | with_reducible refine bel_alloc ?_ _ | with_reducible refine bel_row ?_ ?_ _ | with_reducible refine bel_set ?_ ?_ _ | refine bel_trans ?_ (by with_reducible assumption) | (simp; done) | (simp; omega))) hb
  clear hb
  have c_g0 := g0.cell
  have l_g0 := g0.lt
  have c_g1 := g1.cell
  have l_g1 := g1.lt
  have c_g2 := g2.cell
  have l_g2 := g2.lt
  go_wp2_with fail
  clear c_g0 l_g0
  clear c_g1 l_g1
  clear c_g2 l_g2
  refine (H25.out _ (bel_trans hB bni)).mono ?_
  rintro e w2 ⟨rfl, hb⟩
  have hbb : Below w1.heap.size w1 w2 := bel_trans bni hb
  replace hB := bel_trans hB hbb
  replace g0 := g0.grow hbb
  replace g1 := g1.grow hbb
  replace g2 := g2.grow hbb
  clear hb hbb
  have c_g0 := g0.cell
  have l_g0 := g0.lt
  have c_g1 := g1.cell
  have l_g1 := g1.lt
  have c_g2 := g2.cell
  have l_g2 := g2.lt
  go_wp2_with fail
  clear c_g0 l_g0
  clear c_g1 l_g1
  clear c_g2 l_g2
  refine (H25b.out _ (bel_trans hB bni)).mono ?_
  rintro e w3 ⟨rfl, hb⟩
  have hbb : Below w2.heap.size w2 w3 := bel_trans bni hb
  replace hB := bel_trans hB hbb
  replace g0 := g0.grow hbb
  replace g1 := g1.grow hbb
  replace g2 := g2.grow hbb
  clear hb hbb
  have c_g0 := g0.cell
  have l_g0 := g0.lt
  have c_g1 := g1.cell
  have l_g1 := g1.lt
  have c_g2 := g2.cell
  have l_g2 := g2.lt
  go_wp2_with fail
  clear c_g0 l_g0
  clear c_g1 l_g1
  clear c_g2 l_g2
  refine (HAL.out _ (bel_trans hB bni)).mono ?_
  rintro e w4 ⟨rfl, hb⟩
  have hbb : Below w3.heap.size w3 w4 := bel_trans bni hb
  replace hB := bel_trans hB hbb
  replace g0 := g0.grow hbb
  replace g1 := g1.grow hbb
  replace g2 := g2.grow hbb
  clear hb hbb
  have c_g0 := g0.cell
  have l_g0 := g0.lt
  have c_g1 := g1.cell
  have l_g1 := g1.lt
  have c_g2 := g2.cell
  have l_g2 := g2.lt
  go_wp2_with fail
  clear c_g0 l_g0
  clear c_g1 l_g1
  clear c_g2 l_g2
  refine bodyPost_ret (v := .bool true) (by simp [results, Tryz.results12, go_sem]) rfl ⟨rfl, hB⟩
set_option maxHeartbeats 8000000 in
theorem TraceJoins_bad (b : Sol) (p0 p1 p2 q0 q1 q2 : Option Addr) (n0 n1 n2 c0 c1 c2 k0 k1 k2 d0 d1 d2 : Nat) (w : World) (hm : (many k0 n0 || (many k1 n1 || many k2 n2)) = false) (H25 : Hid (∀ w', Below w.heap.size w w' → Calls Tryz.prog 25 #[.agg #[.int .u64 (pl b 0), .int .u64 (pl b 1), .int .u64 (pl b 2), .int .u64 (pl b 3), .int .u64 (pl b 4), .int .u64 (pl b 5), .int .u64 (pl b 6), .int .u64 (pl b 7), .slice p0 n0 c0], .agg #[.int .u64 (pl b 0), .int .u64 (pl b 1), .int .u64 (pl b 2), .int .u64 (pl b 3), .int .u64 (pl b 4), .int .u64 (pl b 5), .int .u64 (pl b 6), .int .u64 (pl b 7), .slice p1 n1 c1]] w' fun e w'' => e = .returned (.bool true) ∧ Below w'.heap.size w' w'')) (H25b : Hid (∀ w', Below w.heap.size w w' → Calls Tryz.prog 25 #[.agg #[.int .u64 (pl b 0), .int .u64 (pl b 1), .int .u64 (pl b 2), .int .u64 (pl b 3), .int .u64 (pl b 4), .int .u64 (pl b 5), .int .u64 (pl b 6), .int .u64 (pl b 7), .slice p0 n0 c0], .agg #[.int .u64 (pl b 0), .int .u64 (pl b 1), .int .u64 (pl b 2), .int .u64 (pl b 3), .int .u64 (pl b 4), .int .u64 (pl b 5), .int .u64 (pl b 6), .int .u64 (pl b 7), .slice p2 n2 c2]] w' fun e w'' => e = .returned (.bool true) ∧ Below w'.heap.size w' w'')) (x y z : Int) (hz : (z != 0) = true) (H60 : Hid (∀ w', Below w.heap.size w w' → Calls Tryz.prog 60 #[.agg #[.int .u64 (pl b 0), .int .u64 (pl b 1), .int .u64 (pl b 2), .int .u64 (pl b 3), .int .u64 (pl b 4), .int .u64 (pl b 5), .int .u64 (pl b 6), .int .u64 (pl b 7), .slice p0 n0 c0, .slice q0 k0 d0], .agg #[.int .u64 (pl b 0), .int .u64 (pl b 1), .int .u64 (pl b 2), .int .u64 (pl b 3), .int .u64 (pl b 4), .int .u64 (pl b 5), .int .u64 (pl b 6), .int .u64 (pl b 7), .slice p1 n1 c1, .slice q1 k1 d1]] w' fun e w'' => e = .returned (.tuple #[.agg zeroA, .agg zeroA, .bool false, .int .i64 z]) ∧ Below w'.heap.size w' w'')) (H26 : Hid (∀ w', Below w.heap.size w w' → Calls Tryz.prog 26 #[.agg #[.int .u64 (pl b 0), .int .u64 (pl b 1), .int .u64 (pl b 2), .int .u64 (pl b 3), .int .u64 (pl b 4), .int .u64 (pl b 5), .int .u64 (pl b 6), .int .u64 (pl b 7), .slice p0 n0 c0, .slice q0 k0 d0], .agg #[.int .u64 (pl b 0), .int .u64 (pl b 1), .int .u64 (pl b 2), .int .u64 (pl b 3), .int .u64 (pl b 4), .int .u64 (pl b 5), .int .u64 (pl b 6), .int .u64 (pl b 7), .slice p1 n1 c1, .slice q1 k1 d1]] w' fun e w'' => ∃ B L M E, HRes B L M E w' e w'')) (H27 : Hid (∀ w', Below w.heap.size w w' → Calls Tryz.prog 27 #[.agg #[.int .u64 (pl b 0), .int .u64 (pl b 1), .int .u64 (pl b 2), .int .u64 (pl b 3), .int .u64 (pl b 4), .int .u64 (pl b 5), .int .u64 (pl b 6), .int .u64 (pl b 7), .slice p2 n2 c2, .slice q2 k2 d2]] w' fun e w'' => e = .returned (.tuple #[.int .i64 x, .int .i64 y]) ∧ Below w'.heap.size w' w'')) (HAL : AliveH w) :
    Calls Tryz.prog 12 #[.agg #[.int .u64 (pl b 0), .int .u64 (pl b 1), .int .u64 (pl b 2), .int .u64 (pl b 3), .int .u64 (pl b 4), .int .u64 (pl b 5), .int .u64 (pl b 6), .int .u64 (pl b 7), .slice p0 n0 c0, .slice q0 k0 d0], .agg #[.int .u64 (pl b 0), .int .u64 (pl b 1), .int .u64 (pl b 2), .int .u64 (pl b 3), .int .u64 (pl b 4), .int .u64 (pl b 5), .int .u64 (pl b 6), .int .u64 (pl b 7), .slice p1 n1 c1, .slice q1 k1 d1], .agg #[.int .u64 (pl b 0), .int .u64 (pl b 1), .int .u64 (pl b 2), .int .u64 (pl b 3), .int .u64 (pl b 4), .int .u64 (pl b 5), .int .u64 (pl b 6), .int .u64 (pl b 7), .slice p2 n2 c2, .slice q2 k2 d2]] w fun e w' => e = .returned (.bool true) ∧ Below w.heap.size w w' := by
  go_enter Tryz.func12, Tryz.ntmps12
  go_wp2_with fail
  refine (few3 (b := b) (p := p0) (q := q0) (n := n0) (c := c0) (k := k0) (d := d0) (b' := b) (p' := p1) (q' := q1) (n' := n1) (c' := c1) (k' := k1) (d' := d1) (b2 := b) (p2 := p2) (q2 := q2) (n2 := n2) (c2 := c2) (k2 := k2) (d2 := d2) (t := 30) _ (by repeat (first | with_reducible assumption | (refine Blk.at _ _ ?_; (simp; done)) | with_reducible refine Blk.alloc ?_ _ | with_reducible refine Blk.drew ?_ | with_reducible refine Blk.rowS ?_ _ | with_reducible refine Blk.rowO ?_ _ (by simp)))).mono ?_
  rw [hm]
  rintro e w1 ⟨rfl, hb⟩
  have g0 : Blk w1 (w.heap.size) #[.int .u64 (pl b 0), .int .u64 (pl b 1), .int .u64 (pl b 2), .int .u64 (pl b 3), .int .u64 (pl b 4), .int .u64 (pl b 5), .int .u64 (pl b 6), .int .u64 (pl b 7), .slice p0 n0 c0, .slice q0 k0 d0] 30 := Blk.grow (by repeat (first | with_reducible assumption | (refine Blk.at _ _ ?_; (simp; done)) | with_reducible refine Blk.alloc ?_ _ | with_reducible refine Blk.drew ?_ | with_reducible refine Blk.rowS ?_ _ | with_reducible refine Blk.rowO ?_ _ (by simp))) hb
  have g1 : Blk w1 (w.heap.size + 1) #[.int .u64 (pl b 0), .int .u64 (pl b 1), .int .u64 (pl b 2), .int .u64 (pl b 3), .int .u64 (pl b 4), .int .u64 (pl b 5), .int .u64 (pl b 6), .int .u64 (pl b 7), .slice p1 n1 c1, .slice q1 k1 d1] 30 := Blk.grow (by repeat (first | with_reducible assumption | (refine Blk.at _ _ ?_; (simp; done)) | with_reducible refine Blk.alloc ?_ _ | with_reducible refine Blk.drew ?_ | with_reducible refine Blk.rowS ?_ _ | with_reducible refine Blk.rowO ?_ _ (by simp))) hb
  have g2 : Blk w1 (w.heap.size + 1 + 1) #[.int .u64 (pl b 0), .int .u64 (pl b 1), .int .u64 (pl b 2), .int .u64 (pl b 3), .int .u64 (pl b 4), .int .u64 (pl b 5), .int .u64 (pl b 6), .int .u64 (pl b 7), .slice p2 n2 c2, .slice q2 k2 d2] 30 := Blk.grow (by repeat (first | with_reducible assumption | (refine Blk.at _ _ ?_; (simp; done)) | with_reducible refine Blk.alloc ?_ _ | with_reducible refine Blk.drew ?_ | with_reducible refine Blk.rowS ?_ _ | with_reducible refine Blk.rowO ?_ _ (by simp))) hb
  have hB : Below w.heap.size w w1 := bel_trans (by repeat (first | with_reducible exact bel_refl _ | with_reducible assumption | with_reducible refine bel_drewN ?_ _ | with_reducible refine bel_drew ?_ | with_reducible refine bel_alloc ?_ _ | with_reducible refine bel_row ?_ ?_ _ | with_reducible refine bel_set ?_ ?_ _ | refine bel_trans ?_ (by with_reducible assumption) | (simp; done) | (simp; omega))) hb
  clear hb
  have c_g0 := g0.cell
  have l_g0 := g0.lt
  have c_g1 := g1.cell
  have l_g1 := g1.lt
  have c_g2 := g2.cell
  have l_g2 := g2.lt
  go_wp2_with fail
  clear c_g0 l_g0
  clear c_g1 l_g1
  clear c_g2 l_g2
  refine (H25.out _ (bel_trans hB bni)).mono ?_
  rintro e w2 ⟨rfl, hb⟩
  have hbb : Below w1.heap.size w1 w2 := bel_trans bni hb
  replace hB := bel_trans hB hbb
  replace g0 := g0.grow hbb
  replace g1 := g1.grow hbb
  replace g2 := g2.grow hbb
  clear hb hbb
  have c_g0 := g0.cell
  have l_g0 := g0.lt
  have c_g1 := g1.cell
  have l_g1 := g1.lt
  have c_g2 := g2.cell
  have l_g2 := g2.lt
  go_wp2_with fail
  clear c_g0 l_g0
  clear c_g1 l_g1
  clear c_g2 l_g2
  refine (H25b.out _ (bel_trans hB bni)).mono ?_
  rintro e w3 ⟨rfl, hb⟩
  have hbb : Below w2.heap.size w2 w3 := bel_trans bni hb
  replace hB := bel_trans hB hbb
  replace g0 := g0.grow hbb
  replace g1 := g1.grow hbb
  replace g2 := g2.grow hbb
  clear hb hbb
  have c_g0 := g0.cell
  have l_g0 := g0.lt
  have c_g1 := g1.cell
  have l_g1 := g1.lt
  have c_g2 := g2.cell
  have l_g2 := g2.lt
  go_wp2_with fail
  clear c_g0 l_g0
  clear c_g1 l_g1
  clear c_g2 l_g2
  refine (H60.out _ (bel_trans hB bni)).mono ?_
  rintro e w4 ⟨rfl, hb⟩
  have hbb : Below w3.heap.size w3 w4 := bel_trans bni hb
  replace hB := bel_trans hB hbb
  replace g0 := g0.grow hbb
  replace g1 := g1.grow hbb
  replace g2 := g2.grow hbb
  clear hb hbb
  have c_g0 := g0.cell
  have l_g0 := g0.lt
  have c_g1 := g1.cell
  have l_g1 := g1.lt
  have c_g2 := g2.cell
  have l_g2 := g2.lt
  go_wp2_with fail
  clear c_g0 l_g0
  clear c_g1 l_g1
  clear c_g2 l_g2
  refine (H26.out _ (bel_trans hB bni)).mono ?_
  rintro e w5 ⟨B9, L9, M9, E9, p9, n9, c9, q9, k9, d9, rfl, S9, A9, hb⟩
  have hbb : Below w4.heap.size w4 w5 := bel_trans bni hb
  replace hB := bel_trans hB hbb
  replace g0 := g0.grow hbb
  replace g1 := g1.grow hbb
  replace g2 := g2.grow hbb
  clear hb hbb
  clear S9
  clear A9
  have c_g0 := g0.cell
  have l_g0 := g0.lt
  have c_g1 := g1.cell
  have l_g1 := g1.lt
  have c_g2 := g2.cell
  have l_g2 := g2.lt
  go_wp2_with fail
  clear c_g0 l_g0
  clear c_g1 l_g1
  clear c_g2 l_g2
  refine (H27.out _ (bel_trans hB bni)).mono ?_
  rintro e w6 ⟨rfl, hb⟩
  have hbb : Below w5.heap.size w5 w6 := bel_trans bni hb
  replace hB := bel_trans hB hbb
  replace g0 := g0.grow hbb
  replace g1 := g1.grow hbb
  replace g2 := g2.grow hbb
  clear hb hbb
  have c_g0 := g0.cell
  have l_g0 := g0.lt
  have c_g1 := g1.cell
  have l_g1 := g1.lt
  have c_g2 := g2.cell
  have l_g2 := g2.lt
  go_wp2_with fail
  clear c_g0 l_g0
  clear c_g1 l_g1
  clear c_g2 l_g2
  refine (HAL.out _ (bel_trans hB bni)).mono ?_
  rintro e w7 ⟨rfl, hb⟩
  have hbb : Below w6.heap.size w6 w7 := bel_trans bni hb
  replace hB := bel_trans hB hbb
  replace g0 := g0.grow hbb
  replace g1 := g1.grow hbb
  replace g2 := g2.grow hbb
  clear hb hbb
  have c_g0 := g0.cell
  have l_g0 := g0.lt
  have c_g1 := g1.cell
  have l_g1 := g1.lt
  have c_g2 := g2.cell
  have l_g2 := g2.lt
  go_wp2_with fail
  clear c_g0 l_g0
  clear c_g1 l_g1
  clear c_g2 l_g2
  refine bodyPost_ret (v := .bool true) (by simp [results, Tryz.results12, go_sem]) rfl ⟨rfl, hB⟩
set_option maxHeartbeats 8000000 in
theorem TraceJoins_bad3 (b : Sol) (p0 p1 p2 q0 q1 q2 : Option Addr) (n0 n1 n2 c0 c1 c2 k0 k1 k2 d0 d1 d2 : Nat) (w : World) (hm : (many k0 n0 || (many k1 n1 || many k2 n2)) = false) (H25 : Hid (∀ w', Below w.heap.size w w' → Calls Tryz.prog 25 #[.agg #[.int .u64 (pl b 0), .int .u64 (pl b 1), .int .u64 (pl b 2), .int .u64 (pl b 3), .int .u64 (pl b 4), .int .u64 (pl b 5), .int .u64 (pl b 6), .int .u64 (pl b 7), .slice p0 n0 c0], .agg #[.int .u64 (pl b 0), .int .u64 (pl b 1), .int .u64 (pl b 2), .int .u64 (pl b 3), .int .u64 (pl b 4), .int .u64 (pl b 5), .int .u64 (pl b 6), .int .u64 (pl b 7), .slice p1 n1 c1]] w' fun e w'' => e = .returned (.bool true) ∧ Below w'.heap.size w' w'')) (H25b : Hid (∀ w', Below w.heap.size w w' → Calls Tryz.prog 25 #[.agg #[.int .u64 (pl b 0), .int .u64 (pl b 1), .int .u64 (pl b 2), .int .u64 (pl b 3), .int .u64 (pl b 4), .int .u64 (pl b 5), .int .u64 (pl b 6), .int .u64 (pl b 7), .slice p0 n0 c0], .agg #[.int .u64 (pl b 0), .int .u64 (pl b 1), .int .u64 (pl b 2), .int .u64 (pl b 3), .int .u64 (pl b 4), .int .u64 (pl b 5), .int .u64 (pl b 6), .int .u64 (pl b 7), .slice p2 n2 c2]] w' fun e w'' => e = .returned (.bool true) ∧ Below w'.heap.size w' w'')) {l : List Sol} {g h k : List Ac} {s t u : StB} (HR : Hid (Runs b l g s ∧ Runs b l h t)) (HS0 : Hid (SlS w (.slice p0 n0 c0) l ∧ SlA w (.slice q0 k0 d0) g)) (HS1 : Hid (SlS w (.slice p1 n1 c1) l ∧ SlA w (.slice q1 k1 d1) h)) (X Y : Ac) (r : Bool) (hX : Hid (confV (confA l g h) = (X, Y, r))) (x y : Int) (hy : (y != 0) = true) (H26 : Hid (∀ w', Below w.heap.size w w' → Calls Tryz.prog 26 #[.agg #[.int .u64 (pl b 0), .int .u64 (pl b 1), .int .u64 (pl b 2), .int .u64 (pl b 3), .int .u64 (pl b 4), .int .u64 (pl b 5), .int .u64 (pl b 6), .int .u64 (pl b 7), .slice p0 n0 c0, .slice q0 k0 d0], .agg #[.int .u64 (pl b 0), .int .u64 (pl b 1), .int .u64 (pl b 2), .int .u64 (pl b 3), .int .u64 (pl b 4), .int .u64 (pl b 5), .int .u64 (pl b 6), .int .u64 (pl b 7), .slice p1 n1 c1, .slice q1 k1 d1]] w' fun e w'' => ∃ B L M E, HRes B L M E w' e w'')) (H27 : Hid (∀ w', Below w.heap.size w w' → Calls Tryz.prog 27 #[.agg #[.int .u64 (pl b 0), .int .u64 (pl b 1), .int .u64 (pl b 2), .int .u64 (pl b 3), .int .u64 (pl b 4), .int .u64 (pl b 5), .int .u64 (pl b 6), .int .u64 (pl b 7), .slice p2 n2 c2, .slice q2 k2 d2]] w' fun e w'' => e = .returned (.tuple #[.int .i64 x, .int .i64 y]) ∧ Below w'.heap.size w' w'')) (HAL : AliveH w) :
    Calls Tryz.prog 12 #[.agg #[.int .u64 (pl b 0), .int .u64 (pl b 1), .int .u64 (pl b 2), .int .u64 (pl b 3), .int .u64 (pl b 4), .int .u64 (pl b 5), .int .u64 (pl b 6), .int .u64 (pl b 7), .slice p0 n0 c0, .slice q0 k0 d0], .agg #[.int .u64 (pl b 0), .int .u64 (pl b 1), .int .u64 (pl b 2), .int .u64 (pl b 3), .int .u64 (pl b 4), .int .u64 (pl b 5), .int .u64 (pl b 6), .int .u64 (pl b 7), .slice p1 n1 c1, .slice q1 k1 d1], .agg #[.int .u64 (pl b 0), .int .u64 (pl b 1), .int .u64 (pl b 2), .int .u64 (pl b 3), .int .u64 (pl b 4), .int .u64 (pl b 5), .int .u64 (pl b 6), .int .u64 (pl b 7), .slice p2 n2 c2, .slice q2 k2 d2]] w fun e w' => e = .returned (.bool true) ∧ Below w.heap.size w w' := by
  go_enter Tryz.func12, Tryz.ntmps12
  go_wp2_with fail
  refine (few3 (b := b) (p := p0) (q := q0) (n := n0) (c := c0) (k := k0) (d := d0) (b' := b) (p' := p1) (q' := q1) (n' := n1) (c' := c1) (k' := k1) (d' := d1) (b2 := b) (p2 := p2) (q2 := q2) (n2 := n2) (c2 := c2) (k2 := k2) (d2 := d2) (t := 30) _ (by repeat (first | with_reducible assumption | (refine Blk.at _ _ ?_; (simp; done)) | with_reducible refine Blk.alloc ?_ _ | with_reducible refine Blk.drew ?_ | with_reducible refine Blk.rowS ?_ _ | with_reducible refine Blk.rowO ?_ _ (by simp)))).mono ?_
  rw [hm]
  rintro e w1 ⟨rfl, hb⟩
  have g0 : Blk w1 (w.heap.size) #[.int .u64 (pl b 0), .int .u64 (pl b 1), .int .u64 (pl b 2), .int .u64 (pl b 3), .int .u64 (pl b 4), .int .u64 (pl b 5), .int .u64 (pl b 6), .int .u64 (pl b 7), .slice p0 n0 c0, .slice q0 k0 d0] 30 := Blk.grow (by repeat (first | with_reducible assumption | (refine Blk.at _ _ ?_; (simp; done)) | with_reducible refine Blk.alloc ?_ _ | with_reducible refine Blk.drew ?_ | with_reducible refine Blk.rowS ?_ _ | with_reducible refine Blk.rowO ?_ _ (by simp))) hb
  have g1 : Blk w1 (w.heap.size + 1) #[.int .u64 (pl b 0), .int .u64 (pl b 1), .int .u64 (pl b 2), .int .u64 (pl b 3), .int .u64 (pl b 4), .int .u64 (pl b 5), .int .u64 (pl b 6), .int .u64 (pl b 7), .slice p1 n1 c1, .slice q1 k1 d1] 30 := Blk.grow (by repeat (first | with_reducible assumption | (refine Blk.at _ _ ?_; (simp; done)) | with_reducible refine Blk.alloc ?_ _ | with_reducible refine Blk.drew ?_ | with_reducible refine Blk.rowS ?_ _ | with_reducible refine Blk.rowO ?_ _ (by simp))) hb
  have g2 : Blk w1 (w.heap.size + 1 + 1) #[.int .u64 (pl b 0), .int .u64 (pl b 1), .int .u64 (pl b 2), .int .u64 (pl b 3), .int .u64 (pl b 4), .int .u64 (pl b 5), .int .u64 (pl b 6), .int .u64 (pl b 7), .slice p2 n2 c2, .slice q2 k2 d2] 30 := Blk.grow (by repeat (first | with_reducible assumption | (refine Blk.at _ _ ?_; (simp; done)) | with_reducible refine Blk.alloc ?_ _ | with_reducible refine Blk.drew ?_ | with_reducible refine Blk.rowS ?_ _ | with_reducible refine Blk.rowO ?_ _ (by simp))) hb
  have hB : Below w.heap.size w w1 := bel_trans (by repeat (first | with_reducible exact bel_refl _ | with_reducible assumption | with_reducible refine bel_drewN ?_ _ | with_reducible refine bel_drew ?_ | with_reducible refine bel_alloc ?_ _ | with_reducible refine bel_row ?_ ?_ _ | with_reducible refine bel_set ?_ ?_ _ | refine bel_trans ?_ (by with_reducible assumption) | (simp; done) | (simp; omega))) hb
  replace HS0 := Lib.hid (And.intro (HS0.out.1.mono hB) (HS0.out.2.mono hB))
  replace HS1 := Lib.hid (And.intro (HS1.out.1.mono hB) (HS1.out.2.mono hB))
  clear hb
  have c_g0 := g0.cell
  have l_g0 := g0.lt
  have c_g1 := g1.cell
  have l_g1 := g1.lt
  have c_g2 := g2.cell
  have l_g2 := g2.lt
  go_wp2_with fail
  clear c_g0 l_g0
  clear c_g1 l_g1
  clear c_g2 l_g2
  refine (H25.out _ (bel_trans hB bni)).mono ?_
  rintro e w2 ⟨rfl, hb⟩
  have hbb : Below w1.heap.size w1 w2 := bel_trans bni hb
  replace hB := bel_trans hB hbb
  replace g0 := g0.grow hbb
  replace g1 := g1.grow hbb
  replace g2 := g2.grow hbb
  replace HS0 := Lib.hid (And.intro (HS0.out.1.mono hbb) (HS0.out.2.mono hbb))
  replace HS1 := Lib.hid (And.intro (HS1.out.1.mono hbb) (HS1.out.2.mono hbb))
  clear hb hbb
  have c_g0 := g0.cell
  have l_g0 := g0.lt
  have c_g1 := g1.cell
  have l_g1 := g1.lt
  have c_g2 := g2.cell
  have l_g2 := g2.lt
  go_wp2_with fail
  clear c_g0 l_g0
  clear c_g1 l_g1
  clear c_g2 l_g2
  refine (H25b.out _ (bel_trans hB bni)).mono ?_
  rintro e w3 ⟨rfl, hb⟩
  have hbb : Below w2.heap.size w2 w3 := bel_trans bni hb
  replace hB := bel_trans hB hbb
  replace g0 := g0.grow hbb
  replace g1 := g1.grow hbb
  replace g2 := g2.grow hbb
  replace HS0 := Lib.hid (And.intro (HS0.out.1.mono hbb) (HS0.out.2.mono hbb))
  replace HS1 := Lib.hid (And.intro (HS1.out.1.mono hbb) (HS1.out.2.mono hbb))
  clear hb hbb
  have c_g0 := g0.cell
  have l_g0 := g0.lt
  have c_g1 := g1.cell
  have l_g1 := g1.lt
  have c_g2 := g2.cell
  have l_g2 := g2.lt
  go_wp2_with fail
  clear c_g0 l_g0
  clear c_g1 l_g1
  clear c_g2 l_g2
  refine (Conflict_r HR.out.1 HR.out.2 X Y r hX.out _ (HS0.out.1.mono bni) (HS0.out.2.mono bni) (HS1.out.1.mono bni) (HS1.out.2.mono bni)).mono ?_
  rintro e w4 ⟨rfl, hb⟩
  have hbb : Below w3.heap.size w3 w4 := bel_trans bni hb
  replace hB := bel_trans hB hbb
  replace g0 := g0.grow hbb
  replace g1 := g1.grow hbb
  replace g2 := g2.grow hbb
  replace HS0 := Lib.hid (And.intro (HS0.out.1.mono hbb) (HS0.out.2.mono hbb))
  replace HS1 := Lib.hid (And.intro (HS1.out.1.mono hbb) (HS1.out.2.mono hbb))
  clear hb hbb
  have c_g0 := g0.cell
  have l_g0 := g0.lt
  have c_g1 := g1.cell
  have l_g1 := g1.lt
  have c_g2 := g2.cell
  have l_g2 := g2.lt
  go_wp2_with fail
  clear c_g0 l_g0
  clear c_g1 l_g1
  clear c_g2 l_g2
  refine (H26.out _ (bel_trans hB bni)).mono ?_
  rintro e w5 ⟨B9, L9, M9, E9, p9, n9, c9, q9, k9, d9, rfl, S9, A9, hb⟩
  have hbb : Below w4.heap.size w4 w5 := bel_trans bni hb
  replace hB := bel_trans hB hbb
  replace g0 := g0.grow hbb
  replace g1 := g1.grow hbb
  replace g2 := g2.grow hbb
  replace HS0 := Lib.hid (And.intro (HS0.out.1.mono hbb) (HS0.out.2.mono hbb))
  replace HS1 := Lib.hid (And.intro (HS1.out.1.mono hbb) (HS1.out.2.mono hbb))
  clear hb hbb
  clear S9
  clear A9
  have c_g0 := g0.cell
  have l_g0 := g0.lt
  have c_g1 := g1.cell
  have l_g1 := g1.lt
  have c_g2 := g2.cell
  have l_g2 := g2.lt
  go_wp2_with fail
  clear c_g0 l_g0
  clear c_g1 l_g1
  clear c_g2 l_g2
  refine (H27.out _ (bel_trans hB bni)).mono ?_
  rintro e w6 ⟨rfl, hb⟩
  have hbb : Below w5.heap.size w5 w6 := bel_trans bni hb
  replace hB := bel_trans hB hbb
  replace g0 := g0.grow hbb
  replace g1 := g1.grow hbb
  replace g2 := g2.grow hbb
  replace HS0 := Lib.hid (And.intro (HS0.out.1.mono hbb) (HS0.out.2.mono hbb))
  replace HS1 := Lib.hid (And.intro (HS1.out.1.mono hbb) (HS1.out.2.mono hbb))
  clear hb hbb
  have c_g0 := g0.cell
  have l_g0 := g0.lt
  have c_g1 := g1.cell
  have l_g1 := g1.lt
  have c_g2 := g2.cell
  have l_g2 := g2.lt
  go_wp2_with fail
  clear c_g0 l_g0
  clear c_g1 l_g1
  clear c_g2 l_g2
  refine (HAL.out _ (bel_trans hB bni)).mono ?_
  rintro e w7 ⟨rfl, hb⟩
  have hbb : Below w6.heap.size w6 w7 := bel_trans bni hb
  replace hB := bel_trans hB hbb
  replace g0 := g0.grow hbb
  replace g1 := g1.grow hbb
  replace g2 := g2.grow hbb
  replace HS0 := Lib.hid (And.intro (HS0.out.1.mono hbb) (HS0.out.2.mono hbb))
  replace HS1 := Lib.hid (And.intro (HS1.out.1.mono hbb) (HS1.out.2.mono hbb))
  clear hb hbb
  have c_g0 := g0.cell
  have l_g0 := g0.lt
  have c_g1 := g1.cell
  have l_g1 := g1.lt
  have c_g2 := g2.cell
  have l_g2 := g2.lt
  go_wp2_with fail
  clear c_g0 l_g0
  clear c_g1 l_g1
  clear c_g2 l_g2
  refine bodyPost_ret (v := .bool true) (by simp [results, Tryz.results12, go_sem]) rfl ⟨rfl, hB⟩
set_option maxHeartbeats 8000000 in
theorem TraceJoins_clash_f (b : Sol) (p0 p1 p2 q0 q1 q2 : Option Addr) (n0 n1 n2 c0 c1 c2 k0 k1 k2 d0 d1 d2 : Nat) (w : World) (hm : (many k0 n0 || (many k1 n1 || many k2 n2)) = false) (H25 : Hid (∀ w', Below w.heap.size w w' → Calls Tryz.prog 25 #[.agg #[.int .u64 (pl b 0), .int .u64 (pl b 1), .int .u64 (pl b 2), .int .u64 (pl b 3), .int .u64 (pl b 4), .int .u64 (pl b 5), .int .u64 (pl b 6), .int .u64 (pl b 7), .slice p0 n0 c0], .agg #[.int .u64 (pl b 0), .int .u64 (pl b 1), .int .u64 (pl b 2), .int .u64 (pl b 3), .int .u64 (pl b 4), .int .u64 (pl b 5), .int .u64 (pl b 6), .int .u64 (pl b 7), .slice p1 n1 c1]] w' fun e w'' => e = .returned (.bool true) ∧ Below w'.heap.size w' w'')) (H25b : Hid (∀ w', Below w.heap.size w w' → Calls Tryz.prog 25 #[.agg #[.int .u64 (pl b 0), .int .u64 (pl b 1), .int .u64 (pl b 2), .int .u64 (pl b 3), .int .u64 (pl b 4), .int .u64 (pl b 5), .int .u64 (pl b 6), .int .u64 (pl b 7), .slice p0 n0 c0], .agg #[.int .u64 (pl b 0), .int .u64 (pl b 1), .int .u64 (pl b 2), .int .u64 (pl b 3), .int .u64 (pl b 4), .int .u64 (pl b 5), .int .u64 (pl b 6), .int .u64 (pl b 7), .slice p2 n2 c2]] w' fun e w'' => e = .returned (.bool true) ∧ Below w'.heap.size w' w'')) {l : List Sol} {g h k : List Ac} {s t u : StB} (HR : Hid (Runs b l g s ∧ Runs b l h t)) (HS0 : Hid (SlS w (.slice p0 n0 c0) l ∧ SlA w (.slice q0 k0 d0) g)) (HS1 : Hid (SlS w (.slice p1 n1 c1) l ∧ SlA w (.slice q1 k1 d1) h)) (HS2 : Hid (SlS w (.slice p2 n2 c2) l ∧ SlA w (.slice q2 k2 d2) k)) (HRK : Hid (Runs b l k u)) (X Y : Ac) (hX : Hid (confV (confA l g h) = (X, Y, true))) (hF : Hid (¬ Free2 l g h)) (hD : Hid (X ∈ g ∧ Y ∈ h ∧ depA l X Y = true)) (HX1 : Hid (preB l g k = false)) (H27 : Hid (∀ w', Below w.heap.size w w' → Calls Tryz.prog 27 #[.agg #[.int .u64 (pl b 0), .int .u64 (pl b 1), .int .u64 (pl b 2), .int .u64 (pl b 3), .int .u64 (pl b 4), .int .u64 (pl b 5), .int .u64 (pl b 6), .int .u64 (pl b 7), .slice p2 n2 c2, .slice q2 k2 d2]] w' fun e w'' => e = .returned (.tuple #[.int .i64 0, .int .i64 0]) ∧ Below w'.heap.size w' w'')) (HAL : AliveH w) :
    Calls Tryz.prog 12 #[.agg #[.int .u64 (pl b 0), .int .u64 (pl b 1), .int .u64 (pl b 2), .int .u64 (pl b 3), .int .u64 (pl b 4), .int .u64 (pl b 5), .int .u64 (pl b 6), .int .u64 (pl b 7), .slice p0 n0 c0, .slice q0 k0 d0], .agg #[.int .u64 (pl b 0), .int .u64 (pl b 1), .int .u64 (pl b 2), .int .u64 (pl b 3), .int .u64 (pl b 4), .int .u64 (pl b 5), .int .u64 (pl b 6), .int .u64 (pl b 7), .slice p1 n1 c1, .slice q1 k1 d1], .agg #[.int .u64 (pl b 0), .int .u64 (pl b 1), .int .u64 (pl b 2), .int .u64 (pl b 3), .int .u64 (pl b 4), .int .u64 (pl b 5), .int .u64 (pl b 6), .int .u64 (pl b 7), .slice p2 n2 c2, .slice q2 k2 d2]] w fun e w' => e = .returned (.bool true) ∧ Below w.heap.size w w' := by
  go_enter Tryz.func12, Tryz.ntmps12
  go_wp2_with fail
  refine (few3 (b := b) (p := p0) (q := q0) (n := n0) (c := c0) (k := k0) (d := d0) (b' := b) (p' := p1) (q' := q1) (n' := n1) (c' := c1) (k' := k1) (d' := d1) (b2 := b) (p2 := p2) (q2 := q2) (n2 := n2) (c2 := c2) (k2 := k2) (d2 := d2) (t := 30) _ (by repeat (first | with_reducible assumption | (refine Blk.at _ _ ?_; (simp; done)) | with_reducible refine Blk.alloc ?_ _ | with_reducible refine Blk.drew ?_ | with_reducible refine Blk.rowS ?_ _ | with_reducible refine Blk.rowO ?_ _ (by simp)))).mono ?_
  rw [hm]
  rintro e w1 ⟨rfl, hb⟩
  have g0 : Blk w1 (w.heap.size) #[.int .u64 (pl b 0), .int .u64 (pl b 1), .int .u64 (pl b 2), .int .u64 (pl b 3), .int .u64 (pl b 4), .int .u64 (pl b 5), .int .u64 (pl b 6), .int .u64 (pl b 7), .slice p0 n0 c0, .slice q0 k0 d0] 30 := Blk.grow (by repeat (first | with_reducible assumption | (refine Blk.at _ _ ?_; (simp; done)) | with_reducible refine Blk.alloc ?_ _ | with_reducible refine Blk.drew ?_ | with_reducible refine Blk.rowS ?_ _ | with_reducible refine Blk.rowO ?_ _ (by simp))) hb
  have g1 : Blk w1 (w.heap.size + 1) #[.int .u64 (pl b 0), .int .u64 (pl b 1), .int .u64 (pl b 2), .int .u64 (pl b 3), .int .u64 (pl b 4), .int .u64 (pl b 5), .int .u64 (pl b 6), .int .u64 (pl b 7), .slice p1 n1 c1, .slice q1 k1 d1] 30 := Blk.grow (by repeat (first | with_reducible assumption | (refine Blk.at _ _ ?_; (simp; done)) | with_reducible refine Blk.alloc ?_ _ | with_reducible refine Blk.drew ?_ | with_reducible refine Blk.rowS ?_ _ | with_reducible refine Blk.rowO ?_ _ (by simp))) hb
  have g2 : Blk w1 (w.heap.size + 1 + 1) #[.int .u64 (pl b 0), .int .u64 (pl b 1), .int .u64 (pl b 2), .int .u64 (pl b 3), .int .u64 (pl b 4), .int .u64 (pl b 5), .int .u64 (pl b 6), .int .u64 (pl b 7), .slice p2 n2 c2, .slice q2 k2 d2] 30 := Blk.grow (by repeat (first | with_reducible assumption | (refine Blk.at _ _ ?_; (simp; done)) | with_reducible refine Blk.alloc ?_ _ | with_reducible refine Blk.drew ?_ | with_reducible refine Blk.rowS ?_ _ | with_reducible refine Blk.rowO ?_ _ (by simp))) hb
  have hB : Below w.heap.size w w1 := bel_trans (by repeat (first | with_reducible exact bel_refl _ | with_reducible assumption | with_reducible refine bel_drewN ?_ _ | with_reducible refine bel_drew ?_ | with_reducible refine bel_alloc ?_ _ | with_reducible refine bel_row ?_ ?_ _ | with_reducible refine bel_set ?_ ?_ _ | refine bel_trans ?_ (by with_reducible assumption) | (simp; done) | (simp; omega))) hb
  replace HS0 := Lib.hid (And.intro (HS0.out.1.mono hB) (HS0.out.2.mono hB))
  replace HS1 := Lib.hid (And.intro (HS1.out.1.mono hB) (HS1.out.2.mono hB))
  replace HS2 := Lib.hid (And.intro (HS2.out.1.mono hB) (HS2.out.2.mono hB))
  clear hb
  have c_g0 := g0.cell
  have l_g0 := g0.lt
  have c_g1 := g1.cell
  have l_g1 := g1.lt
  have c_g2 := g2.cell
  have l_g2 := g2.lt
  go_wp2_with fail
  clear c_g0 l_g0
  clear c_g1 l_g1
  clear c_g2 l_g2
  refine (H25.out _ (bel_trans hB bni)).mono ?_
  rintro e w2 ⟨rfl, hb⟩
  have hbb : Below w1.heap.size w1 w2 := bel_trans bni hb
  replace hB := bel_trans hB hbb
  replace g0 := g0.grow hbb
  replace g1 := g1.grow hbb
  replace g2 := g2.grow hbb
  replace HS0 := Lib.hid (And.intro (HS0.out.1.mono hbb) (HS0.out.2.mono hbb))
  replace HS1 := Lib.hid (And.intro (HS1.out.1.mono hbb) (HS1.out.2.mono hbb))
  replace HS2 := Lib.hid (And.intro (HS2.out.1.mono hbb) (HS2.out.2.mono hbb))
  clear hb hbb
  have c_g0 := g0.cell
  have l_g0 := g0.lt
  have c_g1 := g1.cell
  have l_g1 := g1.lt
  have c_g2 := g2.cell
  have l_g2 := g2.lt
  go_wp2_with fail
  clear c_g0 l_g0
  clear c_g1 l_g1
  clear c_g2 l_g2
  refine (H25b.out _ (bel_trans hB bni)).mono ?_
  rintro e w3 ⟨rfl, hb⟩
  have hbb : Below w2.heap.size w2 w3 := bel_trans bni hb
  replace hB := bel_trans hB hbb
  replace g0 := g0.grow hbb
  replace g1 := g1.grow hbb
  replace g2 := g2.grow hbb
  replace HS0 := Lib.hid (And.intro (HS0.out.1.mono hbb) (HS0.out.2.mono hbb))
  replace HS1 := Lib.hid (And.intro (HS1.out.1.mono hbb) (HS1.out.2.mono hbb))
  replace HS2 := Lib.hid (And.intro (HS2.out.1.mono hbb) (HS2.out.2.mono hbb))
  clear hb hbb
  have c_g0 := g0.cell
  have l_g0 := g0.lt
  have c_g1 := g1.cell
  have l_g1 := g1.lt
  have c_g2 := g2.cell
  have l_g2 := g2.lt
  go_wp2_with fail
  clear c_g0 l_g0
  clear c_g1 l_g1
  clear c_g2 l_g2
  refine (Conflict_r HR.out.1 HR.out.2 X Y true hX.out _ (HS0.out.1.mono bni) (HS0.out.2.mono bni) (HS1.out.1.mono bni) (HS1.out.2.mono bni)).mono ?_
  rintro e w4 ⟨rfl, hb⟩
  have hbb : Below w3.heap.size w3 w4 := bel_trans bni hb
  replace hB := bel_trans hB hbb
  replace g0 := g0.grow hbb
  replace g1 := g1.grow hbb
  replace g2 := g2.grow hbb
  replace HS0 := Lib.hid (And.intro (HS0.out.1.mono hbb) (HS0.out.2.mono hbb))
  replace HS1 := Lib.hid (And.intro (HS1.out.1.mono hbb) (HS1.out.2.mono hbb))
  replace HS2 := Lib.hid (And.intro (HS2.out.1.mono hbb) (HS2.out.2.mono hbb))
  clear hb hbb
  have c_g0 := g0.cell
  have l_g0 := g0.lt
  have c_g1 := g1.cell
  have l_g1 := g1.lt
  have c_g2 := g2.cell
  have l_g2 := g2.lt
  go_wp2_with fail
  clear c_g0 l_g0
  clear c_g1 l_g1
  clear c_g2 l_g2
  refine (Merge_c HR.out.1 HR.out.2 hF.out _ (HS0.out.1.mono bni) (HS0.out.2.mono bni) (HS1.out.1.mono bni) (HS1.out.2.mono bni)).mono ?_
  rintro e w5 ⟨p9, n9, c9, q9, k9, d9, rfl, S9, A9, hb⟩
  have g7 : Blk w5 (w4.heap.size) #[.int .u8 X.1, .int .i64 X.2.1, .int .u64 (pl X.2.2 0), .int .u64 (pl X.2.2 1), .int .u64 (pl X.2.2 2), .int .u64 (pl X.2.2 3), .int .u64 (pl X.2.2 4), .int .u64 (pl X.2.2 5), .int .u64 (pl X.2.2 6), .int .u64 (pl X.2.2 7)] 46 := Blk.grow (by repeat (first | with_reducible assumption | (refine Blk.at _ _ ?_; (simp; done)) | with_reducible refine Blk.alloc ?_ _ | with_reducible refine Blk.drew ?_ | with_reducible refine Blk.rowS ?_ _ | with_reducible refine Blk.rowO ?_ _ (by simp))) hb
  have g8 : Blk w5 (w4.heap.size + 1) #[.int .u8 Y.1, .int .i64 Y.2.1, .int .u64 (pl Y.2.2 0), .int .u64 (pl Y.2.2 1), .int .u64 (pl Y.2.2 2), .int .u64 (pl Y.2.2 3), .int .u64 (pl Y.2.2 4), .int .u64 (pl Y.2.2 5), .int .u64 (pl Y.2.2 6), .int .u64 (pl Y.2.2 7)] 46 := Blk.grow (by repeat (first | with_reducible assumption | (refine Blk.at _ _ ?_; (simp; done)) | with_reducible refine Blk.alloc ?_ _ | with_reducible refine Blk.drew ?_ | with_reducible refine Blk.rowS ?_ _ | with_reducible refine Blk.rowO ?_ _ (by simp))) hb
  have hbb : Below w4.heap.size w4 w5 := bel_trans bni hb
  replace hB := bel_trans hB hbb
  replace g0 := g0.grow hbb
  replace g1 := g1.grow hbb
  replace g2 := g2.grow hbb
  replace HS0 := Lib.hid (And.intro (HS0.out.1.mono hbb) (HS0.out.2.mono hbb))
  replace HS1 := Lib.hid (And.intro (HS1.out.1.mono hbb) (HS1.out.2.mono hbb))
  replace HS2 := Lib.hid (And.intro (HS2.out.1.mono hbb) (HS2.out.2.mono hbb))
  clear hb hbb
  generalize w4.heap.size = B5 at *
  clear S9
  clear A9
  have c_g0 := g0.cell
  have l_g0 := g0.lt
  have c_g1 := g1.cell
  have l_g1 := g1.lt
  have c_g2 := g2.cell
  have l_g2 := g2.lt
  have c_g7 := g7.cell
  have l_g7 := g7.lt
  have c_g8 := g8.cell
  have l_g8 := g8.lt
  go_wp2_with fail
  clear c_g0 l_g0
  clear c_g1 l_g1
  clear c_g2 l_g2
  clear c_g7 l_g7
  clear c_g8 l_g8
  refine (H27.out _ (bel_trans hB bni)).mono ?_
  rintro e w6 ⟨rfl, hb⟩
  have hbb : Below w5.heap.size w5 w6 := bel_trans bni hb
  replace hB := bel_trans hB hbb
  replace g0 := g0.grow hbb
  replace g1 := g1.grow hbb
  replace g2 := g2.grow hbb
  replace g7 := g7.grow hbb
  replace g8 := g8.grow hbb
  replace HS0 := Lib.hid (And.intro (HS0.out.1.mono hbb) (HS0.out.2.mono hbb))
  replace HS1 := Lib.hid (And.intro (HS1.out.1.mono hbb) (HS1.out.2.mono hbb))
  replace HS2 := Lib.hid (And.intro (HS2.out.1.mono hbb) (HS2.out.2.mono hbb))
  clear hb hbb
  have c_g0 := g0.cell
  have l_g0 := g0.lt
  have c_g1 := g1.cell
  have l_g1 := g1.lt
  have c_g2 := g2.cell
  have l_g2 := g2.lt
  have c_g7 := g7.cell
  have l_g7 := g7.lt
  have c_g8 := g8.cell
  have l_g8 := g8.lt
  go_wp2_with fail
  clear c_g0 l_g0
  clear c_g1 l_g1
  clear c_g2 l_g2
  clear c_g7 l_g7
  clear c_g8 l_g8
  refine (Indep_dep HR.out.1 HR.out.2 hD.out.1 hD.out.2.1 hD.out.2.2 _ (HS0.out.1.mono bni)).mono ?_
  rintro e w7 ⟨rfl, hb⟩
  have hbb : Below w6.heap.size w6 w7 := bel_trans bni hb
  replace hB := bel_trans hB hbb
  replace g0 := g0.grow hbb
  replace g1 := g1.grow hbb
  replace g2 := g2.grow hbb
  replace g7 := g7.grow hbb
  replace g8 := g8.grow hbb
  replace HS0 := Lib.hid (And.intro (HS0.out.1.mono hbb) (HS0.out.2.mono hbb))
  replace HS1 := Lib.hid (And.intro (HS1.out.1.mono hbb) (HS1.out.2.mono hbb))
  replace HS2 := Lib.hid (And.intro (HS2.out.1.mono hbb) (HS2.out.2.mono hbb))
  clear hb hbb
  have c_g0 := g0.cell
  have l_g0 := g0.lt
  have c_g1 := g1.cell
  have l_g1 := g1.lt
  have c_g2 := g2.cell
  have l_g2 := g2.lt
  have c_g7 := g7.cell
  have l_g7 := g7.lt
  have c_g8 := g8.cell
  have l_g8 := g8.lt
  go_wp2_with fail
  clear c_g0 l_g0
  clear c_g1 l_g1
  clear c_g2 l_g2
  clear c_g7 l_g7
  clear c_g8 l_g8
  refine (HAL.out _ (bel_trans hB bni)).mono ?_
  rintro e w8 ⟨rfl, hb⟩
  have hbb : Below w7.heap.size w7 w8 := bel_trans bni hb
  replace hB := bel_trans hB hbb
  replace g0 := g0.grow hbb
  replace g1 := g1.grow hbb
  replace g2 := g2.grow hbb
  replace g7 := g7.grow hbb
  replace g8 := g8.grow hbb
  replace HS0 := Lib.hid (And.intro (HS0.out.1.mono hbb) (HS0.out.2.mono hbb))
  replace HS1 := Lib.hid (And.intro (HS1.out.1.mono hbb) (HS1.out.2.mono hbb))
  replace HS2 := Lib.hid (And.intro (HS2.out.1.mono hbb) (HS2.out.2.mono hbb))
  clear hb hbb
  have c_g0 := g0.cell
  have l_g0 := g0.lt
  have c_g1 := g1.cell
  have l_g1 := g1.lt
  have c_g2 := g2.cell
  have l_g2 := g2.lt
  have c_g7 := g7.cell
  have l_g7 := g7.lt
  have c_g8 := g8.cell
  have l_g8 := g8.lt
  go_wp2_with fail
  clear c_g0 l_g0
  clear c_g1 l_g1
  clear c_g2 l_g2
  clear c_g7 l_g7
  clear c_g8 l_g8
  refine (begins_is false HX1.out HR.out.1 HRK.out _ (HS0.out.1.mono bni) (HS0.out.2.mono bni) (HS2.out.1.mono bni) (HS2.out.2.mono bni)).mono ?_
  rintro e w9 ⟨rfl, hb⟩
  have hbb : Below w8.heap.size w8 w9 := bel_trans bni hb
  replace hB := bel_trans hB hbb
  replace g0 := g0.grow hbb
  replace g1 := g1.grow hbb
  replace g2 := g2.grow hbb
  replace g7 := g7.grow hbb
  replace g8 := g8.grow hbb
  replace HS0 := Lib.hid (And.intro (HS0.out.1.mono hbb) (HS0.out.2.mono hbb))
  replace HS1 := Lib.hid (And.intro (HS1.out.1.mono hbb) (HS1.out.2.mono hbb))
  replace HS2 := Lib.hid (And.intro (HS2.out.1.mono hbb) (HS2.out.2.mono hbb))
  clear hb hbb
  have c_g0 := g0.cell
  have l_g0 := g0.lt
  have c_g1 := g1.cell
  have l_g1 := g1.lt
  have c_g2 := g2.cell
  have l_g2 := g2.lt
  have c_g7 := g7.cell
  have l_g7 := g7.lt
  have c_g8 := g8.cell
  have l_g8 := g8.lt
  go_wp2_with fail
  clear c_g0 l_g0
  clear c_g1 l_g1
  clear c_g2 l_g2
  clear c_g7 l_g7
  clear c_g8 l_g8
  refine bodyPost_ret (v := .bool true) (by simp [results, Tryz.results12, go_sem]) rfl ⟨rfl, hB⟩
set_option maxHeartbeats 8000000 in
theorem TraceJoins_clash_t (b : Sol) (p0 p1 p2 q0 q1 q2 : Option Addr) (n0 n1 n2 c0 c1 c2 k0 k1 k2 d0 d1 d2 : Nat) (w : World) (hm : (many k0 n0 || (many k1 n1 || many k2 n2)) = false) (H25 : Hid (∀ w', Below w.heap.size w w' → Calls Tryz.prog 25 #[.agg #[.int .u64 (pl b 0), .int .u64 (pl b 1), .int .u64 (pl b 2), .int .u64 (pl b 3), .int .u64 (pl b 4), .int .u64 (pl b 5), .int .u64 (pl b 6), .int .u64 (pl b 7), .slice p0 n0 c0], .agg #[.int .u64 (pl b 0), .int .u64 (pl b 1), .int .u64 (pl b 2), .int .u64 (pl b 3), .int .u64 (pl b 4), .int .u64 (pl b 5), .int .u64 (pl b 6), .int .u64 (pl b 7), .slice p1 n1 c1]] w' fun e w'' => e = .returned (.bool true) ∧ Below w'.heap.size w' w'')) (H25b : Hid (∀ w', Below w.heap.size w w' → Calls Tryz.prog 25 #[.agg #[.int .u64 (pl b 0), .int .u64 (pl b 1), .int .u64 (pl b 2), .int .u64 (pl b 3), .int .u64 (pl b 4), .int .u64 (pl b 5), .int .u64 (pl b 6), .int .u64 (pl b 7), .slice p0 n0 c0], .agg #[.int .u64 (pl b 0), .int .u64 (pl b 1), .int .u64 (pl b 2), .int .u64 (pl b 3), .int .u64 (pl b 4), .int .u64 (pl b 5), .int .u64 (pl b 6), .int .u64 (pl b 7), .slice p2 n2 c2]] w' fun e w'' => e = .returned (.bool true) ∧ Below w'.heap.size w' w'')) {l : List Sol} {g h k : List Ac} {s t u : StB} (HR : Hid (Runs b l g s ∧ Runs b l h t)) (HS0 : Hid (SlS w (.slice p0 n0 c0) l ∧ SlA w (.slice q0 k0 d0) g)) (HS1 : Hid (SlS w (.slice p1 n1 c1) l ∧ SlA w (.slice q1 k1 d1) h)) (HS2 : Hid (SlS w (.slice p2 n2 c2) l ∧ SlA w (.slice q2 k2 d2) k)) (HRK : Hid (Runs b l k u)) (X Y : Ac) (hX : Hid (confV (confA l g h) = (X, Y, true))) (hF : Hid (¬ Free2 l g h)) (hD : Hid (X ∈ g ∧ Y ∈ h ∧ depA l X Y = true)) (HX1 : Hid (preB l g k = true)) (HX2 : Hid (preB l h k = false)) (H27 : Hid (∀ w', Below w.heap.size w w' → Calls Tryz.prog 27 #[.agg #[.int .u64 (pl b 0), .int .u64 (pl b 1), .int .u64 (pl b 2), .int .u64 (pl b 3), .int .u64 (pl b 4), .int .u64 (pl b 5), .int .u64 (pl b 6), .int .u64 (pl b 7), .slice p2 n2 c2, .slice q2 k2 d2]] w' fun e w'' => e = .returned (.tuple #[.int .i64 0, .int .i64 0]) ∧ Below w'.heap.size w' w'')) (HAL : AliveH w) :
    Calls Tryz.prog 12 #[.agg #[.int .u64 (pl b 0), .int .u64 (pl b 1), .int .u64 (pl b 2), .int .u64 (pl b 3), .int .u64 (pl b 4), .int .u64 (pl b 5), .int .u64 (pl b 6), .int .u64 (pl b 7), .slice p0 n0 c0, .slice q0 k0 d0], .agg #[.int .u64 (pl b 0), .int .u64 (pl b 1), .int .u64 (pl b 2), .int .u64 (pl b 3), .int .u64 (pl b 4), .int .u64 (pl b 5), .int .u64 (pl b 6), .int .u64 (pl b 7), .slice p1 n1 c1, .slice q1 k1 d1], .agg #[.int .u64 (pl b 0), .int .u64 (pl b 1), .int .u64 (pl b 2), .int .u64 (pl b 3), .int .u64 (pl b 4), .int .u64 (pl b 5), .int .u64 (pl b 6), .int .u64 (pl b 7), .slice p2 n2 c2, .slice q2 k2 d2]] w fun e w' => e = .returned (.bool true) ∧ Below w.heap.size w w' := by
  go_enter Tryz.func12, Tryz.ntmps12
  go_wp2_with fail
  refine (few3 (b := b) (p := p0) (q := q0) (n := n0) (c := c0) (k := k0) (d := d0) (b' := b) (p' := p1) (q' := q1) (n' := n1) (c' := c1) (k' := k1) (d' := d1) (b2 := b) (p2 := p2) (q2 := q2) (n2 := n2) (c2 := c2) (k2 := k2) (d2 := d2) (t := 30) _ (by repeat (first | with_reducible assumption | (refine Blk.at _ _ ?_; (simp; done)) | with_reducible refine Blk.alloc ?_ _ | with_reducible refine Blk.drew ?_ | with_reducible refine Blk.rowS ?_ _ | with_reducible refine Blk.rowO ?_ _ (by simp)))).mono ?_
  rw [hm]
  rintro e w1 ⟨rfl, hb⟩
  have g0 : Blk w1 (w.heap.size) #[.int .u64 (pl b 0), .int .u64 (pl b 1), .int .u64 (pl b 2), .int .u64 (pl b 3), .int .u64 (pl b 4), .int .u64 (pl b 5), .int .u64 (pl b 6), .int .u64 (pl b 7), .slice p0 n0 c0, .slice q0 k0 d0] 30 := Blk.grow (by repeat (first | with_reducible assumption | (refine Blk.at _ _ ?_; (simp; done)) | with_reducible refine Blk.alloc ?_ _ | with_reducible refine Blk.drew ?_ | with_reducible refine Blk.rowS ?_ _ | with_reducible refine Blk.rowO ?_ _ (by simp))) hb
  have g1 : Blk w1 (w.heap.size + 1) #[.int .u64 (pl b 0), .int .u64 (pl b 1), .int .u64 (pl b 2), .int .u64 (pl b 3), .int .u64 (pl b 4), .int .u64 (pl b 5), .int .u64 (pl b 6), .int .u64 (pl b 7), .slice p1 n1 c1, .slice q1 k1 d1] 30 := Blk.grow (by repeat (first | with_reducible assumption | (refine Blk.at _ _ ?_; (simp; done)) | with_reducible refine Blk.alloc ?_ _ | with_reducible refine Blk.drew ?_ | with_reducible refine Blk.rowS ?_ _ | with_reducible refine Blk.rowO ?_ _ (by simp))) hb
  have g2 : Blk w1 (w.heap.size + 1 + 1) #[.int .u64 (pl b 0), .int .u64 (pl b 1), .int .u64 (pl b 2), .int .u64 (pl b 3), .int .u64 (pl b 4), .int .u64 (pl b 5), .int .u64 (pl b 6), .int .u64 (pl b 7), .slice p2 n2 c2, .slice q2 k2 d2] 30 := Blk.grow (by repeat (first | with_reducible assumption | (refine Blk.at _ _ ?_; (simp; done)) | with_reducible refine Blk.alloc ?_ _ | with_reducible refine Blk.drew ?_ | with_reducible refine Blk.rowS ?_ _ | with_reducible refine Blk.rowO ?_ _ (by simp))) hb
  have hB : Below w.heap.size w w1 := bel_trans (by repeat (first | with_reducible exact bel_refl _ | with_reducible assumption | with_reducible refine bel_drewN ?_ _ | with_reducible refine bel_drew ?_ | with_reducible refine bel_alloc ?_ _ | with_reducible refine bel_row ?_ ?_ _ | with_reducible refine bel_set ?_ ?_ _ | refine bel_trans ?_ (by with_reducible assumption) | (simp; done) | (simp; omega))) hb
  replace HS0 := Lib.hid (And.intro (HS0.out.1.mono hB) (HS0.out.2.mono hB))
  replace HS1 := Lib.hid (And.intro (HS1.out.1.mono hB) (HS1.out.2.mono hB))
  replace HS2 := Lib.hid (And.intro (HS2.out.1.mono hB) (HS2.out.2.mono hB))
  clear hb
  have c_g0 := g0.cell
  have l_g0 := g0.lt
  have c_g1 := g1.cell
  have l_g1 := g1.lt
  have c_g2 := g2.cell
  have l_g2 := g2.lt
  go_wp2_with fail
  clear c_g0 l_g0
  clear c_g1 l_g1
  clear c_g2 l_g2
  refine (H25.out _ (bel_trans hB bni)).mono ?_
  rintro e w2 ⟨rfl, hb⟩
  have hbb : Below w1.heap.size w1 w2 := bel_trans bni hb
  replace hB := bel_trans hB hbb
  replace g0 := g0.grow hbb
  replace g1 := g1.grow hbb
  replace g2 := g2.grow hbb
  replace HS0 := Lib.hid (And.intro (HS0.out.1.mono hbb) (HS0.out.2.mono hbb))
  replace HS1 := Lib.hid (And.intro (HS1.out.1.mono hbb) (HS1.out.2.mono hbb))
  replace HS2 := Lib.hid (And.intro (HS2.out.1.mono hbb) (HS2.out.2.mono hbb))
  clear hb hbb
  have c_g0 := g0.cell
  have l_g0 := g0.lt
  have c_g1 := g1.cell
  have l_g1 := g1.lt
  have c_g2 := g2.cell
  have l_g2 := g2.lt
  go_wp2_with fail
  clear c_g0 l_g0
  clear c_g1 l_g1
  clear c_g2 l_g2
  refine (H25b.out _ (bel_trans hB bni)).mono ?_
  rintro e w3 ⟨rfl, hb⟩
  have hbb : Below w2.heap.size w2 w3 := bel_trans bni hb
  replace hB := bel_trans hB hbb
  replace g0 := g0.grow hbb
  replace g1 := g1.grow hbb
  replace g2 := g2.grow hbb
  replace HS0 := Lib.hid (And.intro (HS0.out.1.mono hbb) (HS0.out.2.mono hbb))
  replace HS1 := Lib.hid (And.intro (HS1.out.1.mono hbb) (HS1.out.2.mono hbb))
  replace HS2 := Lib.hid (And.intro (HS2.out.1.mono hbb) (HS2.out.2.mono hbb))
  clear hb hbb
  have c_g0 := g0.cell
  have l_g0 := g0.lt
  have c_g1 := g1.cell
  have l_g1 := g1.lt
  have c_g2 := g2.cell
  have l_g2 := g2.lt
  go_wp2_with fail
  clear c_g0 l_g0
  clear c_g1 l_g1
  clear c_g2 l_g2
  refine (Conflict_r HR.out.1 HR.out.2 X Y true hX.out _ (HS0.out.1.mono bni) (HS0.out.2.mono bni) (HS1.out.1.mono bni) (HS1.out.2.mono bni)).mono ?_
  rintro e w4 ⟨rfl, hb⟩
  have hbb : Below w3.heap.size w3 w4 := bel_trans bni hb
  replace hB := bel_trans hB hbb
  replace g0 := g0.grow hbb
  replace g1 := g1.grow hbb
  replace g2 := g2.grow hbb
  replace HS0 := Lib.hid (And.intro (HS0.out.1.mono hbb) (HS0.out.2.mono hbb))
  replace HS1 := Lib.hid (And.intro (HS1.out.1.mono hbb) (HS1.out.2.mono hbb))
  replace HS2 := Lib.hid (And.intro (HS2.out.1.mono hbb) (HS2.out.2.mono hbb))
  clear hb hbb
  have c_g0 := g0.cell
  have l_g0 := g0.lt
  have c_g1 := g1.cell
  have l_g1 := g1.lt
  have c_g2 := g2.cell
  have l_g2 := g2.lt
  go_wp2_with fail
  clear c_g0 l_g0
  clear c_g1 l_g1
  clear c_g2 l_g2
  refine (Merge_c HR.out.1 HR.out.2 hF.out _ (HS0.out.1.mono bni) (HS0.out.2.mono bni) (HS1.out.1.mono bni) (HS1.out.2.mono bni)).mono ?_
  rintro e w5 ⟨p9, n9, c9, q9, k9, d9, rfl, S9, A9, hb⟩
  have g7 : Blk w5 (w4.heap.size) #[.int .u8 X.1, .int .i64 X.2.1, .int .u64 (pl X.2.2 0), .int .u64 (pl X.2.2 1), .int .u64 (pl X.2.2 2), .int .u64 (pl X.2.2 3), .int .u64 (pl X.2.2 4), .int .u64 (pl X.2.2 5), .int .u64 (pl X.2.2 6), .int .u64 (pl X.2.2 7)] 46 := Blk.grow (by repeat (first | with_reducible assumption | (refine Blk.at _ _ ?_; (simp; done)) | with_reducible refine Blk.alloc ?_ _ | with_reducible refine Blk.drew ?_ | with_reducible refine Blk.rowS ?_ _ | with_reducible refine Blk.rowO ?_ _ (by simp))) hb
  have g8 : Blk w5 (w4.heap.size + 1) #[.int .u8 Y.1, .int .i64 Y.2.1, .int .u64 (pl Y.2.2 0), .int .u64 (pl Y.2.2 1), .int .u64 (pl Y.2.2 2), .int .u64 (pl Y.2.2 3), .int .u64 (pl Y.2.2 4), .int .u64 (pl Y.2.2 5), .int .u64 (pl Y.2.2 6), .int .u64 (pl Y.2.2 7)] 46 := Blk.grow (by repeat (first | with_reducible assumption | (refine Blk.at _ _ ?_; (simp; done)) | with_reducible refine Blk.alloc ?_ _ | with_reducible refine Blk.drew ?_ | with_reducible refine Blk.rowS ?_ _ | with_reducible refine Blk.rowO ?_ _ (by simp))) hb
  have hbb : Below w4.heap.size w4 w5 := bel_trans bni hb
  replace hB := bel_trans hB hbb
  replace g0 := g0.grow hbb
  replace g1 := g1.grow hbb
  replace g2 := g2.grow hbb
  replace HS0 := Lib.hid (And.intro (HS0.out.1.mono hbb) (HS0.out.2.mono hbb))
  replace HS1 := Lib.hid (And.intro (HS1.out.1.mono hbb) (HS1.out.2.mono hbb))
  replace HS2 := Lib.hid (And.intro (HS2.out.1.mono hbb) (HS2.out.2.mono hbb))
  clear hb hbb
  generalize w4.heap.size = B5 at *
  clear S9
  clear A9
  have c_g0 := g0.cell
  have l_g0 := g0.lt
  have c_g1 := g1.cell
  have l_g1 := g1.lt
  have c_g2 := g2.cell
  have l_g2 := g2.lt
  have c_g7 := g7.cell
  have l_g7 := g7.lt
  have c_g8 := g8.cell
  have l_g8 := g8.lt
  go_wp2_with fail
  clear c_g0 l_g0
  clear c_g1 l_g1
  clear c_g2 l_g2
  clear c_g7 l_g7
  clear c_g8 l_g8
  refine (H27.out _ (bel_trans hB bni)).mono ?_
  rintro e w6 ⟨rfl, hb⟩
  have hbb : Below w5.heap.size w5 w6 := bel_trans bni hb
  replace hB := bel_trans hB hbb
  replace g0 := g0.grow hbb
  replace g1 := g1.grow hbb
  replace g2 := g2.grow hbb
  replace g7 := g7.grow hbb
  replace g8 := g8.grow hbb
  replace HS0 := Lib.hid (And.intro (HS0.out.1.mono hbb) (HS0.out.2.mono hbb))
  replace HS1 := Lib.hid (And.intro (HS1.out.1.mono hbb) (HS1.out.2.mono hbb))
  replace HS2 := Lib.hid (And.intro (HS2.out.1.mono hbb) (HS2.out.2.mono hbb))
  clear hb hbb
  have c_g0 := g0.cell
  have l_g0 := g0.lt
  have c_g1 := g1.cell
  have l_g1 := g1.lt
  have c_g2 := g2.cell
  have l_g2 := g2.lt
  have c_g7 := g7.cell
  have l_g7 := g7.lt
  have c_g8 := g8.cell
  have l_g8 := g8.lt
  go_wp2_with fail
  clear c_g0 l_g0
  clear c_g1 l_g1
  clear c_g2 l_g2
  clear c_g7 l_g7
  clear c_g8 l_g8
  refine (Indep_dep HR.out.1 HR.out.2 hD.out.1 hD.out.2.1 hD.out.2.2 _ (HS0.out.1.mono bni)).mono ?_
  rintro e w7 ⟨rfl, hb⟩
  have hbb : Below w6.heap.size w6 w7 := bel_trans bni hb
  replace hB := bel_trans hB hbb
  replace g0 := g0.grow hbb
  replace g1 := g1.grow hbb
  replace g2 := g2.grow hbb
  replace g7 := g7.grow hbb
  replace g8 := g8.grow hbb
  replace HS0 := Lib.hid (And.intro (HS0.out.1.mono hbb) (HS0.out.2.mono hbb))
  replace HS1 := Lib.hid (And.intro (HS1.out.1.mono hbb) (HS1.out.2.mono hbb))
  replace HS2 := Lib.hid (And.intro (HS2.out.1.mono hbb) (HS2.out.2.mono hbb))
  clear hb hbb
  have c_g0 := g0.cell
  have l_g0 := g0.lt
  have c_g1 := g1.cell
  have l_g1 := g1.lt
  have c_g2 := g2.cell
  have l_g2 := g2.lt
  have c_g7 := g7.cell
  have l_g7 := g7.lt
  have c_g8 := g8.cell
  have l_g8 := g8.lt
  go_wp2_with fail
  clear c_g0 l_g0
  clear c_g1 l_g1
  clear c_g2 l_g2
  clear c_g7 l_g7
  clear c_g8 l_g8
  refine (HAL.out _ (bel_trans hB bni)).mono ?_
  rintro e w8 ⟨rfl, hb⟩
  have hbb : Below w7.heap.size w7 w8 := bel_trans bni hb
  replace hB := bel_trans hB hbb
  replace g0 := g0.grow hbb
  replace g1 := g1.grow hbb
  replace g2 := g2.grow hbb
  replace g7 := g7.grow hbb
  replace g8 := g8.grow hbb
  replace HS0 := Lib.hid (And.intro (HS0.out.1.mono hbb) (HS0.out.2.mono hbb))
  replace HS1 := Lib.hid (And.intro (HS1.out.1.mono hbb) (HS1.out.2.mono hbb))
  replace HS2 := Lib.hid (And.intro (HS2.out.1.mono hbb) (HS2.out.2.mono hbb))
  clear hb hbb
  have c_g0 := g0.cell
  have l_g0 := g0.lt
  have c_g1 := g1.cell
  have l_g1 := g1.lt
  have c_g2 := g2.cell
  have l_g2 := g2.lt
  have c_g7 := g7.cell
  have l_g7 := g7.lt
  have c_g8 := g8.cell
  have l_g8 := g8.lt
  go_wp2_with fail
  clear c_g0 l_g0
  clear c_g1 l_g1
  clear c_g2 l_g2
  clear c_g7 l_g7
  clear c_g8 l_g8
  refine (begins_is true HX1.out HR.out.1 HRK.out _ (HS0.out.1.mono bni) (HS0.out.2.mono bni) (HS2.out.1.mono bni) (HS2.out.2.mono bni)).mono ?_
  rintro e w9 ⟨rfl, hb⟩
  have hbb : Below w8.heap.size w8 w9 := bel_trans bni hb
  replace hB := bel_trans hB hbb
  replace g0 := g0.grow hbb
  replace g1 := g1.grow hbb
  replace g2 := g2.grow hbb
  replace g7 := g7.grow hbb
  replace g8 := g8.grow hbb
  replace HS0 := Lib.hid (And.intro (HS0.out.1.mono hbb) (HS0.out.2.mono hbb))
  replace HS1 := Lib.hid (And.intro (HS1.out.1.mono hbb) (HS1.out.2.mono hbb))
  replace HS2 := Lib.hid (And.intro (HS2.out.1.mono hbb) (HS2.out.2.mono hbb))
  clear hb hbb
  have c_g0 := g0.cell
  have l_g0 := g0.lt
  have c_g1 := g1.cell
  have l_g1 := g1.lt
  have c_g2 := g2.cell
  have l_g2 := g2.lt
  have c_g7 := g7.cell
  have l_g7 := g7.lt
  have c_g8 := g8.cell
  have l_g8 := g8.lt
  go_wp2_with fail
  clear c_g0 l_g0
  clear c_g1 l_g1
  clear c_g2 l_g2
  clear c_g7 l_g7
  clear c_g8 l_g8
  refine (begins_is false HX2.out HR.out.2 HRK.out _ (HS1.out.1.mono bni) (HS1.out.2.mono bni) (HS2.out.1.mono bni) (HS2.out.2.mono bni)).mono ?_
  rintro e w10 ⟨rfl, hb⟩
  have hbb : Below w9.heap.size w9 w10 := bel_trans bni hb
  replace hB := bel_trans hB hbb
  replace g0 := g0.grow hbb
  replace g1 := g1.grow hbb
  replace g2 := g2.grow hbb
  replace g7 := g7.grow hbb
  replace g8 := g8.grow hbb
  replace HS0 := Lib.hid (And.intro (HS0.out.1.mono hbb) (HS0.out.2.mono hbb))
  replace HS1 := Lib.hid (And.intro (HS1.out.1.mono hbb) (HS1.out.2.mono hbb))
  replace HS2 := Lib.hid (And.intro (HS2.out.1.mono hbb) (HS2.out.2.mono hbb))
  clear hb hbb
  have c_g0 := g0.cell
  have l_g0 := g0.lt
  have c_g1 := g1.cell
  have l_g1 := g1.lt
  have c_g2 := g2.cell
  have l_g2 := g2.lt
  have c_g7 := g7.cell
  have l_g7 := g7.lt
  have c_g8 := g8.cell
  have l_g8 := g8.lt
  go_wp2_with fail
  clear c_g0 l_g0
  clear c_g1 l_g1
  clear c_g2 l_g2
  clear c_g7 l_g7
  clear c_g8 l_g8
  refine bodyPost_ret (v := .bool true) (by simp [results, Tryz.results12, go_sem]) rfl ⟨rfl, hB⟩
set_option maxHeartbeats 8000000 in
theorem TraceJoins_join_a (b : Sol) (p0 p1 p2 q0 q1 q2 : Option Addr) (n0 n1 n2 c0 c1 c2 k0 k1 k2 d0 d1 d2 : Nat) (w : World) (hm : (many k0 n0 || (many k1 n1 || many k2 n2)) = false) (H25 : Hid (∀ w', Below w.heap.size w w' → Calls Tryz.prog 25 #[.agg #[.int .u64 (pl b 0), .int .u64 (pl b 1), .int .u64 (pl b 2), .int .u64 (pl b 3), .int .u64 (pl b 4), .int .u64 (pl b 5), .int .u64 (pl b 6), .int .u64 (pl b 7), .slice p0 n0 c0], .agg #[.int .u64 (pl b 0), .int .u64 (pl b 1), .int .u64 (pl b 2), .int .u64 (pl b 3), .int .u64 (pl b 4), .int .u64 (pl b 5), .int .u64 (pl b 6), .int .u64 (pl b 7), .slice p1 n1 c1]] w' fun e w'' => e = .returned (.bool true) ∧ Below w'.heap.size w' w'')) (H25b : Hid (∀ w', Below w.heap.size w w' → Calls Tryz.prog 25 #[.agg #[.int .u64 (pl b 0), .int .u64 (pl b 1), .int .u64 (pl b 2), .int .u64 (pl b 3), .int .u64 (pl b 4), .int .u64 (pl b 5), .int .u64 (pl b 6), .int .u64 (pl b 7), .slice p0 n0 c0], .agg #[.int .u64 (pl b 0), .int .u64 (pl b 1), .int .u64 (pl b 2), .int .u64 (pl b 3), .int .u64 (pl b 4), .int .u64 (pl b 5), .int .u64 (pl b 6), .int .u64 (pl b 7), .slice p2 n2 c2]] w' fun e w'' => e = .returned (.bool true) ∧ Below w'.heap.size w' w'')) {l : List Sol} {g h k : List Ac} {s t u : StB} (HR : Hid (Runs b l g s ∧ Runs b l h t)) (HS0 : Hid (SlS w (.slice p0 n0 c0) l ∧ SlA w (.slice q0 k0 d0) g)) (HS1 : Hid (SlS w (.slice p1 n1 c1) l ∧ SlA w (.slice q1 k1 d1) h)) (HS2 : Hid (SlS w (.slice p2 n2 c2) l ∧ SlA w (.slice q2 k2 d2) k)) (HRK : Hid (Runs b l k u)) (X Y : Ac) (hX : Hid (confV (confA l g h) = (X, Y, false))) (hF : Hid (Free2 l g h)) (hlen : g.length + h.length ≤ 60) {v : StB} (HRM : Hid (Runs b l (nrm l (joinA l g h)) v)) (HP : Hid (preB l g (nrm l (joinA l g h)) = true ∧ preB l h (nrm l (joinA l g h)) = true ∧ (preB l g k = true → preB l h k = true → preB l (nrm l (joinA l g h)) k = true))) (HX1 : Hid (preB l g k = false)) (H27 : Hid (∀ w', Below w.heap.size w w' → Calls Tryz.prog 27 #[.agg #[.int .u64 (pl b 0), .int .u64 (pl b 1), .int .u64 (pl b 2), .int .u64 (pl b 3), .int .u64 (pl b 4), .int .u64 (pl b 5), .int .u64 (pl b 6), .int .u64 (pl b 7), .slice p2 n2 c2, .slice q2 k2 d2]] w' fun e w'' => e = .returned (.tuple #[.int .i64 0, .int .i64 0]) ∧ Below w'.heap.size w' w'')) (HAL : AliveH w) :
    Calls Tryz.prog 12 #[.agg #[.int .u64 (pl b 0), .int .u64 (pl b 1), .int .u64 (pl b 2), .int .u64 (pl b 3), .int .u64 (pl b 4), .int .u64 (pl b 5), .int .u64 (pl b 6), .int .u64 (pl b 7), .slice p0 n0 c0, .slice q0 k0 d0], .agg #[.int .u64 (pl b 0), .int .u64 (pl b 1), .int .u64 (pl b 2), .int .u64 (pl b 3), .int .u64 (pl b 4), .int .u64 (pl b 5), .int .u64 (pl b 6), .int .u64 (pl b 7), .slice p1 n1 c1, .slice q1 k1 d1], .agg #[.int .u64 (pl b 0), .int .u64 (pl b 1), .int .u64 (pl b 2), .int .u64 (pl b 3), .int .u64 (pl b 4), .int .u64 (pl b 5), .int .u64 (pl b 6), .int .u64 (pl b 7), .slice p2 n2 c2, .slice q2 k2 d2]] w fun e w' => e = .returned (.bool true) ∧ Below w.heap.size w w' := by
  go_enter Tryz.func12, Tryz.ntmps12
  go_wp2_with fail
  refine (few3 (b := b) (p := p0) (q := q0) (n := n0) (c := c0) (k := k0) (d := d0) (b' := b) (p' := p1) (q' := q1) (n' := n1) (c' := c1) (k' := k1) (d' := d1) (b2 := b) (p2 := p2) (q2 := q2) (n2 := n2) (c2 := c2) (k2 := k2) (d2 := d2) (t := 30) _ (by repeat (first | with_reducible assumption | (refine Blk.at _ _ ?_; (simp; done)) | with_reducible refine Blk.alloc ?_ _ | with_reducible refine Blk.drew ?_ | with_reducible refine Blk.rowS ?_ _ | with_reducible refine Blk.rowO ?_ _ (by simp)))).mono ?_
  rw [hm]
  rintro e w1 ⟨rfl, hb⟩
  have g0 : Blk w1 (w.heap.size) #[.int .u64 (pl b 0), .int .u64 (pl b 1), .int .u64 (pl b 2), .int .u64 (pl b 3), .int .u64 (pl b 4), .int .u64 (pl b 5), .int .u64 (pl b 6), .int .u64 (pl b 7), .slice p0 n0 c0, .slice q0 k0 d0] 30 := Blk.grow (by repeat (first | with_reducible assumption | (refine Blk.at _ _ ?_; (simp; done)) | with_reducible refine Blk.alloc ?_ _ | with_reducible refine Blk.drew ?_ | with_reducible refine Blk.rowS ?_ _ | with_reducible refine Blk.rowO ?_ _ (by simp))) hb
  have g1 : Blk w1 (w.heap.size + 1) #[.int .u64 (pl b 0), .int .u64 (pl b 1), .int .u64 (pl b 2), .int .u64 (pl b 3), .int .u64 (pl b 4), .int .u64 (pl b 5), .int .u64 (pl b 6), .int .u64 (pl b 7), .slice p1 n1 c1, .slice q1 k1 d1] 30 := Blk.grow (by repeat (first | with_reducible assumption | (refine Blk.at _ _ ?_; (simp; done)) | with_reducible refine Blk.alloc ?_ _ | with_reducible refine Blk.drew ?_ | with_reducible refine Blk.rowS ?_ _ | with_reducible refine Blk.rowO ?_ _ (by simp))) hb
  have g2 : Blk w1 (w.heap.size + 1 + 1) #[.int .u64 (pl b 0), .int .u64 (pl b 1), .int .u64 (pl b 2), .int .u64 (pl b 3), .int .u64 (pl b 4), .int .u64 (pl b 5), .int .u64 (pl b 6), .int .u64 (pl b 7), .slice p2 n2 c2, .slice q2 k2 d2] 30 := Blk.grow (by repeat (first | with_reducible assumption | (refine Blk.at _ _ ?_; (simp; done)) | with_reducible refine Blk.alloc ?_ _ | with_reducible refine Blk.drew ?_ | with_reducible refine Blk.rowS ?_ _ | with_reducible refine Blk.rowO ?_ _ (by simp))) hb
  have hB : Below w.heap.size w w1 := bel_trans (by repeat (first | with_reducible exact bel_refl _ | with_reducible assumption | with_reducible refine bel_drewN ?_ _ | with_reducible refine bel_drew ?_ | with_reducible refine bel_alloc ?_ _ | with_reducible refine bel_row ?_ ?_ _ | with_reducible refine bel_set ?_ ?_ _ | refine bel_trans ?_ (by with_reducible assumption) | (simp; done) | (simp; omega))) hb
  replace HS0 := Lib.hid (And.intro (HS0.out.1.mono hB) (HS0.out.2.mono hB))
  replace HS1 := Lib.hid (And.intro (HS1.out.1.mono hB) (HS1.out.2.mono hB))
  replace HS2 := Lib.hid (And.intro (HS2.out.1.mono hB) (HS2.out.2.mono hB))
  clear hb
  have c_g0 := g0.cell
  have l_g0 := g0.lt
  have c_g1 := g1.cell
  have l_g1 := g1.lt
  have c_g2 := g2.cell
  have l_g2 := g2.lt
  go_wp2_with fail
  clear c_g0 l_g0
  clear c_g1 l_g1
  clear c_g2 l_g2
  refine (H25.out _ (bel_trans hB bni)).mono ?_
  rintro e w2 ⟨rfl, hb⟩
  have hbb : Below w1.heap.size w1 w2 := bel_trans bni hb
  replace hB := bel_trans hB hbb
  replace g0 := g0.grow hbb
  replace g1 := g1.grow hbb
  replace g2 := g2.grow hbb
  replace HS0 := Lib.hid (And.intro (HS0.out.1.mono hbb) (HS0.out.2.mono hbb))
  replace HS1 := Lib.hid (And.intro (HS1.out.1.mono hbb) (HS1.out.2.mono hbb))
  replace HS2 := Lib.hid (And.intro (HS2.out.1.mono hbb) (HS2.out.2.mono hbb))
  clear hb hbb
  have c_g0 := g0.cell
  have l_g0 := g0.lt
  have c_g1 := g1.cell
  have l_g1 := g1.lt
  have c_g2 := g2.cell
  have l_g2 := g2.lt
  go_wp2_with fail
  clear c_g0 l_g0
  clear c_g1 l_g1
  clear c_g2 l_g2
  refine (H25b.out _ (bel_trans hB bni)).mono ?_
  rintro e w3 ⟨rfl, hb⟩
  have hbb : Below w2.heap.size w2 w3 := bel_trans bni hb
  replace hB := bel_trans hB hbb
  replace g0 := g0.grow hbb
  replace g1 := g1.grow hbb
  replace g2 := g2.grow hbb
  replace HS0 := Lib.hid (And.intro (HS0.out.1.mono hbb) (HS0.out.2.mono hbb))
  replace HS1 := Lib.hid (And.intro (HS1.out.1.mono hbb) (HS1.out.2.mono hbb))
  replace HS2 := Lib.hid (And.intro (HS2.out.1.mono hbb) (HS2.out.2.mono hbb))
  clear hb hbb
  have c_g0 := g0.cell
  have l_g0 := g0.lt
  have c_g1 := g1.cell
  have l_g1 := g1.lt
  have c_g2 := g2.cell
  have l_g2 := g2.lt
  go_wp2_with fail
  clear c_g0 l_g0
  clear c_g1 l_g1
  clear c_g2 l_g2
  refine (Conflict_r HR.out.1 HR.out.2 X Y false hX.out _ (HS0.out.1.mono bni) (HS0.out.2.mono bni) (HS1.out.1.mono bni) (HS1.out.2.mono bni)).mono ?_
  rintro e w4 ⟨rfl, hb⟩
  have hbb : Below w3.heap.size w3 w4 := bel_trans bni hb
  replace hB := bel_trans hB hbb
  replace g0 := g0.grow hbb
  replace g1 := g1.grow hbb
  replace g2 := g2.grow hbb
  replace HS0 := Lib.hid (And.intro (HS0.out.1.mono hbb) (HS0.out.2.mono hbb))
  replace HS1 := Lib.hid (And.intro (HS1.out.1.mono hbb) (HS1.out.2.mono hbb))
  replace HS2 := Lib.hid (And.intro (HS2.out.1.mono hbb) (HS2.out.2.mono hbb))
  clear hb hbb
  have c_g0 := g0.cell
  have l_g0 := g0.lt
  have c_g1 := g1.cell
  have l_g1 := g1.lt
  have c_g2 := g2.cell
  have l_g2 := g2.lt
  go_wp2_with fail
  clear c_g0 l_g0
  clear c_g1 l_g1
  clear c_g2 l_g2
  refine (Merge_j HR.out.1 HR.out.2 hF.out hlen _ (HS0.out.1.mono bni) (HS0.out.2.mono bni) (HS1.out.1.mono bni) (HS1.out.2.mono bni)).mono ?_
  rintro e w5 ⟨p9, n9, c9, q9, k9, d9, rfl, S9, A9, hb⟩
  have hbb : Below w4.heap.size w4 w5 := bel_trans bni hb
  replace hB := bel_trans hB hbb
  replace g0 := g0.grow hbb
  replace g1 := g1.grow hbb
  replace g2 := g2.grow hbb
  replace HS0 := Lib.hid (And.intro (HS0.out.1.mono hbb) (HS0.out.2.mono hbb))
  replace HS1 := Lib.hid (And.intro (HS1.out.1.mono hbb) (HS1.out.2.mono hbb))
  replace HS2 := Lib.hid (And.intro (HS2.out.1.mono hbb) (HS2.out.2.mono hbb))
  clear hb hbb
  have HS9 := Lib.hid (And.intro S9 A9)
  clear S9 A9
  have c_g0 := g0.cell
  have l_g0 := g0.lt
  have c_g1 := g1.cell
  have l_g1 := g1.lt
  have c_g2 := g2.cell
  have l_g2 := g2.lt
  go_wp2_with fail
  clear c_g0 l_g0
  clear c_g1 l_g1
  clear c_g2 l_g2
  refine (H27.out _ (bel_trans hB bni)).mono ?_
  rintro e w6 ⟨rfl, hb⟩
  have g9 : Blk w6 (w5.heap.size) #[.int .u64 (pl b 0), .int .u64 (pl b 1), .int .u64 (pl b 2), .int .u64 (pl b 3), .int .u64 (pl b 4), .int .u64 (pl b 5), .int .u64 (pl b 6), .int .u64 (pl b 7), .slice p9 n9 c9, .slice q9 k9 d9] 30 := Blk.grow (by repeat (first | with_reducible assumption | (refine Blk.at _ _ ?_; (simp; done)) | with_reducible refine Blk.alloc ?_ _ | with_reducible refine Blk.drew ?_ | with_reducible refine Blk.rowS ?_ _ | with_reducible refine Blk.rowO ?_ _ (by simp))) hb
  have hbb : Below w5.heap.size w5 w6 := bel_trans bni hb
  replace hB := bel_trans hB hbb
  replace g0 := g0.grow hbb
  replace g1 := g1.grow hbb
  replace g2 := g2.grow hbb
  replace HS0 := Lib.hid (And.intro (HS0.out.1.mono hbb) (HS0.out.2.mono hbb))
  replace HS1 := Lib.hid (And.intro (HS1.out.1.mono hbb) (HS1.out.2.mono hbb))
  replace HS2 := Lib.hid (And.intro (HS2.out.1.mono hbb) (HS2.out.2.mono hbb))
  replace HS9 := Lib.hid (And.intro (HS9.out.1.mono hbb) (HS9.out.2.mono hbb))
  clear hb hbb
  generalize w5.heap.size = B6 at *
  have c_g0 := g0.cell
  have l_g0 := g0.lt
  have c_g1 := g1.cell
  have l_g1 := g1.lt
  have c_g2 := g2.cell
  have l_g2 := g2.lt
  have c_g9 := g9.cell
  have l_g9 := g9.lt
  go_wp2_with fail
  clear c_g0 l_g0
  clear c_g1 l_g1
  clear c_g2 l_g2
  clear c_g9 l_g9
  refine (HAL.out _ (bel_trans hB bni)).mono ?_
  rintro e w7 ⟨rfl, hb⟩
  have hbb : Below w6.heap.size w6 w7 := bel_trans bni hb
  replace hB := bel_trans hB hbb
  replace g0 := g0.grow hbb
  replace g1 := g1.grow hbb
  replace g2 := g2.grow hbb
  replace g9 := g9.grow hbb
  replace HS0 := Lib.hid (And.intro (HS0.out.1.mono hbb) (HS0.out.2.mono hbb))
  replace HS1 := Lib.hid (And.intro (HS1.out.1.mono hbb) (HS1.out.2.mono hbb))
  replace HS2 := Lib.hid (And.intro (HS2.out.1.mono hbb) (HS2.out.2.mono hbb))
  replace HS9 := Lib.hid (And.intro (HS9.out.1.mono hbb) (HS9.out.2.mono hbb))
  clear hb hbb
  have c_g0 := g0.cell
  have l_g0 := g0.lt
  have c_g1 := g1.cell
  have l_g1 := g1.lt
  have c_g2 := g2.cell
  have l_g2 := g2.lt
  have c_g9 := g9.cell
  have l_g9 := g9.lt
  go_wp2_with fail
  clear c_g0 l_g0
  clear c_g1 l_g1
  clear c_g2 l_g2
  clear c_g9 l_g9
  refine (begins_is true HP.out.1 HR.out.1 HRM.out _ (HS0.out.1.mono bni) (HS0.out.2.mono bni) (HS9.out.1.mono bni) (HS9.out.2.mono bni)).mono ?_
  rintro e w8 ⟨rfl, hb⟩
  have hbb : Below w7.heap.size w7 w8 := bel_trans bni hb
  replace hB := bel_trans hB hbb
  replace g0 := g0.grow hbb
  replace g1 := g1.grow hbb
  replace g2 := g2.grow hbb
  replace g9 := g9.grow hbb
  replace HS0 := Lib.hid (And.intro (HS0.out.1.mono hbb) (HS0.out.2.mono hbb))
  replace HS1 := Lib.hid (And.intro (HS1.out.1.mono hbb) (HS1.out.2.mono hbb))
  replace HS2 := Lib.hid (And.intro (HS2.out.1.mono hbb) (HS2.out.2.mono hbb))
  replace HS9 := Lib.hid (And.intro (HS9.out.1.mono hbb) (HS9.out.2.mono hbb))
  clear hb hbb
  have c_g0 := g0.cell
  have l_g0 := g0.lt
  have c_g1 := g1.cell
  have l_g1 := g1.lt
  have c_g2 := g2.cell
  have l_g2 := g2.lt
  have c_g9 := g9.cell
  have l_g9 := g9.lt
  go_wp2_with fail
  clear c_g0 l_g0
  clear c_g1 l_g1
  clear c_g2 l_g2
  clear c_g9 l_g9
  refine (begins_is true HP.out.2.1 HR.out.2 HRM.out _ (HS1.out.1.mono bni) (HS1.out.2.mono bni) (HS9.out.1.mono bni) (HS9.out.2.mono bni)).mono ?_
  rintro e w9 ⟨rfl, hb⟩
  have hbb : Below w8.heap.size w8 w9 := bel_trans bni hb
  replace hB := bel_trans hB hbb
  replace g0 := g0.grow hbb
  replace g1 := g1.grow hbb
  replace g2 := g2.grow hbb
  replace g9 := g9.grow hbb
  replace HS0 := Lib.hid (And.intro (HS0.out.1.mono hbb) (HS0.out.2.mono hbb))
  replace HS1 := Lib.hid (And.intro (HS1.out.1.mono hbb) (HS1.out.2.mono hbb))
  replace HS2 := Lib.hid (And.intro (HS2.out.1.mono hbb) (HS2.out.2.mono hbb))
  replace HS9 := Lib.hid (And.intro (HS9.out.1.mono hbb) (HS9.out.2.mono hbb))
  clear hb hbb
  have c_g0 := g0.cell
  have l_g0 := g0.lt
  have c_g1 := g1.cell
  have l_g1 := g1.lt
  have c_g2 := g2.cell
  have l_g2 := g2.lt
  have c_g9 := g9.cell
  have l_g9 := g9.lt
  go_wp2_with fail
  clear c_g0 l_g0
  clear c_g1 l_g1
  clear c_g2 l_g2
  clear c_g9 l_g9
  refine (begins_is false HX1.out HR.out.1 HRK.out _ (HS0.out.1.mono bni) (HS0.out.2.mono bni) (HS2.out.1.mono bni) (HS2.out.2.mono bni)).mono ?_
  rintro e w10 ⟨rfl, hb⟩
  have hbb : Below w9.heap.size w9 w10 := bel_trans bni hb
  replace hB := bel_trans hB hbb
  replace g0 := g0.grow hbb
  replace g1 := g1.grow hbb
  replace g2 := g2.grow hbb
  replace g9 := g9.grow hbb
  replace HS0 := Lib.hid (And.intro (HS0.out.1.mono hbb) (HS0.out.2.mono hbb))
  replace HS1 := Lib.hid (And.intro (HS1.out.1.mono hbb) (HS1.out.2.mono hbb))
  replace HS2 := Lib.hid (And.intro (HS2.out.1.mono hbb) (HS2.out.2.mono hbb))
  replace HS9 := Lib.hid (And.intro (HS9.out.1.mono hbb) (HS9.out.2.mono hbb))
  clear hb hbb
  have c_g0 := g0.cell
  have l_g0 := g0.lt
  have c_g1 := g1.cell
  have l_g1 := g1.lt
  have c_g2 := g2.cell
  have l_g2 := g2.lt
  have c_g9 := g9.cell
  have l_g9 := g9.lt
  go_wp2_with fail
  clear c_g0 l_g0
  clear c_g1 l_g1
  clear c_g2 l_g2
  clear c_g9 l_g9
  refine bodyPost_ret (v := .bool true) (by simp [results, Tryz.results12, go_sem]) rfl ⟨rfl, hB⟩
set_option maxHeartbeats 8000000 in
theorem TraceJoins_join_b (b : Sol) (p0 p1 p2 q0 q1 q2 : Option Addr) (n0 n1 n2 c0 c1 c2 k0 k1 k2 d0 d1 d2 : Nat) (w : World) (hm : (many k0 n0 || (many k1 n1 || many k2 n2)) = false) (H25 : Hid (∀ w', Below w.heap.size w w' → Calls Tryz.prog 25 #[.agg #[.int .u64 (pl b 0), .int .u64 (pl b 1), .int .u64 (pl b 2), .int .u64 (pl b 3), .int .u64 (pl b 4), .int .u64 (pl b 5), .int .u64 (pl b 6), .int .u64 (pl b 7), .slice p0 n0 c0], .agg #[.int .u64 (pl b 0), .int .u64 (pl b 1), .int .u64 (pl b 2), .int .u64 (pl b 3), .int .u64 (pl b 4), .int .u64 (pl b 5), .int .u64 (pl b 6), .int .u64 (pl b 7), .slice p1 n1 c1]] w' fun e w'' => e = .returned (.bool true) ∧ Below w'.heap.size w' w'')) (H25b : Hid (∀ w', Below w.heap.size w w' → Calls Tryz.prog 25 #[.agg #[.int .u64 (pl b 0), .int .u64 (pl b 1), .int .u64 (pl b 2), .int .u64 (pl b 3), .int .u64 (pl b 4), .int .u64 (pl b 5), .int .u64 (pl b 6), .int .u64 (pl b 7), .slice p0 n0 c0], .agg #[.int .u64 (pl b 0), .int .u64 (pl b 1), .int .u64 (pl b 2), .int .u64 (pl b 3), .int .u64 (pl b 4), .int .u64 (pl b 5), .int .u64 (pl b 6), .int .u64 (pl b 7), .slice p2 n2 c2]] w' fun e w'' => e = .returned (.bool true) ∧ Below w'.heap.size w' w'')) {l : List Sol} {g h k : List Ac} {s t u : StB} (HR : Hid (Runs b l g s ∧ Runs b l h t)) (HS0 : Hid (SlS w (.slice p0 n0 c0) l ∧ SlA w (.slice q0 k0 d0) g)) (HS1 : Hid (SlS w (.slice p1 n1 c1) l ∧ SlA w (.slice q1 k1 d1) h)) (HS2 : Hid (SlS w (.slice p2 n2 c2) l ∧ SlA w (.slice q2 k2 d2) k)) (HRK : Hid (Runs b l k u)) (X Y : Ac) (hX : Hid (confV (confA l g h) = (X, Y, false))) (hF : Hid (Free2 l g h)) (hlen : g.length + h.length ≤ 60) {v : StB} (HRM : Hid (Runs b l (nrm l (joinA l g h)) v)) (HP : Hid (preB l g (nrm l (joinA l g h)) = true ∧ preB l h (nrm l (joinA l g h)) = true ∧ (preB l g k = true → preB l h k = true → preB l (nrm l (joinA l g h)) k = true))) (HX1 : Hid (preB l g k = true)) (HX2 : Hid (preB l h k = false)) (H27 : Hid (∀ w', Below w.heap.size w w' → Calls Tryz.prog 27 #[.agg #[.int .u64 (pl b 0), .int .u64 (pl b 1), .int .u64 (pl b 2), .int .u64 (pl b 3), .int .u64 (pl b 4), .int .u64 (pl b 5), .int .u64 (pl b 6), .int .u64 (pl b 7), .slice p2 n2 c2, .slice q2 k2 d2]] w' fun e w'' => e = .returned (.tuple #[.int .i64 0, .int .i64 0]) ∧ Below w'.heap.size w' w'')) (HAL : AliveH w) :
    Calls Tryz.prog 12 #[.agg #[.int .u64 (pl b 0), .int .u64 (pl b 1), .int .u64 (pl b 2), .int .u64 (pl b 3), .int .u64 (pl b 4), .int .u64 (pl b 5), .int .u64 (pl b 6), .int .u64 (pl b 7), .slice p0 n0 c0, .slice q0 k0 d0], .agg #[.int .u64 (pl b 0), .int .u64 (pl b 1), .int .u64 (pl b 2), .int .u64 (pl b 3), .int .u64 (pl b 4), .int .u64 (pl b 5), .int .u64 (pl b 6), .int .u64 (pl b 7), .slice p1 n1 c1, .slice q1 k1 d1], .agg #[.int .u64 (pl b 0), .int .u64 (pl b 1), .int .u64 (pl b 2), .int .u64 (pl b 3), .int .u64 (pl b 4), .int .u64 (pl b 5), .int .u64 (pl b 6), .int .u64 (pl b 7), .slice p2 n2 c2, .slice q2 k2 d2]] w fun e w' => e = .returned (.bool true) ∧ Below w.heap.size w w' := by
  go_enter Tryz.func12, Tryz.ntmps12
  go_wp2_with fail
  refine (few3 (b := b) (p := p0) (q := q0) (n := n0) (c := c0) (k := k0) (d := d0) (b' := b) (p' := p1) (q' := q1) (n' := n1) (c' := c1) (k' := k1) (d' := d1) (b2 := b) (p2 := p2) (q2 := q2) (n2 := n2) (c2 := c2) (k2 := k2) (d2 := d2) (t := 30) _ (by repeat (first | with_reducible assumption | (refine Blk.at _ _ ?_; (simp; done)) | with_reducible refine Blk.alloc ?_ _ | with_reducible refine Blk.drew ?_ | with_reducible refine Blk.rowS ?_ _ | with_reducible refine Blk.rowO ?_ _ (by simp)))).mono ?_
  rw [hm]
  rintro e w1 ⟨rfl, hb⟩
  have g0 : Blk w1 (w.heap.size) #[.int .u64 (pl b 0), .int .u64 (pl b 1), .int .u64 (pl b 2), .int .u64 (pl b 3), .int .u64 (pl b 4), .int .u64 (pl b 5), .int .u64 (pl b 6), .int .u64 (pl b 7), .slice p0 n0 c0, .slice q0 k0 d0] 30 := Blk.grow (by repeat (first | with_reducible assumption | (refine Blk.at _ _ ?_; (simp; done)) | with_reducible refine Blk.alloc ?_ _ | with_reducible refine Blk.drew ?_ | with_reducible refine Blk.rowS ?_ _ | with_reducible refine Blk.rowO ?_ _ (by simp))) hb
  have g1 : Blk w1 (w.heap.size + 1) #[.int .u64 (pl b 0), .int .u64 (pl b 1), .int .u64 (pl b 2), .int .u64 (pl b 3), .int .u64 (pl b 4), .int .u64 (pl b 5), .int .u64 (pl b 6), .int .u64 (pl b 7), .slice p1 n1 c1, .slice q1 k1 d1] 30 := Blk.grow (by repeat (first | with_reducible assumption | (refine Blk.at _ _ ?_; (simp; done)) | with_reducible refine Blk.alloc ?_ _ | with_reducible refine Blk.drew ?_ | with_reducible refine Blk.rowS ?_ _ | with_reducible refine Blk.rowO ?_ _ (by simp))) hb
  have g2 : Blk w1 (w.heap.size + 1 + 1) #[.int .u64 (pl b 0), .int .u64 (pl b 1), .int .u64 (pl b 2), .int .u64 (pl b 3), .int .u64 (pl b 4), .int .u64 (pl b 5), .int .u64 (pl b 6), .int .u64 (pl b 7), .slice p2 n2 c2, .slice q2 k2 d2] 30 := Blk.grow (by repeat (first | with_reducible assumption | (refine Blk.at _ _ ?_; (simp; done)) | with_reducible refine Blk.alloc ?_ _ | with_reducible refine Blk.drew ?_ | with_reducible refine Blk.rowS ?_ _ | with_reducible refine Blk.rowO ?_ _ (by simp))) hb
  have hB : Below w.heap.size w w1 := bel_trans (by repeat (first | with_reducible exact bel_refl _ | with_reducible assumption | with_reducible refine bel_drewN ?_ _ | with_reducible refine bel_drew ?_ | with_reducible refine bel_alloc ?_ _ | with_reducible refine bel_row ?_ ?_ _ | with_reducible refine bel_set ?_ ?_ _ | refine bel_trans ?_ (by with_reducible assumption) | (simp; done) | (simp; omega))) hb
  replace HS0 := Lib.hid (And.intro (HS0.out.1.mono hB) (HS0.out.2.mono hB))
  replace HS1 := Lib.hid (And.intro (HS1.out.1.mono hB) (HS1.out.2.mono hB))
  replace HS2 := Lib.hid (And.intro (HS2.out.1.mono hB) (HS2.out.2.mono hB))
  clear hb
  have c_g0 := g0.cell
  have l_g0 := g0.lt
  have c_g1 := g1.cell
  have l_g1 := g1.lt
  have c_g2 := g2.cell
  have l_g2 := g2.lt
  go_wp2_with fail
  clear c_g0 l_g0
  clear c_g1 l_g1
  clear c_g2 l_g2
  refine (H25.out _ (bel_trans hB bni)).mono ?_
  rintro e w2 ⟨rfl, hb⟩
  have hbb : Below w1.heap.size w1 w2 := bel_trans bni hb
  replace hB := bel_trans hB hbb
  replace g0 := g0.grow hbb
  replace g1 := g1.grow hbb
  replace g2 := g2.grow hbb
  replace HS0 := Lib.hid (And.intro (HS0.out.1.mono hbb) (HS0.out.2.mono hbb))
  replace HS1 := Lib.hid (And.intro (HS1.out.1.mono hbb) (HS1.out.2.mono hbb))
  replace HS2 := Lib.hid (And.intro (HS2.out.1.mono hbb) (HS2.out.2.mono hbb))
  clear hb hbb
  have c_g0 := g0.cell
  have l_g0 := g0.lt
  have c_g1 := g1.cell
  have l_g1 := g1.lt
  have c_g2 := g2.cell
  have l_g2 := g2.lt
  go_wp2_with fail
  clear c_g0 l_g0
  clear c_g1 l_g1
  clear c_g2 l_g2
  refine (H25b.out _ (bel_trans hB bni)).mono ?_
  rintro e w3 ⟨rfl, hb⟩
  have hbb : Below w2.heap.size w2 w3 := bel_trans bni hb
  replace hB := bel_trans hB hbb
  replace g0 := g0.grow hbb
  replace g1 := g1.grow hbb
  replace g2 := g2.grow hbb
  replace HS0 := Lib.hid (And.intro (HS0.out.1.mono hbb) (HS0.out.2.mono hbb))
  replace HS1 := Lib.hid (And.intro (HS1.out.1.mono hbb) (HS1.out.2.mono hbb))
  replace HS2 := Lib.hid (And.intro (HS2.out.1.mono hbb) (HS2.out.2.mono hbb))
  clear hb hbb
  have c_g0 := g0.cell
  have l_g0 := g0.lt
  have c_g1 := g1.cell
  have l_g1 := g1.lt
  have c_g2 := g2.cell
  have l_g2 := g2.lt
  go_wp2_with fail
  clear c_g0 l_g0
  clear c_g1 l_g1
  clear c_g2 l_g2
  refine (Conflict_r HR.out.1 HR.out.2 X Y false hX.out _ (HS0.out.1.mono bni) (HS0.out.2.mono bni) (HS1.out.1.mono bni) (HS1.out.2.mono bni)).mono ?_
  rintro e w4 ⟨rfl, hb⟩
  have hbb : Below w3.heap.size w3 w4 := bel_trans bni hb
  replace hB := bel_trans hB hbb
  replace g0 := g0.grow hbb
  replace g1 := g1.grow hbb
  replace g2 := g2.grow hbb
  replace HS0 := Lib.hid (And.intro (HS0.out.1.mono hbb) (HS0.out.2.mono hbb))
  replace HS1 := Lib.hid (And.intro (HS1.out.1.mono hbb) (HS1.out.2.mono hbb))
  replace HS2 := Lib.hid (And.intro (HS2.out.1.mono hbb) (HS2.out.2.mono hbb))
  clear hb hbb
  have c_g0 := g0.cell
  have l_g0 := g0.lt
  have c_g1 := g1.cell
  have l_g1 := g1.lt
  have c_g2 := g2.cell
  have l_g2 := g2.lt
  go_wp2_with fail
  clear c_g0 l_g0
  clear c_g1 l_g1
  clear c_g2 l_g2
  refine (Merge_j HR.out.1 HR.out.2 hF.out hlen _ (HS0.out.1.mono bni) (HS0.out.2.mono bni) (HS1.out.1.mono bni) (HS1.out.2.mono bni)).mono ?_
  rintro e w5 ⟨p9, n9, c9, q9, k9, d9, rfl, S9, A9, hb⟩
  have hbb : Below w4.heap.size w4 w5 := bel_trans bni hb
  replace hB := bel_trans hB hbb
  replace g0 := g0.grow hbb
  replace g1 := g1.grow hbb
  replace g2 := g2.grow hbb
  replace HS0 := Lib.hid (And.intro (HS0.out.1.mono hbb) (HS0.out.2.mono hbb))
  replace HS1 := Lib.hid (And.intro (HS1.out.1.mono hbb) (HS1.out.2.mono hbb))
  replace HS2 := Lib.hid (And.intro (HS2.out.1.mono hbb) (HS2.out.2.mono hbb))
  clear hb hbb
  have HS9 := Lib.hid (And.intro S9 A9)
  clear S9 A9
  have c_g0 := g0.cell
  have l_g0 := g0.lt
  have c_g1 := g1.cell
  have l_g1 := g1.lt
  have c_g2 := g2.cell
  have l_g2 := g2.lt
  go_wp2_with fail
  clear c_g0 l_g0
  clear c_g1 l_g1
  clear c_g2 l_g2
  refine (H27.out _ (bel_trans hB bni)).mono ?_
  rintro e w6 ⟨rfl, hb⟩
  have g9 : Blk w6 (w5.heap.size) #[.int .u64 (pl b 0), .int .u64 (pl b 1), .int .u64 (pl b 2), .int .u64 (pl b 3), .int .u64 (pl b 4), .int .u64 (pl b 5), .int .u64 (pl b 6), .int .u64 (pl b 7), .slice p9 n9 c9, .slice q9 k9 d9] 30 := Blk.grow (by repeat (first | with_reducible assumption | (refine Blk.at _ _ ?_; (simp; done)) | with_reducible refine Blk.alloc ?_ _ | with_reducible refine Blk.drew ?_ | with_reducible refine Blk.rowS ?_ _ | with_reducible refine Blk.rowO ?_ _ (by simp))) hb
  have hbb : Below w5.heap.size w5 w6 := bel_trans bni hb
  replace hB := bel_trans hB hbb
  replace g0 := g0.grow hbb
  replace g1 := g1.grow hbb
  replace g2 := g2.grow hbb
  replace HS0 := Lib.hid (And.intro (HS0.out.1.mono hbb) (HS0.out.2.mono hbb))
  replace HS1 := Lib.hid (And.intro (HS1.out.1.mono hbb) (HS1.out.2.mono hbb))
  replace HS2 := Lib.hid (And.intro (HS2.out.1.mono hbb) (HS2.out.2.mono hbb))
  replace HS9 := Lib.hid (And.intro (HS9.out.1.mono hbb) (HS9.out.2.mono hbb))
  clear hb hbb
  generalize w5.heap.size = B6 at *
  have c_g0 := g0.cell
  have l_g0 := g0.lt
  have c_g1 := g1.cell
  have l_g1 := g1.lt
  have c_g2 := g2.cell
  have l_g2 := g2.lt
  have c_g9 := g9.cell
  have l_g9 := g9.lt
  go_wp2_with fail
  clear c_g0 l_g0
  clear c_g1 l_g1
  clear c_g2 l_g2
  clear c_g9 l_g9
  refine (HAL.out _ (bel_trans hB bni)).mono ?_
  rintro e w7 ⟨rfl, hb⟩
  have hbb : Below w6.heap.size w6 w7 := bel_trans bni hb
  replace hB := bel_trans hB hbb
  replace g0 := g0.grow hbb
  replace g1 := g1.grow hbb
  replace g2 := g2.grow hbb
  replace g9 := g9.grow hbb
  replace HS0 := Lib.hid (And.intro (HS0.out.1.mono hbb) (HS0.out.2.mono hbb))
  replace HS1 := Lib.hid (And.intro (HS1.out.1.mono hbb) (HS1.out.2.mono hbb))
  replace HS2 := Lib.hid (And.intro (HS2.out.1.mono hbb) (HS2.out.2.mono hbb))
  replace HS9 := Lib.hid (And.intro (HS9.out.1.mono hbb) (HS9.out.2.mono hbb))
  clear hb hbb
  have c_g0 := g0.cell
  have l_g0 := g0.lt
  have c_g1 := g1.cell
  have l_g1 := g1.lt
  have c_g2 := g2.cell
  have l_g2 := g2.lt
  have c_g9 := g9.cell
  have l_g9 := g9.lt
  go_wp2_with fail
  clear c_g0 l_g0
  clear c_g1 l_g1
  clear c_g2 l_g2
  clear c_g9 l_g9
  refine (begins_is true HP.out.1 HR.out.1 HRM.out _ (HS0.out.1.mono bni) (HS0.out.2.mono bni) (HS9.out.1.mono bni) (HS9.out.2.mono bni)).mono ?_
  rintro e w8 ⟨rfl, hb⟩
  have hbb : Below w7.heap.size w7 w8 := bel_trans bni hb
  replace hB := bel_trans hB hbb
  replace g0 := g0.grow hbb
  replace g1 := g1.grow hbb
  replace g2 := g2.grow hbb
  replace g9 := g9.grow hbb
  replace HS0 := Lib.hid (And.intro (HS0.out.1.mono hbb) (HS0.out.2.mono hbb))
  replace HS1 := Lib.hid (And.intro (HS1.out.1.mono hbb) (HS1.out.2.mono hbb))
  replace HS2 := Lib.hid (And.intro (HS2.out.1.mono hbb) (HS2.out.2.mono hbb))
  replace HS9 := Lib.hid (And.intro (HS9.out.1.mono hbb) (HS9.out.2.mono hbb))
  clear hb hbb
  have c_g0 := g0.cell
  have l_g0 := g0.lt
  have c_g1 := g1.cell
  have l_g1 := g1.lt
  have c_g2 := g2.cell
  have l_g2 := g2.lt
  have c_g9 := g9.cell
  have l_g9 := g9.lt
  go_wp2_with fail
  clear c_g0 l_g0
  clear c_g1 l_g1
  clear c_g2 l_g2
  clear c_g9 l_g9
  refine (begins_is true HP.out.2.1 HR.out.2 HRM.out _ (HS1.out.1.mono bni) (HS1.out.2.mono bni) (HS9.out.1.mono bni) (HS9.out.2.mono bni)).mono ?_
  rintro e w9 ⟨rfl, hb⟩
  have hbb : Below w8.heap.size w8 w9 := bel_trans bni hb
  replace hB := bel_trans hB hbb
  replace g0 := g0.grow hbb
  replace g1 := g1.grow hbb
  replace g2 := g2.grow hbb
  replace g9 := g9.grow hbb
  replace HS0 := Lib.hid (And.intro (HS0.out.1.mono hbb) (HS0.out.2.mono hbb))
  replace HS1 := Lib.hid (And.intro (HS1.out.1.mono hbb) (HS1.out.2.mono hbb))
  replace HS2 := Lib.hid (And.intro (HS2.out.1.mono hbb) (HS2.out.2.mono hbb))
  replace HS9 := Lib.hid (And.intro (HS9.out.1.mono hbb) (HS9.out.2.mono hbb))
  clear hb hbb
  have c_g0 := g0.cell
  have l_g0 := g0.lt
  have c_g1 := g1.cell
  have l_g1 := g1.lt
  have c_g2 := g2.cell
  have l_g2 := g2.lt
  have c_g9 := g9.cell
  have l_g9 := g9.lt
  go_wp2_with fail
  clear c_g0 l_g0
  clear c_g1 l_g1
  clear c_g2 l_g2
  clear c_g9 l_g9
  refine (begins_is true HX1.out HR.out.1 HRK.out _ (HS0.out.1.mono bni) (HS0.out.2.mono bni) (HS2.out.1.mono bni) (HS2.out.2.mono bni)).mono ?_
  rintro e w10 ⟨rfl, hb⟩
  have hbb : Below w9.heap.size w9 w10 := bel_trans bni hb
  replace hB := bel_trans hB hbb
  replace g0 := g0.grow hbb
  replace g1 := g1.grow hbb
  replace g2 := g2.grow hbb
  replace g9 := g9.grow hbb
  replace HS0 := Lib.hid (And.intro (HS0.out.1.mono hbb) (HS0.out.2.mono hbb))
  replace HS1 := Lib.hid (And.intro (HS1.out.1.mono hbb) (HS1.out.2.mono hbb))
  replace HS2 := Lib.hid (And.intro (HS2.out.1.mono hbb) (HS2.out.2.mono hbb))
  replace HS9 := Lib.hid (And.intro (HS9.out.1.mono hbb) (HS9.out.2.mono hbb))
  clear hb hbb
  have c_g0 := g0.cell
  have l_g0 := g0.lt
  have c_g1 := g1.cell
  have l_g1 := g1.lt
  have c_g2 := g2.cell
  have l_g2 := g2.lt
  have c_g9 := g9.cell
  have l_g9 := g9.lt
  go_wp2_with fail
  clear c_g0 l_g0
  clear c_g1 l_g1
  clear c_g2 l_g2
  clear c_g9 l_g9
  refine (begins_is false HX2.out HR.out.2 HRK.out _ (HS1.out.1.mono bni) (HS1.out.2.mono bni) (HS2.out.1.mono bni) (HS2.out.2.mono bni)).mono ?_
  rintro e w11 ⟨rfl, hb⟩
  have hbb : Below w10.heap.size w10 w11 := bel_trans bni hb
  replace hB := bel_trans hB hbb
  replace g0 := g0.grow hbb
  replace g1 := g1.grow hbb
  replace g2 := g2.grow hbb
  replace g9 := g9.grow hbb
  replace HS0 := Lib.hid (And.intro (HS0.out.1.mono hbb) (HS0.out.2.mono hbb))
  replace HS1 := Lib.hid (And.intro (HS1.out.1.mono hbb) (HS1.out.2.mono hbb))
  replace HS2 := Lib.hid (And.intro (HS2.out.1.mono hbb) (HS2.out.2.mono hbb))
  replace HS9 := Lib.hid (And.intro (HS9.out.1.mono hbb) (HS9.out.2.mono hbb))
  clear hb hbb
  have c_g0 := g0.cell
  have l_g0 := g0.lt
  have c_g1 := g1.cell
  have l_g1 := g1.lt
  have c_g2 := g2.cell
  have l_g2 := g2.lt
  have c_g9 := g9.cell
  have l_g9 := g9.lt
  go_wp2_with fail
  clear c_g0 l_g0
  clear c_g1 l_g1
  clear c_g2 l_g2
  clear c_g9 l_g9
  refine bodyPost_ret (v := .bool true) (by simp [results, Tryz.results12, go_sem]) rfl ⟨rfl, hB⟩
set_option maxHeartbeats 8000000 in
theorem TraceJoins_join_c (b : Sol) (p0 p1 p2 q0 q1 q2 : Option Addr) (n0 n1 n2 c0 c1 c2 k0 k1 k2 d0 d1 d2 : Nat) (w : World) (hm : (many k0 n0 || (many k1 n1 || many k2 n2)) = false) (H25 : Hid (∀ w', Below w.heap.size w w' → Calls Tryz.prog 25 #[.agg #[.int .u64 (pl b 0), .int .u64 (pl b 1), .int .u64 (pl b 2), .int .u64 (pl b 3), .int .u64 (pl b 4), .int .u64 (pl b 5), .int .u64 (pl b 6), .int .u64 (pl b 7), .slice p0 n0 c0], .agg #[.int .u64 (pl b 0), .int .u64 (pl b 1), .int .u64 (pl b 2), .int .u64 (pl b 3), .int .u64 (pl b 4), .int .u64 (pl b 5), .int .u64 (pl b 6), .int .u64 (pl b 7), .slice p1 n1 c1]] w' fun e w'' => e = .returned (.bool true) ∧ Below w'.heap.size w' w'')) (H25b : Hid (∀ w', Below w.heap.size w w' → Calls Tryz.prog 25 #[.agg #[.int .u64 (pl b 0), .int .u64 (pl b 1), .int .u64 (pl b 2), .int .u64 (pl b 3), .int .u64 (pl b 4), .int .u64 (pl b 5), .int .u64 (pl b 6), .int .u64 (pl b 7), .slice p0 n0 c0], .agg #[.int .u64 (pl b 0), .int .u64 (pl b 1), .int .u64 (pl b 2), .int .u64 (pl b 3), .int .u64 (pl b 4), .int .u64 (pl b 5), .int .u64 (pl b 6), .int .u64 (pl b 7), .slice p2 n2 c2]] w' fun e w'' => e = .returned (.bool true) ∧ Below w'.heap.size w' w'')) {l : List Sol} {g h k : List Ac} {s t u : StB} (HR : Hid (Runs b l g s ∧ Runs b l h t)) (HS0 : Hid (SlS w (.slice p0 n0 c0) l ∧ SlA w (.slice q0 k0 d0) g)) (HS1 : Hid (SlS w (.slice p1 n1 c1) l ∧ SlA w (.slice q1 k1 d1) h)) (HS2 : Hid (SlS w (.slice p2 n2 c2) l ∧ SlA w (.slice q2 k2 d2) k)) (HRK : Hid (Runs b l k u)) (X Y : Ac) (hX : Hid (confV (confA l g h) = (X, Y, false))) (hF : Hid (Free2 l g h)) (hlen : g.length + h.length ≤ 60) {v : StB} (HRM : Hid (Runs b l (nrm l (joinA l g h)) v)) (HP : Hid (preB l g (nrm l (joinA l g h)) = true ∧ preB l h (nrm l (joinA l g h)) = true ∧ (preB l g k = true → preB l h k = true → preB l (nrm l (joinA l g h)) k = true))) (HX1 : Hid (preB l g k = true)) (HX2 : Hid (preB l h k = true)) (H27 : Hid (∀ w', Below w.heap.size w w' → Calls Tryz.prog 27 #[.agg #[.int .u64 (pl b 0), .int .u64 (pl b 1), .int .u64 (pl b 2), .int .u64 (pl b 3), .int .u64 (pl b 4), .int .u64 (pl b 5), .int .u64 (pl b 6), .int .u64 (pl b 7), .slice p2 n2 c2, .slice q2 k2 d2]] w' fun e w'' => e = .returned (.tuple #[.int .i64 0, .int .i64 0]) ∧ Below w'.heap.size w' w'')) (HAL : AliveH w) :
    Calls Tryz.prog 12 #[.agg #[.int .u64 (pl b 0), .int .u64 (pl b 1), .int .u64 (pl b 2), .int .u64 (pl b 3), .int .u64 (pl b 4), .int .u64 (pl b 5), .int .u64 (pl b 6), .int .u64 (pl b 7), .slice p0 n0 c0, .slice q0 k0 d0], .agg #[.int .u64 (pl b 0), .int .u64 (pl b 1), .int .u64 (pl b 2), .int .u64 (pl b 3), .int .u64 (pl b 4), .int .u64 (pl b 5), .int .u64 (pl b 6), .int .u64 (pl b 7), .slice p1 n1 c1, .slice q1 k1 d1], .agg #[.int .u64 (pl b 0), .int .u64 (pl b 1), .int .u64 (pl b 2), .int .u64 (pl b 3), .int .u64 (pl b 4), .int .u64 (pl b 5), .int .u64 (pl b 6), .int .u64 (pl b 7), .slice p2 n2 c2, .slice q2 k2 d2]] w fun e w' => e = .returned (.bool true) ∧ Below w.heap.size w w' := by
  go_enter Tryz.func12, Tryz.ntmps12
  go_wp2_with fail
  refine (few3 (b := b) (p := p0) (q := q0) (n := n0) (c := c0) (k := k0) (d := d0) (b' := b) (p' := p1) (q' := q1) (n' := n1) (c' := c1) (k' := k1) (d' := d1) (b2 := b) (p2 := p2) (q2 := q2) (n2 := n2) (c2 := c2) (k2 := k2) (d2 := d2) (t := 30) _ (by repeat (first | with_reducible assumption | (refine Blk.at _ _ ?_; (simp; done)) | with_reducible refine Blk.alloc ?_ _ | with_reducible refine Blk.drew ?_ | with_reducible refine Blk.rowS ?_ _ | with_reducible refine Blk.rowO ?_ _ (by simp)))).mono ?_
  rw [hm]
  rintro e w1 ⟨rfl, hb⟩
  have g0 : Blk w1 (w.heap.size) #[.int .u64 (pl b 0), .int .u64 (pl b 1), .int .u64 (pl b 2), .int .u64 (pl b 3), .int .u64 (pl b 4), .int .u64 (pl b 5), .int .u64 (pl b 6), .int .u64 (pl b 7), .slice p0 n0 c0, .slice q0 k0 d0] 30 := Blk.grow (by repeat (first | with_reducible assumption | (refine Blk.at _ _ ?_; (simp; done)) | with_reducible refine Blk.alloc ?_ _ | with_reducible refine Blk.drew ?_ | with_reducible refine Blk.rowS ?_ _ | with_reducible refine Blk.rowO ?_ _ (by simp))) hb
  have g1 : Blk w1 (w.heap.size + 1) #[.int .u64 (pl b 0), .int .u64 (pl b 1), .int .u64 (pl b 2), .int .u64 (pl b 3), .int .u64 (pl b 4), .int .u64 (pl b 5), .int .u64 (pl b 6), .int .u64 (pl b 7), .slice p1 n1 c1, .slice q1 k1 d1] 30 := Blk.grow (by repeat (first | with_reducible assumption | (refine Blk.at _ _ ?_; (simp; done)) | with_reducible refine Blk.alloc ?_ _ | with_reducible refine Blk.drew ?_ | with_reducible refine Blk.rowS ?_ _ | with_reducible refine Blk.rowO ?_ _ (by simp))) hb
  have g2 : Blk w1 (w.heap.size + 1 + 1) #[.int .u64 (pl b 0), .int .u64 (pl b 1), .int .u64 (pl b 2), .int .u64 (pl b 3), .int .u64 (pl b 4), .int .u64 (pl b 5), .int .u64 (pl b 6), .int .u64 (pl b 7), .slice p2 n2 c2, .slice q2 k2 d2] 30 := Blk.grow (by repeat (first | with_reducible assumption | (refine Blk.at _ _ ?_; (simp; done)) | with_reducible refine Blk.alloc ?_ _ | with_reducible refine Blk.drew ?_ | with_reducible refine Blk.rowS ?_ _ | with_reducible refine Blk.rowO ?_ _ (by simp))) hb
  have hB : Below w.heap.size w w1 := bel_trans (by repeat (first | with_reducible exact bel_refl _ | with_reducible assumption | with_reducible refine bel_drewN ?_ _ | with_reducible refine bel_drew ?_ | with_reducible refine bel_alloc ?_ _ | with_reducible refine bel_row ?_ ?_ _ | with_reducible refine bel_set ?_ ?_ _ | refine bel_trans ?_ (by with_reducible assumption) | (simp; done) | (simp; omega))) hb
  replace HS0 := Lib.hid (And.intro (HS0.out.1.mono hB) (HS0.out.2.mono hB))
  replace HS1 := Lib.hid (And.intro (HS1.out.1.mono hB) (HS1.out.2.mono hB))
  replace HS2 := Lib.hid (And.intro (HS2.out.1.mono hB) (HS2.out.2.mono hB))
  clear hb
  have c_g0 := g0.cell
  have l_g0 := g0.lt
  have c_g1 := g1.cell
  have l_g1 := g1.lt
  have c_g2 := g2.cell
  have l_g2 := g2.lt
  go_wp2_with fail
  clear c_g0 l_g0
  clear c_g1 l_g1
  clear c_g2 l_g2
  refine (H25.out _ (bel_trans hB bni)).mono ?_
  rintro e w2 ⟨rfl, hb⟩
  have hbb : Below w1.heap.size w1 w2 := bel_trans bni hb
  replace hB := bel_trans hB hbb
  replace g0 := g0.grow hbb
  replace g1 := g1.grow hbb
  replace g2 := g2.grow hbb
  replace HS0 := Lib.hid (And.intro (HS0.out.1.mono hbb) (HS0.out.2.mono hbb))
  replace HS1 := Lib.hid (And.intro (HS1.out.1.mono hbb) (HS1.out.2.mono hbb))
  replace HS2 := Lib.hid (And.intro (HS2.out.1.mono hbb) (HS2.out.2.mono hbb))
  clear hb hbb
  have c_g0 := g0.cell
  have l_g0 := g0.lt
  have c_g1 := g1.cell
  have l_g1 := g1.lt
  have c_g2 := g2.cell
  have l_g2 := g2.lt
  go_wp2_with fail
  clear c_g0 l_g0
  clear c_g1 l_g1
  clear c_g2 l_g2
  refine (H25b.out _ (bel_trans hB bni)).mono ?_
  rintro e w3 ⟨rfl, hb⟩
  have hbb : Below w2.heap.size w2 w3 := bel_trans bni hb
  replace hB := bel_trans hB hbb
  replace g0 := g0.grow hbb
  replace g1 := g1.grow hbb
  replace g2 := g2.grow hbb
  replace HS0 := Lib.hid (And.intro (HS0.out.1.mono hbb) (HS0.out.2.mono hbb))
  replace HS1 := Lib.hid (And.intro (HS1.out.1.mono hbb) (HS1.out.2.mono hbb))
  replace HS2 := Lib.hid (And.intro (HS2.out.1.mono hbb) (HS2.out.2.mono hbb))
  clear hb hbb
  have c_g0 := g0.cell
  have l_g0 := g0.lt
  have c_g1 := g1.cell
  have l_g1 := g1.lt
  have c_g2 := g2.cell
  have l_g2 := g2.lt
  go_wp2_with fail
  clear c_g0 l_g0
  clear c_g1 l_g1
  clear c_g2 l_g2
  refine (Conflict_r HR.out.1 HR.out.2 X Y false hX.out _ (HS0.out.1.mono bni) (HS0.out.2.mono bni) (HS1.out.1.mono bni) (HS1.out.2.mono bni)).mono ?_
  rintro e w4 ⟨rfl, hb⟩
  have hbb : Below w3.heap.size w3 w4 := bel_trans bni hb
  replace hB := bel_trans hB hbb
  replace g0 := g0.grow hbb
  replace g1 := g1.grow hbb
  replace g2 := g2.grow hbb
  replace HS0 := Lib.hid (And.intro (HS0.out.1.mono hbb) (HS0.out.2.mono hbb))
  replace HS1 := Lib.hid (And.intro (HS1.out.1.mono hbb) (HS1.out.2.mono hbb))
  replace HS2 := Lib.hid (And.intro (HS2.out.1.mono hbb) (HS2.out.2.mono hbb))
  clear hb hbb
  have c_g0 := g0.cell
  have l_g0 := g0.lt
  have c_g1 := g1.cell
  have l_g1 := g1.lt
  have c_g2 := g2.cell
  have l_g2 := g2.lt
  go_wp2_with fail
  clear c_g0 l_g0
  clear c_g1 l_g1
  clear c_g2 l_g2
  refine (Merge_j HR.out.1 HR.out.2 hF.out hlen _ (HS0.out.1.mono bni) (HS0.out.2.mono bni) (HS1.out.1.mono bni) (HS1.out.2.mono bni)).mono ?_
  rintro e w5 ⟨p9, n9, c9, q9, k9, d9, rfl, S9, A9, hb⟩
  have hbb : Below w4.heap.size w4 w5 := bel_trans bni hb
  replace hB := bel_trans hB hbb
  replace g0 := g0.grow hbb
  replace g1 := g1.grow hbb
  replace g2 := g2.grow hbb
  replace HS0 := Lib.hid (And.intro (HS0.out.1.mono hbb) (HS0.out.2.mono hbb))
  replace HS1 := Lib.hid (And.intro (HS1.out.1.mono hbb) (HS1.out.2.mono hbb))
  replace HS2 := Lib.hid (And.intro (HS2.out.1.mono hbb) (HS2.out.2.mono hbb))
  clear hb hbb
  have HS9 := Lib.hid (And.intro S9 A9)
  clear S9 A9
  have c_g0 := g0.cell
  have l_g0 := g0.lt
  have c_g1 := g1.cell
  have l_g1 := g1.lt
  have c_g2 := g2.cell
  have l_g2 := g2.lt
  go_wp2_with fail
  clear c_g0 l_g0
  clear c_g1 l_g1
  clear c_g2 l_g2
  refine (H27.out _ (bel_trans hB bni)).mono ?_
  rintro e w6 ⟨rfl, hb⟩
  have g9 : Blk w6 (w5.heap.size) #[.int .u64 (pl b 0), .int .u64 (pl b 1), .int .u64 (pl b 2), .int .u64 (pl b 3), .int .u64 (pl b 4), .int .u64 (pl b 5), .int .u64 (pl b 6), .int .u64 (pl b 7), .slice p9 n9 c9, .slice q9 k9 d9] 30 := Blk.grow (by repeat (first | with_reducible assumption | (refine Blk.at _ _ ?_; (simp; done)) | with_reducible refine Blk.alloc ?_ _ | with_reducible refine Blk.drew ?_ | with_reducible refine Blk.rowS ?_ _ | with_reducible refine Blk.rowO ?_ _ (by simp))) hb
  have hbb : Below w5.heap.size w5 w6 := bel_trans bni hb
  replace hB := bel_trans hB hbb
  replace g0 := g0.grow hbb
  replace g1 := g1.grow hbb
  replace g2 := g2.grow hbb
  replace HS0 := Lib.hid (And.intro (HS0.out.1.mono hbb) (HS0.out.2.mono hbb))
  replace HS1 := Lib.hid (And.intro (HS1.out.1.mono hbb) (HS1.out.2.mono hbb))
  replace HS2 := Lib.hid (And.intro (HS2.out.1.mono hbb) (HS2.out.2.mono hbb))
  replace HS9 := Lib.hid (And.intro (HS9.out.1.mono hbb) (HS9.out.2.mono hbb))
  clear hb hbb
  generalize w5.heap.size = B6 at *
  have c_g0 := g0.cell
  have l_g0 := g0.lt
  have c_g1 := g1.cell
  have l_g1 := g1.lt
  have c_g2 := g2.cell
  have l_g2 := g2.lt
  have c_g9 := g9.cell
  have l_g9 := g9.lt
  go_wp2_with fail
  clear c_g0 l_g0
  clear c_g1 l_g1
  clear c_g2 l_g2
  clear c_g9 l_g9
  refine (HAL.out _ (bel_trans hB bni)).mono ?_
  rintro e w7 ⟨rfl, hb⟩
  have hbb : Below w6.heap.size w6 w7 := bel_trans bni hb
  replace hB := bel_trans hB hbb
  replace g0 := g0.grow hbb
  replace g1 := g1.grow hbb
  replace g2 := g2.grow hbb
  replace g9 := g9.grow hbb
  replace HS0 := Lib.hid (And.intro (HS0.out.1.mono hbb) (HS0.out.2.mono hbb))
  replace HS1 := Lib.hid (And.intro (HS1.out.1.mono hbb) (HS1.out.2.mono hbb))
  replace HS2 := Lib.hid (And.intro (HS2.out.1.mono hbb) (HS2.out.2.mono hbb))
  replace HS9 := Lib.hid (And.intro (HS9.out.1.mono hbb) (HS9.out.2.mono hbb))
  clear hb hbb
  have c_g0 := g0.cell
  have l_g0 := g0.lt
  have c_g1 := g1.cell
  have l_g1 := g1.lt
  have c_g2 := g2.cell
  have l_g2 := g2.lt
  have c_g9 := g9.cell
  have l_g9 := g9.lt
  go_wp2_with fail
  clear c_g0 l_g0
  clear c_g1 l_g1
  clear c_g2 l_g2
  clear c_g9 l_g9
  refine (begins_is true HP.out.1 HR.out.1 HRM.out _ (HS0.out.1.mono bni) (HS0.out.2.mono bni) (HS9.out.1.mono bni) (HS9.out.2.mono bni)).mono ?_
  rintro e w8 ⟨rfl, hb⟩
  have hbb : Below w7.heap.size w7 w8 := bel_trans bni hb
  replace hB := bel_trans hB hbb
  replace g0 := g0.grow hbb
  replace g1 := g1.grow hbb
  replace g2 := g2.grow hbb
  replace g9 := g9.grow hbb
  replace HS0 := Lib.hid (And.intro (HS0.out.1.mono hbb) (HS0.out.2.mono hbb))
  replace HS1 := Lib.hid (And.intro (HS1.out.1.mono hbb) (HS1.out.2.mono hbb))
  replace HS2 := Lib.hid (And.intro (HS2.out.1.mono hbb) (HS2.out.2.mono hbb))
  replace HS9 := Lib.hid (And.intro (HS9.out.1.mono hbb) (HS9.out.2.mono hbb))
  clear hb hbb
  have c_g0 := g0.cell
  have l_g0 := g0.lt
  have c_g1 := g1.cell
  have l_g1 := g1.lt
  have c_g2 := g2.cell
  have l_g2 := g2.lt
  have c_g9 := g9.cell
  have l_g9 := g9.lt
  go_wp2_with fail
  clear c_g0 l_g0
  clear c_g1 l_g1
  clear c_g2 l_g2
  clear c_g9 l_g9
  refine (begins_is true HP.out.2.1 HR.out.2 HRM.out _ (HS1.out.1.mono bni) (HS1.out.2.mono bni) (HS9.out.1.mono bni) (HS9.out.2.mono bni)).mono ?_
  rintro e w9 ⟨rfl, hb⟩
  have hbb : Below w8.heap.size w8 w9 := bel_trans bni hb
  replace hB := bel_trans hB hbb
  replace g0 := g0.grow hbb
  replace g1 := g1.grow hbb
  replace g2 := g2.grow hbb
  replace g9 := g9.grow hbb
  replace HS0 := Lib.hid (And.intro (HS0.out.1.mono hbb) (HS0.out.2.mono hbb))
  replace HS1 := Lib.hid (And.intro (HS1.out.1.mono hbb) (HS1.out.2.mono hbb))
  replace HS2 := Lib.hid (And.intro (HS2.out.1.mono hbb) (HS2.out.2.mono hbb))
  replace HS9 := Lib.hid (And.intro (HS9.out.1.mono hbb) (HS9.out.2.mono hbb))
  clear hb hbb
  have c_g0 := g0.cell
  have l_g0 := g0.lt
  have c_g1 := g1.cell
  have l_g1 := g1.lt
  have c_g2 := g2.cell
  have l_g2 := g2.lt
  have c_g9 := g9.cell
  have l_g9 := g9.lt
  go_wp2_with fail
  clear c_g0 l_g0
  clear c_g1 l_g1
  clear c_g2 l_g2
  clear c_g9 l_g9
  refine (begins_is true HX1.out HR.out.1 HRK.out _ (HS0.out.1.mono bni) (HS0.out.2.mono bni) (HS2.out.1.mono bni) (HS2.out.2.mono bni)).mono ?_
  rintro e w10 ⟨rfl, hb⟩
  have hbb : Below w9.heap.size w9 w10 := bel_trans bni hb
  replace hB := bel_trans hB hbb
  replace g0 := g0.grow hbb
  replace g1 := g1.grow hbb
  replace g2 := g2.grow hbb
  replace g9 := g9.grow hbb
  replace HS0 := Lib.hid (And.intro (HS0.out.1.mono hbb) (HS0.out.2.mono hbb))
  replace HS1 := Lib.hid (And.intro (HS1.out.1.mono hbb) (HS1.out.2.mono hbb))
  replace HS2 := Lib.hid (And.intro (HS2.out.1.mono hbb) (HS2.out.2.mono hbb))
  replace HS9 := Lib.hid (And.intro (HS9.out.1.mono hbb) (HS9.out.2.mono hbb))
  clear hb hbb
  have c_g0 := g0.cell
  have l_g0 := g0.lt
  have c_g1 := g1.cell
  have l_g1 := g1.lt
  have c_g2 := g2.cell
  have l_g2 := g2.lt
  have c_g9 := g9.cell
  have l_g9 := g9.lt
  go_wp2_with fail
  clear c_g0 l_g0
  clear c_g1 l_g1
  clear c_g2 l_g2
  clear c_g9 l_g9
  refine (begins_is true HX2.out HR.out.2 HRK.out _ (HS1.out.1.mono bni) (HS1.out.2.mono bni) (HS2.out.1.mono bni) (HS2.out.2.mono bni)).mono ?_
  rintro e w11 ⟨rfl, hb⟩
  have hbb : Below w10.heap.size w10 w11 := bel_trans bni hb
  replace hB := bel_trans hB hbb
  replace g0 := g0.grow hbb
  replace g1 := g1.grow hbb
  replace g2 := g2.grow hbb
  replace g9 := g9.grow hbb
  replace HS0 := Lib.hid (And.intro (HS0.out.1.mono hbb) (HS0.out.2.mono hbb))
  replace HS1 := Lib.hid (And.intro (HS1.out.1.mono hbb) (HS1.out.2.mono hbb))
  replace HS2 := Lib.hid (And.intro (HS2.out.1.mono hbb) (HS2.out.2.mono hbb))
  replace HS9 := Lib.hid (And.intro (HS9.out.1.mono hbb) (HS9.out.2.mono hbb))
  clear hb hbb
  have c_g0 := g0.cell
  have l_g0 := g0.lt
  have c_g1 := g1.cell
  have l_g1 := g1.lt
  have c_g2 := g2.cell
  have l_g2 := g2.lt
  have c_g9 := g9.cell
  have l_g9 := g9.lt
  go_wp2_with fail
  clear c_g0 l_g0
  clear c_g1 l_g1
  clear c_g2 l_g2
  clear c_g9 l_g9
  refine (begins_is true (HP.out.2.2 HX1.out HX2.out) HRM.out HRK.out _ (HS9.out.1.mono bni) (HS9.out.2.mono bni) (HS2.out.1.mono bni) (HS2.out.2.mono bni)).mono ?_
  rintro e w12 ⟨rfl, hb⟩
  have hbb : Below w11.heap.size w11 w12 := bel_trans bni hb
  replace hB := bel_trans hB hbb
  replace g0 := g0.grow hbb
  replace g1 := g1.grow hbb
  replace g2 := g2.grow hbb
  replace g9 := g9.grow hbb
  replace HS0 := Lib.hid (And.intro (HS0.out.1.mono hbb) (HS0.out.2.mono hbb))
  replace HS1 := Lib.hid (And.intro (HS1.out.1.mono hbb) (HS1.out.2.mono hbb))
  replace HS2 := Lib.hid (And.intro (HS2.out.1.mono hbb) (HS2.out.2.mono hbb))
  replace HS9 := Lib.hid (And.intro (HS9.out.1.mono hbb) (HS9.out.2.mono hbb))
  clear hb hbb
  have c_g0 := g0.cell
  have l_g0 := g0.lt
  have c_g1 := g1.cell
  have l_g1 := g1.lt
  have c_g2 := g2.cell
  have l_g2 := g2.lt
  have c_g9 := g9.cell
  have l_g9 := g9.lt
  go_wp2_with fail
  clear c_g0 l_g0
  clear c_g1 l_g1
  clear c_g2 l_g2
  clear c_g9 l_g9
  refine bodyPost_ret (v := .bool true) (by simp [results, Tryz.results12, go_sem]) rfl ⟨rfl, hB⟩
end Go.Proofs.YtccnkebkgegohaaGreatDoor
end
