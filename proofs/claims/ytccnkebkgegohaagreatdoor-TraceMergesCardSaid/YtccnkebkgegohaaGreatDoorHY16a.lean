import Derived.Test.YtccnkebkgegohaaGreatDoorHY3a
import Derived.Test.YtccnkebkgegohaaGreatDoorHY7
import Derived.Test.YtccnkebkgegohaaGreatDoorHY10
import Derived.Test.YtccnkebkgegohaaGreatDoorHY11
import Derived.Test.YtccnkebkgegohaaGreatDoorHY14
/-
  Given contracts of functions of the program, and laws for them, one behind the other.
-/
set_option linter.unusedVariables false
set_option linter.unusedSimpArgs false
set_option linter.unusedSectionVars false
section
namespace Go.Proofs.YtccnkebkgegohaaGreatDoor
open Go.RowKit Go.Rel
set_option maxRecDepth 100000
set_option maxHeartbeats 8000000 in
theorem TraceMerges_main_a (b : Sol) (p0 p1 p2 q0 q1 q2 : Option Addr) (n0 n1 n2 c0 c1 c2 k0 k1 k2 d0 d1 d2 : Nat) (w : World) (hm : (many k0 n0 || (many k1 n1 || many k2 n2)) = false) (H25 : Hid (∀ w', Below w.heap.size w w' → Calls Tryz.prog 25 #[.agg #[.int .u64 (pl b 0), .int .u64 (pl b 1), .int .u64 (pl b 2), .int .u64 (pl b 3), .int .u64 (pl b 4), .int .u64 (pl b 5), .int .u64 (pl b 6), .int .u64 (pl b 7), .slice p0 n0 c0], .agg #[.int .u64 (pl b 0), .int .u64 (pl b 1), .int .u64 (pl b 2), .int .u64 (pl b 3), .int .u64 (pl b 4), .int .u64 (pl b 5), .int .u64 (pl b 6), .int .u64 (pl b 7), .slice p1 n1 c1]] w' fun e w'' => e = .returned (.bool true) ∧ Below w'.heap.size w' w'')) (H25b : Hid (∀ w', Below w.heap.size w w' → Calls Tryz.prog 25 #[.agg #[.int .u64 (pl b 0), .int .u64 (pl b 1), .int .u64 (pl b 2), .int .u64 (pl b 3), .int .u64 (pl b 4), .int .u64 (pl b 5), .int .u64 (pl b 6), .int .u64 (pl b 7), .slice p0 n0 c0], .agg #[.int .u64 (pl b 0), .int .u64 (pl b 1), .int .u64 (pl b 2), .int .u64 (pl b 3), .int .u64 (pl b 4), .int .u64 (pl b 5), .int .u64 (pl b 6), .int .u64 (pl b 7), .slice p2 n2 c2]] w' fun e w'' => e = .returned (.bool true) ∧ Below w'.heap.size w' w'')) {l : List Sol} {g h k : List Ac} {s t u : StB} (HR : Hid (Runs b l g s ∧ Runs b l h t)) (HS0 : Hid (SlS w (.slice p0 n0 c0) l ∧ SlA w (.slice q0 k0 d0) g)) (HS1 : Hid (SlS w (.slice p1 n1 c1) l ∧ SlA w (.slice q1 k1 d1) h)) (HS2 : Hid (SlS w (.slice p2 n2 c2) l ∧ SlA w (.slice q2 k2 d2) k)) (HRK : Hid (Runs b l k u)) (hF : Hid (Free2 l g h)) (hlen : g.length + h.length ≤ 60) (hlen2 : h.length + g.length ≤ 60) {v : StB} (HRM : Hid (Runs b l (nrm l (joinA l g h)) v)) (hA : Hid (Free2 l (nrm l (joinA l g h)) k ∧ (nrm l (joinA l g h)).length + k.length ≤ 60)) (hB2 : Hid (Free2 l h k ∧ h.length + k.length ≤ 60)) (hC : Hid (Free2 l g (nrm l (joinA l h k)) ∧ g.length + (nrm l (joinA l h k)).length ≤ 60)) {y : StB} (HRC : Hid (Runs b l (nrm l (joinA l h k)) y)) (hlen3 : (nrm l (joinA l g h)).length + g.length ≤ 60) {x : StB} (HRX : Hid (Runs b l (nrm l (beyA l g h).1) x)) (HW : Hid (v.1 = x.1 ^^^ (s.1 ^^^ x.1) ^^^ (t.1 ^^^ x.1))) (H27 : Hid (∀ w', Below w.heap.size w w' → Calls Tryz.prog 27 #[.agg #[.int .u64 (pl b 0), .int .u64 (pl b 1), .int .u64 (pl b 2), .int .u64 (pl b 3), .int .u64 (pl b 4), .int .u64 (pl b 5), .int .u64 (pl b 6), .int .u64 (pl b 7), .slice p2 n2 c2, .slice q2 k2 d2]] w' fun e w'' => e = .returned (.tuple #[.int .i64 0, .int .i64 0]) ∧ Below w'.heap.size w' w'')) (HAL : AliveH w) :
    Calls Tryz.prog 4 #[.agg #[.int .u64 (pl b 0), .int .u64 (pl b 1), .int .u64 (pl b 2), .int .u64 (pl b 3), .int .u64 (pl b 4), .int .u64 (pl b 5), .int .u64 (pl b 6), .int .u64 (pl b 7), .slice p0 n0 c0, .slice q0 k0 d0], .agg #[.int .u64 (pl b 0), .int .u64 (pl b 1), .int .u64 (pl b 2), .int .u64 (pl b 3), .int .u64 (pl b 4), .int .u64 (pl b 5), .int .u64 (pl b 6), .int .u64 (pl b 7), .slice p1 n1 c1, .slice q1 k1 d1], .agg #[.int .u64 (pl b 0), .int .u64 (pl b 1), .int .u64 (pl b 2), .int .u64 (pl b 3), .int .u64 (pl b 4), .int .u64 (pl b 5), .int .u64 (pl b 6), .int .u64 (pl b 7), .slice p2 n2 c2, .slice q2 k2 d2]] w fun e w' => e = .returned (.bool true) ∧ Below w.heap.size w w' := by
  go_enter Tryz.func4, Tryz.ntmps4
  go_wp2_with fail
  refine (few3 (b := b) (p := p0) (q := q0) (n := n0) (c := c0) (k := k0) (d := d0) (b' := b) (p' := p1) (q' := q1) (n' := n1) (c' := c1) (k' := k1) (d' := d1) (b2 := b) (p2 := p2) (q2 := q2) (n2 := n2) (c2 := c2) (k2 := k2) (d2 := d2) (t := 30) _ (by repeat (first | (refine Blk.at _ _ ?_; (simp; done)) | refine Blk.alloc ?_ _ | refine Blk.drew ?_))).mono ?_
  rw [hm]
  rintro e w1 ⟨rfl, hb⟩
  have g0 : Blk w1 (w.heap.size) #[.int .u64 (pl b 0), .int .u64 (pl b 1), .int .u64 (pl b 2), .int .u64 (pl b 3), .int .u64 (pl b 4), .int .u64 (pl b 5), .int .u64 (pl b 6), .int .u64 (pl b 7), .slice p0 n0 c0, .slice q0 k0 d0] 30 := Blk.grow (by repeat (first | (refine Blk.at _ _ ?_; (simp; done)) | refine Blk.alloc ?_ _ | refine Blk.drew ?_)) hb
  have g1 : Blk w1 (w.heap.size + 1) #[.int .u64 (pl b 0), .int .u64 (pl b 1), .int .u64 (pl b 2), .int .u64 (pl b 3), .int .u64 (pl b 4), .int .u64 (pl b 5), .int .u64 (pl b 6), .int .u64 (pl b 7), .slice p1 n1 c1, .slice q1 k1 d1] 30 := Blk.grow (by repeat (first | (refine Blk.at _ _ ?_; (simp; done)) | refine Blk.alloc ?_ _ | refine Blk.drew ?_)) hb
  have g2 : Blk w1 (w.heap.size + 1 + 1) #[.int .u64 (pl b 0), .int .u64 (pl b 1), .int .u64 (pl b 2), .int .u64 (pl b 3), .int .u64 (pl b 4), .int .u64 (pl b 5), .int .u64 (pl b 6), .int .u64 (pl b 7), .slice p2 n2 c2, .slice q2 k2 d2] 30 := Blk.grow (by repeat (first | (refine Blk.at _ _ ?_; (simp; done)) | refine Blk.alloc ?_ _ | refine Blk.drew ?_)) hb
  have hB : Below w.heap.size w w1 := bel_trans bni hb
  replace HS0 := Lib.hid (And.intro (HS0.out.1.mono hB) (HS0.out.2.mono hB))
  replace HS1 := Lib.hid (And.intro (HS1.out.1.mono hB) (HS1.out.2.mono hB))
  replace HS2 := Lib.hid (And.intro (HS2.out.1.mono hB) (HS2.out.2.mono hB))
  clear hb
  have c_g0 := g0.cell
  have l_g0 := g0.lt
  have c_g1 := g1.cell
  have l_g1 := g1.lt
  have c_g2 := g2.cell
  have l_g2 := g2.lt
  go_wp2_with fail
  clear c_g0 l_g0
  clear c_g1 l_g1
  clear c_g2 l_g2
  refine (H25.out _ (bel_trans hB bni)).mono ?_
  rintro e w2 ⟨rfl, hb⟩
  have hbb : Below w1.heap.size w1 w2 := bel_trans bni hb
  replace hB := bel_trans hB hbb
  replace g0 := g0.grow hbb
  replace g1 := g1.grow hbb
  replace g2 := g2.grow hbb
  replace HS0 := Lib.hid (And.intro (HS0.out.1.mono hbb) (HS0.out.2.mono hbb))
  replace HS1 := Lib.hid (And.intro (HS1.out.1.mono hbb) (HS1.out.2.mono hbb))
  replace HS2 := Lib.hid (And.intro (HS2.out.1.mono hbb) (HS2.out.2.mono hbb))
  clear hb hbb
  have c_g0 := g0.cell
  have l_g0 := g0.lt
  have c_g1 := g1.cell
  have l_g1 := g1.lt
  have c_g2 := g2.cell
  have l_g2 := g2.lt
  go_wp2_with fail
  clear c_g0 l_g0
  clear c_g1 l_g1
  clear c_g2 l_g2
  refine (H25b.out _ (bel_trans hB bni)).mono ?_
  rintro e w3 ⟨rfl, hb⟩
  have hbb : Below w2.heap.size w2 w3 := bel_trans bni hb
  replace hB := bel_trans hB hbb
  replace g0 := g0.grow hbb
  replace g1 := g1.grow hbb
  replace g2 := g2.grow hbb
  replace HS0 := Lib.hid (And.intro (HS0.out.1.mono hbb) (HS0.out.2.mono hbb))
  replace HS1 := Lib.hid (And.intro (HS1.out.1.mono hbb) (HS1.out.2.mono hbb))
  replace HS2 := Lib.hid (And.intro (HS2.out.1.mono hbb) (HS2.out.2.mono hbb))
  clear hb hbb
  have c_g0 := g0.cell
  have l_g0 := g0.lt
  have c_g1 := g1.cell
  have l_g1 := g1.lt
  have c_g2 := g2.cell
  have l_g2 := g2.lt
  go_wp2_with fail
  clear c_g0 l_g0
  clear c_g1 l_g1
  clear c_g2 l_g2
  refine (Merge_j HR.out.1 HR.out.2 hF.out hlen _ (HS0.out.1.mono bni) (HS0.out.2.mono bni) (HS1.out.1.mono bni) (HS1.out.2.mono bni)).mono ?_
  rintro e w4 ⟨p7, n7, c7, q7, k7, d7, rfl, S7, A7, hb⟩
  have hbb : Below w3.heap.size w3 w4 := bel_trans bni hb
  replace hB := bel_trans hB hbb
  replace g0 := g0.grow hbb
  replace g1 := g1.grow hbb
  replace g2 := g2.grow hbb
  replace HS0 := Lib.hid (And.intro (HS0.out.1.mono hbb) (HS0.out.2.mono hbb))
  replace HS1 := Lib.hid (And.intro (HS1.out.1.mono hbb) (HS1.out.2.mono hbb))
  replace HS2 := Lib.hid (And.intro (HS2.out.1.mono hbb) (HS2.out.2.mono hbb))
  clear hb hbb
  have HS7 := Lib.hid (And.intro S7 A7)
  clear S7 A7
  have c_g0 := g0.cell
  have l_g0 := g0.lt
  have c_g1 := g1.cell
  have l_g1 := g1.lt
  have c_g2 := g2.cell
  have l_g2 := g2.lt
  go_wp2_with fail
  clear c_g0 l_g0
  clear c_g1 l_g1
  clear c_g2 l_g2
  refine (Merge_j HR.out.2 HR.out.1 (free2_symm hF.out) hlen2 _ (HS1.out.1.mono bni) (HS1.out.2.mono bni) (HS0.out.1.mono bni) (HS0.out.2.mono bni)).mono ?_
  rintro e w5 ⟨p9, n9, c9, q9, k9, d9, rfl, S9, A9, hb⟩
  have g7 : Blk w5 (w4.heap.size) #[.int .u64 (pl b 0), .int .u64 (pl b 1), .int .u64 (pl b 2), .int .u64 (pl b 3), .int .u64 (pl b 4), .int .u64 (pl b 5), .int .u64 (pl b 6), .int .u64 (pl b 7), .slice p7 n7 c7, .slice q7 k7 d7] 30 := Blk.grow (by repeat (first | (refine Blk.at _ _ ?_; (simp; done)) | refine Blk.alloc ?_ _ | refine Blk.drew ?_)) hb
  have hbb : Below w4.heap.size w4 w5 := bel_trans bni hb
  replace hB := bel_trans hB hbb
  replace g0 := g0.grow hbb
  replace g1 := g1.grow hbb
  replace g2 := g2.grow hbb
  replace HS0 := Lib.hid (And.intro (HS0.out.1.mono hbb) (HS0.out.2.mono hbb))
  replace HS1 := Lib.hid (And.intro (HS1.out.1.mono hbb) (HS1.out.2.mono hbb))
  replace HS2 := Lib.hid (And.intro (HS2.out.1.mono hbb) (HS2.out.2.mono hbb))
  replace HS7 := Lib.hid (And.intro (HS7.out.1.mono hbb) (HS7.out.2.mono hbb))
  clear hb hbb
  generalize w4.heap.size = B5 at *
  have HS9 := Lib.hid (And.intro S9 A9)
  clear S9 A9
  have c_g0 := g0.cell
  have l_g0 := g0.lt
  have c_g1 := g1.cell
  have l_g1 := g1.lt
  have c_g2 := g2.cell
  have l_g2 := g2.lt
  have c_g7 := g7.cell
  have l_g7 := g7.lt
  rw [join_symm hF.out] at HS9
  go_wp2_with fail
  clear c_g0 l_g0
  clear c_g1 l_g1
  clear c_g2 l_g2
  clear c_g7 l_g7
  refine (H27.out _ (bel_trans hB bni)).mono ?_
  rintro e w6 ⟨rfl, hb⟩
  have g9 : Blk w6 (w5.heap.size) #[.int .u64 (pl b 0), .int .u64 (pl b 1), .int .u64 (pl b 2), .int .u64 (pl b 3), .int .u64 (pl b 4), .int .u64 (pl b 5), .int .u64 (pl b 6), .int .u64 (pl b 7), .slice p9 n9 c9, .slice q9 k9 d9] 30 := Blk.grow (by repeat (first | (refine Blk.at _ _ ?_; (simp; done)) | refine Blk.alloc ?_ _ | refine Blk.drew ?_)) hb
  have hbb : Below w5.heap.size w5 w6 := bel_trans bni hb
  replace hB := bel_trans hB hbb
  replace g0 := g0.grow hbb
  replace g1 := g1.grow hbb
  replace g2 := g2.grow hbb
  replace g7 := g7.grow hbb
  replace HS0 := Lib.hid (And.intro (HS0.out.1.mono hbb) (HS0.out.2.mono hbb))
  replace HS1 := Lib.hid (And.intro (HS1.out.1.mono hbb) (HS1.out.2.mono hbb))
  replace HS2 := Lib.hid (And.intro (HS2.out.1.mono hbb) (HS2.out.2.mono hbb))
  replace HS7 := Lib.hid (And.intro (HS7.out.1.mono hbb) (HS7.out.2.mono hbb))
  replace HS9 := Lib.hid (And.intro (HS9.out.1.mono hbb) (HS9.out.2.mono hbb))
  clear hb hbb
  generalize w5.heap.size = B6 at *
  have c_g0 := g0.cell
  have l_g0 := g0.lt
  have c_g1 := g1.cell
  have l_g1 := g1.lt
  have c_g2 := g2.cell
  have l_g2 := g2.lt
  have c_g7 := g7.cell
  have l_g7 := g7.lt
  have c_g9 := g9.cell
  have l_g9 := g9.lt
  go_wp2_with fail
  clear c_g0 l_g0
  clear c_g1 l_g1
  clear c_g2 l_g2
  clear c_g7 l_g7
  clear c_g9 l_g9
  refine (Same_eq _ (HS7.out.1.mono bni) (HS7.out.2.mono bni) (HS9.out.1.mono bni) (HS9.out.2.mono bni)).mono ?_
  rintro e w7 ⟨rfl, hb⟩
  have hbb : Below w6.heap.size w6 w7 := bel_trans bni hb
  replace hB := bel_trans hB hbb
  replace g0 := g0.grow hbb
  replace g1 := g1.grow hbb
  replace g2 := g2.grow hbb
  replace g7 := g7.grow hbb
  replace g9 := g9.grow hbb
  replace HS0 := Lib.hid (And.intro (HS0.out.1.mono hbb) (HS0.out.2.mono hbb))
  replace HS1 := Lib.hid (And.intro (HS1.out.1.mono hbb) (HS1.out.2.mono hbb))
  replace HS2 := Lib.hid (And.intro (HS2.out.1.mono hbb) (HS2.out.2.mono hbb))
  replace HS7 := Lib.hid (And.intro (HS7.out.1.mono hbb) (HS7.out.2.mono hbb))
  replace HS9 := Lib.hid (And.intro (HS9.out.1.mono hbb) (HS9.out.2.mono hbb))
  clear hb hbb
  clear HS9
  clear g9
  have c_g0 := g0.cell
  have l_g0 := g0.lt
  have c_g1 := g1.cell
  have l_g1 := g1.lt
  have c_g2 := g2.cell
  have l_g2 := g2.lt
  have c_g7 := g7.cell
  have l_g7 := g7.lt
  go_wp2_with fail
  clear c_g0 l_g0
  clear c_g1 l_g1
  clear c_g2 l_g2
  clear c_g7 l_g7
  refine (Merge_j HRM.out HRK.out hA.out.1 hA.out.2 _ (HS7.out.1.mono bni) (HS7.out.2.mono bni) (HS2.out.1.mono bni) (HS2.out.2.mono bni)).mono ?_
  rintro e w8 ⟨p13, n13, c13, q13, k13, d13, rfl, S13, A13, hb⟩
  have hbb : Below w7.heap.size w7 w8 := bel_trans bni hb
  replace hB := bel_trans hB hbb
  replace g0 := g0.grow hbb
  replace g1 := g1.grow hbb
  replace g2 := g2.grow hbb
  replace g7 := g7.grow hbb
  replace HS0 := Lib.hid (And.intro (HS0.out.1.mono hbb) (HS0.out.2.mono hbb))
  replace HS1 := Lib.hid (And.intro (HS1.out.1.mono hbb) (HS1.out.2.mono hbb))
  replace HS2 := Lib.hid (And.intro (HS2.out.1.mono hbb) (HS2.out.2.mono hbb))
  replace HS7 := Lib.hid (And.intro (HS7.out.1.mono hbb) (HS7.out.2.mono hbb))
  clear hb hbb
  have HS13 := Lib.hid (And.intro S13 A13)
  clear S13 A13
  have c_g0 := g0.cell
  have l_g0 := g0.lt
  have c_g1 := g1.cell
  have l_g1 := g1.lt
  have c_g2 := g2.cell
  have l_g2 := g2.lt
  have c_g7 := g7.cell
  have l_g7 := g7.lt
  go_wp2_with fail
  clear c_g0 l_g0
  clear c_g1 l_g1
  clear c_g2 l_g2
  clear c_g7 l_g7
  refine (Merge_j HR.out.2 HRK.out hB2.out.1 hB2.out.2 _ (HS1.out.1.mono bni) (HS1.out.2.mono bni) (HS2.out.1.mono bni) (HS2.out.2.mono bni)).mono ?_
  rintro e w9 ⟨p15, n15, c15, q15, k15, d15, rfl, S15, A15, hb⟩
  have g13 : Blk w9 (w8.heap.size) #[.int .u64 (pl b 0), .int .u64 (pl b 1), .int .u64 (pl b 2), .int .u64 (pl b 3), .int .u64 (pl b 4), .int .u64 (pl b 5), .int .u64 (pl b 6), .int .u64 (pl b 7), .slice p13 n13 c13, .slice q13 k13 d13] 30 := Blk.grow (by repeat (first | (refine Blk.at _ _ ?_; (simp; done)) | refine Blk.alloc ?_ _ | refine Blk.drew ?_)) hb
  have hbb : Below w8.heap.size w8 w9 := bel_trans bni hb
  replace hB := bel_trans hB hbb
  replace g0 := g0.grow hbb
  replace g1 := g1.grow hbb
  replace g2 := g2.grow hbb
  replace g7 := g7.grow hbb
  replace HS0 := Lib.hid (And.intro (HS0.out.1.mono hbb) (HS0.out.2.mono hbb))
  replace HS1 := Lib.hid (And.intro (HS1.out.1.mono hbb) (HS1.out.2.mono hbb))
  replace HS2 := Lib.hid (And.intro (HS2.out.1.mono hbb) (HS2.out.2.mono hbb))
  replace HS7 := Lib.hid (And.intro (HS7.out.1.mono hbb) (HS7.out.2.mono hbb))
  replace HS13 := Lib.hid (And.intro (HS13.out.1.mono hbb) (HS13.out.2.mono hbb))
  clear hb hbb
  generalize w8.heap.size = B9 at *
  have HS15 := Lib.hid (And.intro S15 A15)
  clear S15 A15
  have c_g0 := g0.cell
  have l_g0 := g0.lt
  have c_g1 := g1.cell
  have l_g1 := g1.lt
  have c_g2 := g2.cell
  have l_g2 := g2.lt
  have c_g7 := g7.cell
  have l_g7 := g7.lt
  have c_g13 := g13.cell
  have l_g13 := g13.lt
  have gX0 := g0
  have gX1 := g1
  have gX7 := g7
  have HX0 := HS0
  have HX1 := HS1
  have HX7 := HS7
  have hBX := hB.size
  go_wp2_with fail
  clear c_g0 l_g0
  clear c_g1 l_g1
  clear c_g2 l_g2
  clear c_g7 l_g7
  clear c_g13 l_g13
  refine (Merge_j HR.out.1 HRC.out hC.out.1 hC.out.2 _ (HS0.out.1.mono bni) (HS0.out.2.mono bni) (HS15.out.1.mono bni) (HS15.out.2.mono bni)).mono ?_
  rintro e w10 ⟨p17, n17, c17, q17, k17, d17, rfl, S17, A17, hb⟩
  have g15 : Blk w10 (w9.heap.size) #[.int .u64 (pl b 0), .int .u64 (pl b 1), .int .u64 (pl b 2), .int .u64 (pl b 3), .int .u64 (pl b 4), .int .u64 (pl b 5), .int .u64 (pl b 6), .int .u64 (pl b 7), .slice p15 n15 c15, .slice q15 k15 d15] 30 := Blk.grow (by repeat (first | (refine Blk.at _ _ ?_; (simp; done)) | refine Blk.alloc ?_ _ | refine Blk.drew ?_)) hb
  have hbb : Below w9.heap.size w9 w10 := bel_trans bni hb
  replace hB := bel_trans hB hbb
  replace g0 := g0.grow hbb
  replace g1 := g1.grow hbb
  replace g2 := g2.grow hbb
  replace g7 := g7.grow hbb
  replace g13 := g13.grow hbb
  replace HS0 := Lib.hid (And.intro (HS0.out.1.mono hbb) (HS0.out.2.mono hbb))
  replace HS1 := Lib.hid (And.intro (HS1.out.1.mono hbb) (HS1.out.2.mono hbb))
  replace HS2 := Lib.hid (And.intro (HS2.out.1.mono hbb) (HS2.out.2.mono hbb))
  replace HS7 := Lib.hid (And.intro (HS7.out.1.mono hbb) (HS7.out.2.mono hbb))
  replace HS13 := Lib.hid (And.intro (HS13.out.1.mono hbb) (HS13.out.2.mono hbb))
  replace HS15 := Lib.hid (And.intro (HS15.out.1.mono hbb) (HS15.out.2.mono hbb))
  have hXB := hbb
  clear hb hbb
  have HS17 := Lib.hid (And.intro S17 A17)
  clear S17 A17
  have c_g0 := g0.cell
  have l_g0 := g0.lt
  have c_g1 := g1.cell
  have l_g1 := g1.lt
  have c_g2 := g2.cell
  have l_g2 := g2.lt
  have c_g7 := g7.cell
  have l_g7 := g7.lt
  have c_g13 := g13.cell
  have l_g13 := g13.lt
  have c_g15 := g15.cell
  have l_g15 := g15.lt
  rw [assoc_same hF.out hA.out.1 hB2.out.1 hC.out.1] at HS17
  go_wp2_with fail
  clear c_g0 l_g0
  clear c_g1 l_g1
  clear c_g2 l_g2
  clear c_g7 l_g7
  clear c_g13 l_g13
  clear c_g15 l_g15
  refine (same28 b _ _ _ _ _ _ _ _ _ _ _ _ _ _ _ (HS13.out.1.mono bni) (HS13.out.2.mono bni) (HS17.out.1.mono bni) (HS17.out.2.mono bni)).mono ?_
  rintro e w11 ⟨rfl, hb⟩
  have g17 : Blk w11 (w10.heap.size) #[.int .u64 (pl b 0), .int .u64 (pl b 1), .int .u64 (pl b 2), .int .u64 (pl b 3), .int .u64 (pl b 4), .int .u64 (pl b 5), .int .u64 (pl b 6), .int .u64 (pl b 7), .slice p17 n17 c17, .slice q17 k17 d17] 30 := Blk.grow (by repeat (first | (refine Blk.at _ _ ?_; (simp; done)) | refine Blk.alloc ?_ _ | refine Blk.drew ?_)) hb
  have hbb : Below w10.heap.size w10 w11 := bel_trans bni hb
  replace hB := bel_trans hB hbb
  replace g0 := g0.grow hbb
  replace g1 := g1.grow hbb
  replace g2 := g2.grow hbb
  replace g7 := g7.grow hbb
  replace g13 := g13.grow hbb
  replace g15 := g15.grow hbb
  replace HS0 := Lib.hid (And.intro (HS0.out.1.mono hbb) (HS0.out.2.mono hbb))
  replace HS1 := Lib.hid (And.intro (HS1.out.1.mono hbb) (HS1.out.2.mono hbb))
  replace HS2 := Lib.hid (And.intro (HS2.out.1.mono hbb) (HS2.out.2.mono hbb))
  replace HS7 := Lib.hid (And.intro (HS7.out.1.mono hbb) (HS7.out.2.mono hbb))
  replace HS13 := Lib.hid (And.intro (HS13.out.1.mono hbb) (HS13.out.2.mono hbb))
  replace HS15 := Lib.hid (And.intro (HS15.out.1.mono hbb) (HS15.out.2.mono hbb))
  replace HS17 := Lib.hid (And.intro (HS17.out.1.mono hbb) (HS17.out.2.mono hbb))
  replace hXB := bel_trans hXB hbb
  clear hb hbb
  generalize w10.heap.size = B11 at *
  clear HS13
  clear HS17
  clear HS15
  have c_g0 := g0.cell
  have l_g0 := g0.lt
  have c_g1 := g1.cell
  have l_g1 := g1.lt
  have c_g2 := g2.cell
  have l_g2 := g2.lt
  have c_g7 := g7.cell
  have l_g7 := g7.lt
  have c_g13 := g13.cell
  have l_g13 := g13.lt
  have c_g15 := g15.cell
  have l_g15 := g15.lt
  have c_g17 := g17.cell
  have l_g17 := g17.lt
  clear c_g0 l_g0
  clear c_g1 l_g1
  clear c_g2 l_g2
  clear c_g7 l_g7
  clear c_g13 l_g13
  clear c_g15 l_g15
  clear c_g17 l_g17
  clear g17 g13
  have c_g0 := g0.cell
  have l_g0 := g0.lt
  have c_g1 := g1.cell
  have l_g1 := g1.lt
  have c_g2 := g2.cell
  have l_g2 := g2.lt
  have c_g7 := g7.cell
  have l_g7 := g7.lt
  have c_g15 := g15.cell
  have l_g15 := g15.lt
  go_wp2_with fail
  clear c_g0 l_g0
  clear c_g1 l_g1
  clear c_g2 l_g2
  clear c_g7 l_g7
  clear c_g15 l_g15
  refine (Merge_j HRM.out HR.out.1 (again_free hF.out) hlen3 _ (HS7.out.1.mono bni) (HS7.out.2.mono bni) (HS0.out.1.mono bni) (HS0.out.2.mono bni)).mono ?_
  rintro e w12 ⟨p19, n19, c19, q19, k19, d19, rfl, S19, A19, hb⟩
  have hbb : Below w11.heap.size w11 w12 := bel_trans bni hb
  replace hB := bel_trans hB hbb
  replace g0 := g0.grow hbb
  replace g1 := g1.grow hbb
  replace g2 := g2.grow hbb
  replace g7 := g7.grow hbb
  replace g15 := g15.grow hbb
  replace HS0 := Lib.hid (And.intro (HS0.out.1.mono hbb) (HS0.out.2.mono hbb))
  replace HS1 := Lib.hid (And.intro (HS1.out.1.mono hbb) (HS1.out.2.mono hbb))
  replace HS2 := Lib.hid (And.intro (HS2.out.1.mono hbb) (HS2.out.2.mono hbb))
  replace HS7 := Lib.hid (And.intro (HS7.out.1.mono hbb) (HS7.out.2.mono hbb))
  replace hXB := bel_trans hXB hbb
  clear hb hbb
  have HS19 := Lib.hid (And.intro S19 A19)
  clear S19 A19
  have c_g0 := g0.cell
  have l_g0 := g0.lt
  have c_g1 := g1.cell
  have l_g1 := g1.lt
  have c_g2 := g2.cell
  have l_g2 := g2.lt
  have c_g7 := g7.cell
  have l_g7 := g7.lt
  have c_g15 := g15.cell
  have l_g15 := g15.lt
  rw [again_same hF.out] at HS19
  go_wp2_with fail
  clear c_g0 l_g0
  clear c_g1 l_g1
  clear c_g2 l_g2
  clear c_g7 l_g7
  clear c_g15 l_g15
  refine (Same_eq _ (HS19.out.1.mono bni) (HS19.out.2.mono bni) (HS7.out.1.mono bni) (HS7.out.2.mono bni)).mono ?_
  rintro e w13 ⟨rfl, hb⟩
  have hbb : Below w12.heap.size w12 w13 := bel_trans bni hb
  replace hB := bel_trans hB hbb
  replace g0 := g0.grow hbb
  replace g1 := g1.grow hbb
  replace g2 := g2.grow hbb
  replace g7 := g7.grow hbb
  replace g15 := g15.grow hbb
  replace HS0 := Lib.hid (And.intro (HS0.out.1.mono hbb) (HS0.out.2.mono hbb))
  replace HS1 := Lib.hid (And.intro (HS1.out.1.mono hbb) (HS1.out.2.mono hbb))
  replace HS2 := Lib.hid (And.intro (HS2.out.1.mono hbb) (HS2.out.2.mono hbb))
  replace HS7 := Lib.hid (And.intro (HS7.out.1.mono hbb) (HS7.out.2.mono hbb))
  replace HS19 := Lib.hid (And.intro (HS19.out.1.mono hbb) (HS19.out.2.mono hbb))
  replace hXB := bel_trans hXB hbb
  clear hb hbb
  clear HS19
  clear HS2
  have c_g0 := g0.cell
  have l_g0 := g0.lt
  have c_g1 := g1.cell
  have l_g1 := g1.lt
  have c_g2 := g2.cell
  have l_g2 := g2.lt
  have c_g7 := g7.cell
  have l_g7 := g7.lt
  have c_g15 := g15.cell
  have l_g15 := g15.lt
  go_wp2_with fail
  clear c_g0 l_g0
  clear c_g1 l_g1
  clear c_g2 l_g2
  clear c_g7 l_g7
  clear c_g15 l_g15
  have hlt := g15.lt
  refine (Common_o HR.out.1 HR.out.2 _ (HS0.out.1.mono bni) (HS0.out.2.mono bni) (HS1.out.1.mono bni) (HS1.out.2.mono bni)).mono ?_
  rintro e w14 ⟨p25, n25, c25, q25, k25, d25, rfl, S25, A25, hb⟩
  have hbb : Below w13.heap.size w13 w14 := bel_trans bni hb
  replace hB := bel_trans hB hbb
  replace hXB := bel_trans hXB hbb
  replace g15 := g15.grow hbb
  clear hb hbb g0 g1 g2 g7 HS0 HS1 HS7
  obtain ⟨wS, hwS⟩ : ∃ wS : World, wS = w14.setRow w9.heap.size (#[.int .u64 (pl b 0), .int .u64 (pl b 1), .int .u64 (pl b 2), .int .u64 (pl b 3), .int .u64 (pl b 4), .int .u64 (pl b 5), .int .u64 (pl b 6), .int .u64 (pl b 7), .slice p25 n25 c25, .slice q25 k25 d25] : Array Value) := ⟨_, rfl⟩
  have hXS : Below w9.heap.size w9 wS := by subst hwS; exact blw_row hXB (Nat.le_refl _) _
  replace hB : Below w.heap.size w wS := by subst hwS; exact blw_row hB hBX _
  have g15S : Blk wS w9.heap.size (#[.int .u64 (pl b 0), .int .u64 (pl b 1), .int .u64 (pl b 2), .int .u64 (pl b 3), .int .u64 (pl b 4), .int .u64 (pl b 5), .int .u64 (pl b 6), .int .u64 (pl b 7), .slice p25 n25 c25, .slice q25 k25 d25] : Array Value) 30 := by subst hwS; exact g15.rowS _
  have HS25 : Hid (SlS wS (.slice p25 n25 c25) l ∧ SlA wS (.slice q25 k25 d25) (nrm l (beyA l g h).1)) := Lib.hid (by subst hwS; exact ⟨OwnS.sl (own_row (bp := w9.heap.size) S25 hlt _), OwnA.sl (own_row (bp := w9.heap.size) A25 hlt _)⟩)
  have HWS := Lib.hid hwS
  clear S25 A25 hlt hwS
  have r15 := g15.row
  rw [← g15.rw]
  clear g15 hXB
  have g0 := gX0.grow hXS
  have g1 := gX1.grow hXS
  have g7 := gX7.grow hXS
  have HS0 := Lib.hid (And.intro (HX0.out.1.mono hXS) (HX0.out.2.mono hXS))
  have HS1 := Lib.hid (And.intro (HX1.out.1.mono hXS) (HX1.out.2.mono hXS))
  have HS7 := Lib.hid (And.intro (HX7.out.1.mono hXS) (HX7.out.2.mono hXS))
  clear gX0 gX1 gX7 HX0 HX1 HX7 hBX hXS
  go_wp2_with fail
  rw [← HWS.out]
  clear r15 HWS g15S
  refine (Stand_r HRX.out _ HS25.out.1 HS25.out.2).mono ?_
  rintro e wT ⟨rfl, hb⟩
  replace hB := bel_trans hB hb
  replace g0 := g0.grow hb
  replace g1 := g1.grow hb
  replace g7 := g7.grow hb
  replace HS0 := Lib.hid (And.intro (HS0.out.1.mono hb) (HS0.out.2.mono hb))
  replace HS1 := Lib.hid (And.intro (HS1.out.1.mono hb) (HS1.out.2.mono hb))
  replace HS7 := Lib.hid (And.intro (HS7.out.1.mono hb) (HS7.out.2.mono hb))
  clear hb HS25
  have c_g0 := g0.cell
  have l_g0 := g0.lt
  have c_g1 := g1.cell
  have l_g1 := g1.lt
  have c_g7 := g7.cell
  have l_g7 := g7.lt
  go_wp2_with fail
  clear c_g0 l_g0
  clear c_g1 l_g1
  clear c_g7 l_g7
  refine (Stand_r HR.out.1 _ (HS0.out.1.mono bni) (HS0.out.2.mono bni)).mono ?_
  rintro e w15 ⟨rfl, hb⟩
  have g21 : Blk w15 (wT.heap.size) #[.int .u64 (pl x.1 0), .int .u64 (pl x.1 1), .int .u64 (pl x.1 2), .int .u64 (pl x.1 3), .int .u64 (pl x.1 4), .int .u64 (pl x.1 5), .int .u64 (pl x.1 6), .int .u64 (pl x.1 7), .int .u8 ((x.2.toNat : Nat) : Int)] 37 := Blk.grow (by repeat (first | (refine Blk.at _ _ ?_; (simp; done)) | refine Blk.alloc ?_ _ | refine Blk.drew ?_)) hb
  have hbb : Below wT.heap.size wT w15 := bel_trans bni hb
  replace hB := bel_trans hB hbb
  replace g0 := g0.grow hbb
  replace g1 := g1.grow hbb
  replace g7 := g7.grow hbb
  replace HS0 := Lib.hid (And.intro (HS0.out.1.mono hbb) (HS0.out.2.mono hbb))
  replace HS1 := Lib.hid (And.intro (HS1.out.1.mono hbb) (HS1.out.2.mono hbb))
  replace HS7 := Lib.hid (And.intro (HS7.out.1.mono hbb) (HS7.out.2.mono hbb))
  clear hb hbb
  generalize wT.heap.size = B15 at *
  have c_g0 := g0.cell
  have l_g0 := g0.lt
  have c_g1 := g1.cell
  have l_g1 := g1.lt
  have c_g7 := g7.cell
  have l_g7 := g7.lt
  have c_g21 := g21.cell
  have l_g21 := g21.lt
  go_wp2_with fail
  clear c_g0 l_g0
  clear c_g1 l_g1
  clear c_g7 l_g7
  clear c_g21 l_g21
  refine (Stand_r HR.out.2 _ (HS1.out.1.mono bni) (HS1.out.2.mono bni)).mono ?_
  rintro e w16 ⟨rfl, hb⟩
  have g23 : Blk w16 (w15.heap.size) #[.int .u64 (pl s.1 0), .int .u64 (pl s.1 1), .int .u64 (pl s.1 2), .int .u64 (pl s.1 3), .int .u64 (pl s.1 4), .int .u64 (pl s.1 5), .int .u64 (pl s.1 6), .int .u64 (pl s.1 7), .int .u8 ((s.2.toNat : Nat) : Int)] 37 := Blk.grow (by repeat (first | (refine Blk.at _ _ ?_; (simp; done)) | refine Blk.alloc ?_ _ | refine Blk.drew ?_)) hb
  have hbb : Below w15.heap.size w15 w16 := bel_trans bni hb
  replace hB := bel_trans hB hbb
  replace g0 := g0.grow hbb
  replace g1 := g1.grow hbb
  replace g7 := g7.grow hbb
  replace g21 := g21.grow hbb
  replace HS0 := Lib.hid (And.intro (HS0.out.1.mono hbb) (HS0.out.2.mono hbb))
  replace HS1 := Lib.hid (And.intro (HS1.out.1.mono hbb) (HS1.out.2.mono hbb))
  replace HS7 := Lib.hid (And.intro (HS7.out.1.mono hbb) (HS7.out.2.mono hbb))
  clear hb hbb
  generalize w15.heap.size = B16 at *
  have c_g0 := g0.cell
  have l_g0 := g0.lt
  have c_g1 := g1.cell
  have l_g1 := g1.lt
  have c_g7 := g7.cell
  have l_g7 := g7.lt
  have c_g21 := g21.cell
  have l_g21 := g21.lt
  have c_g23 := g23.cell
  have l_g23 := g23.lt
  go_wp2_with fail
  clear c_g0 l_g0
  clear c_g1 l_g1
  clear c_g7 l_g7
  clear c_g21 l_g21
  clear c_g23 l_g23
  refine (Stand_z HRM.out _ HW.out _ (HS7.out.1.mono bni) (HS7.out.2.mono bni)).mono ?_
  rintro e w17 ⟨rfl, hb⟩
  have g25 : Blk w17 (w16.heap.size) #[.int .u64 (pl t.1 0), .int .u64 (pl t.1 1), .int .u64 (pl t.1 2), .int .u64 (pl t.1 3), .int .u64 (pl t.1 4), .int .u64 (pl t.1 5), .int .u64 (pl t.1 6), .int .u64 (pl t.1 7), .int .u8 ((t.2.toNat : Nat) : Int)] 37 := Blk.grow (by repeat (first | (refine Blk.at _ _ ?_; (simp; done)) | refine Blk.alloc ?_ _ | refine Blk.drew ?_)) hb
  have hbb : Below w16.heap.size w16 w17 := bel_trans bni hb
  replace hB := bel_trans hB hbb
  replace g0 := g0.grow hbb
  replace g1 := g1.grow hbb
  replace g7 := g7.grow hbb
  replace g21 := g21.grow hbb
  replace g23 := g23.grow hbb
  replace HS0 := Lib.hid (And.intro (HS0.out.1.mono hbb) (HS0.out.2.mono hbb))
  replace HS1 := Lib.hid (And.intro (HS1.out.1.mono hbb) (HS1.out.2.mono hbb))
  replace HS7 := Lib.hid (And.intro (HS7.out.1.mono hbb) (HS7.out.2.mono hbb))
  clear hb hbb
  generalize w16.heap.size = B17 at *
  have c_g0 := g0.cell
  have l_g0 := g0.lt
  have c_g1 := g1.cell
  have l_g1 := g1.lt
  have c_g7 := g7.cell
  have l_g7 := g7.lt
  have c_g21 := g21.cell
  have l_g21 := g21.lt
  have c_g23 := g23.cell
  have l_g23 := g23.lt
  have c_g25 := g25.cell
  have l_g25 := g25.lt
  clear g0 g1 g7 HS0 HS1 HS7
  clear c_g0 l_g0 c_g1 l_g1 c_g7 l_g7
  go_wp2_with fail
  refine wp_loop_rounds 9 ?_
  rw [rounds_succ]
  go_wp2_with fail
  go_quiet (fail)
  go_wp2_with fail
  rw [rounds_succ]
  go_wp2_with fail
  go_quiet (fail)
  go_wp2_with fail
  rw [rounds_succ]
  go_wp2_with fail
  go_quiet (fail)
  go_wp2_with fail
  rw [rounds_succ]
  go_wp2_with fail
  go_quiet (fail)
  go_wp2_with fail
  rw [rounds_succ]
  go_wp2_with fail
  go_quiet (fail)
  go_wp2_with fail
  rw [rounds_succ]
  go_wp2_with fail
  go_quiet (fail)
  go_wp2_with fail
  rw [rounds_succ]
  go_wp2_with fail
  go_quiet (fail)
  go_wp2_with fail
  rw [rounds_succ]
  go_wp2_with fail
  go_quiet (fail)
  go_wp2_with fail
  rw [rounds_succ]
  go_wp2_with fail
  clear c_g21 l_g21
  clear c_g23 l_g23
  clear c_g25 l_g25
  refine (HAL.out _ (bel_trans hB bni)).mono ?_
  rintro e wZ ⟨rfl, hb⟩
  replace hB := bel_trans (bel_trans hB bni) hb
  clear hb
  go_wp2_with fail
  refine bodyPost_ret (v := .bool true) (by simp [results, Tryz.results4, go_sem]) rfl ⟨rfl, hB⟩
end Go.Proofs.YtccnkebkgegohaaGreatDoor
end
