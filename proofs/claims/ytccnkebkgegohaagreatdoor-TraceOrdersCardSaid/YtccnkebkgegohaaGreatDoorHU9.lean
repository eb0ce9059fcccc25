import Derived.Test.YtccnkebkgegohaaGreatDoorHU4
import Derived.Test.YtccnkebkgegohaaGreatDoorHU7
import Derived.Test.YtccnkebkgegohaaGreatDoorHU8
/-
  Given contracts of functions of the program, and laws for them, one behind the other.
-/
set_option linter.unusedVariables false
set_option linter.unusedSimpArgs false
set_option linter.unusedSectionVars false
section
namespace Go.Proofs.YtccnkebkgegohaaGreatDoor
open Go.RowKit Go.Rel
set_option maxRecDepth 100000
/-! the law of orders -/
/-- a returned list of numbers, and an error -/
def IRes (L : List Int) (E : Int) (w : World) (e : Ending) (w' : World) : Prop := ∃ u, e = .returned (.tuple #[u, .int .i64 E]) ∧ SlI w' u L ∧ SlI w' u L ∧ Below w.heap.size w w'
theorem ires_nil {E : Int} {w w' : World} (hb : Below w.heap.size w w') : IRes [] E w (.returned (.tuple #[.slice none 0 0, .int .i64 E])) w' := ⟨_, rfl, sl_niln w', sl_niln w', hb⟩
theorem EqInt_t {v u : Value} {l : List Int} (w : World) (hv : SlI w v l) (hu : SlI w u l) : Calls Tryz.prog 49 #[v, u] w fun e w' => e = .returned (.bool true) ∧ Below w.heap.size w w' := by
  have := EqualInt_spec v u l l w hv hu
  simpa using this
set_option maxHeartbeats 8000000 in
theorem TraceOrders_many (b : Sol) (p0 q0 : Option Addr) (n0 c0 k0 d0 : Nat) (i : Int) (w : World) (hm : many k0 n0 = true) (HAL : AliveH w) :
    Calls Tryz.prog 8 #[.agg #[.int .u64 (pl b 0), .int .u64 (pl b 1), .int .u64 (pl b 2), .int .u64 (pl b 3), .int .u64 (pl b 4), .int .u64 (pl b 5), .int .u64 (pl b 6), .int .u64 (pl b 7), .slice p0 n0 c0, .slice q0 k0 d0], .int .i64 i] w fun e w' => e = .returned (.bool true) ∧ Below w.heap.size w w' := by
  go_enter Tryz.func8, Tryz.ntmps8
  go_wp2_with fail
  refine (few1n (b := b) (p := p0) (q := q0) (n := n0) (c := c0) (k := k0) (d := d0) (t := 30) _ bks_by).mono ?_
  rw [hm]
  rintro e w1 ⟨rfl, hb⟩
  have g0 : Blk w1 (w.heap.size) #[.int .u64 (pl b 0), .int .u64 (pl b 1), .int .u64 (pl b 2), .int .u64 (pl b 3), .int .u64 (pl b 4), .int .u64 (pl b 5), .int .u64 (pl b 6), .int .u64 (pl b 7), .slice p0 n0 c0, .slice q0 k0 d0] 30 := Blk.grow bks_by hb
  have hB : Below w.heap.size w w1 := bel_trans bni hb
  clear hb
  have c_g0 := g0.cell
  have l_g0 := g0.lt
  go_wp2_with fail
  clear c_g0 l_g0
  refine (HAL.out _ (bel_trans hB bni)).mono ?_
  rintro e w2 ⟨rfl, hb⟩
  have hbb : Below w1.heap.size w1 w2 := bel_trans bni hb
  replace hB := bel_trans hB hbb
  replace g0 := g0.grow hbb
  clear hb hbb
  have c_g0 := g0.cell
  have l_g0 := g0.lt
  go_wp2_with fail
  clear c_g0 l_g0
  refine bodyPost_ret (v := .bool true) (by simp [results, Tryz.results8, go_sem]) rfl ⟨rfl, hB⟩
set_option maxHeartbeats 8000000 in
theorem TraceOrders_main (b : Sol) (p0 q0 : Option Addr) (n0 c0 k0 d0 : Nat) (i : Int) (w : World) (hm : many k0 n0 = false) (L1 L2 L3 : List Int) (E E3 E4 Z : Int) (H45 : Hid (∀ w', Below w.heap.size w w' → Calls Tryz.prog 45 #[.agg #[.int .u64 (pl b 0), .int .u64 (pl b 1), .int .u64 (pl b 2), .int .u64 (pl b 3), .int .u64 (pl b 4), .int .u64 (pl b 5), .int .u64 (pl b 6), .int .u64 (pl b 7), .slice p0 n0 c0, .slice q0 k0 d0]] w' (IRes L1 E w'))) (H46 : Hid (∀ w', Below w.heap.size w w' → Calls Tryz.prog 46 #[.agg #[.int .u64 (pl b 0), .int .u64 (pl b 1), .int .u64 (pl b 2), .int .u64 (pl b 3), .int .u64 (pl b 4), .int .u64 (pl b 5), .int .u64 (pl b 6), .int .u64 (pl b 7), .slice p0 n0 c0, .slice q0 k0 d0]] w' (IRes L1 E w'))) (H47 : Hid (∀ w', Below w.heap.size w w' → Calls Tryz.prog 47 #[.agg #[.int .u64 (pl b 0), .int .u64 (pl b 1), .int .u64 (pl b 2), .int .u64 (pl b 3), .int .u64 (pl b 4), .int .u64 (pl b 5), .int .u64 (pl b 6), .int .u64 (pl b 7), .slice p0 n0 c0, .slice q0 k0 d0]] w' (IRes L2 E w'))) (H48 : Hid (∀ w', Below w.heap.size w w' → Calls Tryz.prog 48 #[.agg #[.int .u64 (pl b 0), .int .u64 (pl b 1), .int .u64 (pl b 2), .int .u64 (pl b 3), .int .u64 (pl b 4), .int .u64 (pl b 5), .int .u64 (pl b 6), .int .u64 (pl b 7), .slice p0 n0 c0, .slice q0 k0 d0]] w' (IRes L2 E w'))) (H50 : Hid (∀ w', Below w.heap.size w w' → Calls Tryz.prog 50 #[.agg #[.int .u64 (pl b 0), .int .u64 (pl b 1), .int .u64 (pl b 2), .int .u64 (pl b 3), .int .u64 (pl b 4), .int .u64 (pl b 5), .int .u64 (pl b 6), .int .u64 (pl b 7), .slice p0 n0 c0, .slice q0 k0 d0], .int .i64 i] w' (IRes L3 E3 w'))) (H51 : Hid (∀ w', Below w.heap.size w w' → Calls Tryz.prog 51 #[.agg #[.int .u64 (pl b 0), .int .u64 (pl b 1), .int .u64 (pl b 2), .int .u64 (pl b 3), .int .u64 (pl b 4), .int .u64 (pl b 5), .int .u64 (pl b 6), .int .u64 (pl b 7), .slice p0 n0 c0, .slice q0 k0 d0], .int .i64 i] w' (IRes L3 E3 w'))) (H52 : Hid (∀ w', Below w.heap.size w w' → Calls Tryz.prog 52 #[.agg #[.int .u64 (pl b 0), .int .u64 (pl b 1), .int .u64 (pl b 2), .int .u64 (pl b 3), .int .u64 (pl b 4), .int .u64 (pl b 5), .int .u64 (pl b 6), .int .u64 (pl b 7), .slice p0 n0 c0, .slice q0 k0 d0]] w' fun e w'' => e = .returned (.tuple #[.int .i64 Z, .int .i64 E4]) ∧ Below w'.heap.size w' w'')) (H53 : Hid (∀ w', Below w.heap.size w w' → Calls Tryz.prog 53 #[.agg #[.int .u64 (pl b 0), .int .u64 (pl b 1), .int .u64 (pl b 2), .int .u64 (pl b 3), .int .u64 (pl b 4), .int .u64 (pl b 5), .int .u64 (pl b 6), .int .u64 (pl b 7), .slice p0 n0 c0, .slice q0 k0 d0]] w' fun e w'' => e = .returned (.tuple #[.int .i64 Z, .int .i64 E4]) ∧ Below w'.heap.size w' w'')) (HAL : AliveH w) :
    Calls Tryz.prog 8 #[.agg #[.int .u64 (pl b 0), .int .u64 (pl b 1), .int .u64 (pl b 2), .int .u64 (pl b 3), .int .u64 (pl b 4), .int .u64 (pl b 5), .int .u64 (pl b 6), .int .u64 (pl b 7), .slice p0 n0 c0, .slice q0 k0 d0], .int .i64 i] w fun e w' => e = .returned (.bool true) ∧ Below w.heap.size w w' := by
  go_enter Tryz.func8, Tryz.ntmps8
  go_wp2_with fail
  refine (few1n (b := b) (p := p0) (q := q0) (n := n0) (c := c0) (k := k0) (d := d0) (t := 30) _ bks_by).mono ?_
  rw [hm]
  rintro e w1 ⟨rfl, hb⟩
  have g0 : Blk w1 (w.heap.size) #[.int .u64 (pl b 0), .int .u64 (pl b 1), .int .u64 (pl b 2), .int .u64 (pl b 3), .int .u64 (pl b 4), .int .u64 (pl b 5), .int .u64 (pl b 6), .int .u64 (pl b 7), .slice p0 n0 c0, .slice q0 k0 d0] 30 := Blk.grow bks_by hb
  have hB : Below w.heap.size w w1 := bel_trans bni hb
  clear hb
  have c_g0 := g0.cell
  have l_g0 := g0.lt
  go_wp2_with fail
  clear c_g0 l_g0
  refine (H45.out _ (bel_trans hB bni)).mono ?_
  rintro e w2 ⟨u1, rfl, S1, T1, hb⟩
  have hbb : Below w1.heap.size w1 w2 := bel_trans bni hb
  replace hB := bel_trans hB hbb
  replace g0 := g0.grow hbb
  clear hb hbb
  have HS1 := Lib.hid (And.intro S1 T1)
  clear S1 T1
  have c_g0 := g0.cell
  have l_g0 := g0.lt
  go_wp2_with fail
  clear c_g0 l_g0
  refine (H46.out _ (bel_trans hB bni)).mono ?_
  rintro e w3 ⟨u2, rfl, S2, T2, hb⟩
  have hbb : Below w2.heap.size w2 w3 := bel_trans bni hb
  replace hB := bel_trans hB hbb
  replace g0 := g0.grow hbb
  replace HS1 := Lib.hid (And.intro (HS1.out.1.mono hbb) (HS1.out.2.mono hbb))
  clear hb hbb
  have HS2 := Lib.hid (And.intro S2 T2)
  clear S2 T2
  have c_g0 := g0.cell
  have l_g0 := g0.lt
  go_wp2_with fail
  clear c_g0 l_g0
  refine (H47.out _ (bel_trans hB bni)).mono ?_
  rintro e w4 ⟨u3, rfl, S3, T3, hb⟩
  have hbb : Below w3.heap.size w3 w4 := bel_trans bni hb
  replace hB := bel_trans hB hbb
  replace g0 := g0.grow hbb
  replace HS1 := Lib.hid (And.intro (HS1.out.1.mono hbb) (HS1.out.2.mono hbb))
  replace HS2 := Lib.hid (And.intro (HS2.out.1.mono hbb) (HS2.out.2.mono hbb))
  clear hb hbb
  have HS3 := Lib.hid (And.intro S3 T3)
  clear S3 T3
  have c_g0 := g0.cell
  have l_g0 := g0.lt
  go_wp2_with fail
  clear c_g0 l_g0
  refine (H48.out _ (bel_trans hB bni)).mono ?_
  rintro e w5 ⟨u4, rfl, S4, T4, hb⟩
  have hbb : Below w4.heap.size w4 w5 := bel_trans bni hb
  replace hB := bel_trans hB hbb
  replace g0 := g0.grow hbb
  replace HS1 := Lib.hid (And.intro (HS1.out.1.mono hbb) (HS1.out.2.mono hbb))
  replace HS2 := Lib.hid (And.intro (HS2.out.1.mono hbb) (HS2.out.2.mono hbb))
  replace HS3 := Lib.hid (And.intro (HS3.out.1.mono hbb) (HS3.out.2.mono hbb))
  clear hb hbb
  have HS4 := Lib.hid (And.intro S4 T4)
  clear S4 T4
  have c_g0 := g0.cell
  have l_g0 := g0.lt
  go_wp2_with fail
  clear c_g0 l_g0
  refine (EqInt_t _ (HS1.out.1.mono bni) (HS2.out.1.mono bni)).mono ?_
  rintro e w6 ⟨rfl, hb⟩
  have hbb : Below w5.heap.size w5 w6 := bel_trans bni hb
  replace hB := bel_trans hB hbb
  replace g0 := g0.grow hbb
  replace HS1 := Lib.hid (And.intro (HS1.out.1.mono hbb) (HS1.out.2.mono hbb))
  replace HS2 := Lib.hid (And.intro (HS2.out.1.mono hbb) (HS2.out.2.mono hbb))
  replace HS3 := Lib.hid (And.intro (HS3.out.1.mono hbb) (HS3.out.2.mono hbb))
  replace HS4 := Lib.hid (And.intro (HS4.out.1.mono hbb) (HS4.out.2.mono hbb))
  clear hb hbb
  have c_g0 := g0.cell
  have l_g0 := g0.lt
  go_wp2_with fail
  clear c_g0 l_g0
  refine (EqInt_t _ (HS3.out.1.mono bni) (HS4.out.1.mono bni)).mono ?_
  rintro e w7 ⟨rfl, hb⟩
  have hbb : Below w6.heap.size w6 w7 := bel_trans bni hb
  replace hB := bel_trans hB hbb
  replace g0 := g0.grow hbb
  replace HS1 := Lib.hid (And.intro (HS1.out.1.mono hbb) (HS1.out.2.mono hbb))
  replace HS2 := Lib.hid (And.intro (HS2.out.1.mono hbb) (HS2.out.2.mono hbb))
  replace HS3 := Lib.hid (And.intro (HS3.out.1.mono hbb) (HS3.out.2.mono hbb))
  replace HS4 := Lib.hid (And.intro (HS4.out.1.mono hbb) (HS4.out.2.mono hbb))
  clear hb hbb
  have c_g0 := g0.cell
  have l_g0 := g0.lt
  go_wp2_with fail
  clear c_g0 l_g0
  refine (H50.out _ (bel_trans hB bni)).mono ?_
  rintro e w8 ⟨u5, rfl, S5, T5, hb⟩
  have hbb : Below w7.heap.size w7 w8 := bel_trans bni hb
  replace hB := bel_trans hB hbb
  replace g0 := g0.grow hbb
  replace HS1 := Lib.hid (And.intro (HS1.out.1.mono hbb) (HS1.out.2.mono hbb))
  replace HS2 := Lib.hid (And.intro (HS2.out.1.mono hbb) (HS2.out.2.mono hbb))
  replace HS3 := Lib.hid (And.intro (HS3.out.1.mono hbb) (HS3.out.2.mono hbb))
  replace HS4 := Lib.hid (And.intro (HS4.out.1.mono hbb) (HS4.out.2.mono hbb))
  clear hb hbb
  have HS5 := Lib.hid (And.intro S5 T5)
  clear S5 T5
  have c_g0 := g0.cell
  have l_g0 := g0.lt
  go_wp2_with fail
  clear c_g0 l_g0
  refine (H51.out _ (bel_trans hB bni)).mono ?_
  rintro e w9 ⟨u6, rfl, S6, T6, hb⟩
  have hbb : Below w8.heap.size w8 w9 := bel_trans bni hb
  replace hB := bel_trans hB hbb
  replace g0 := g0.grow hbb
  replace HS1 := Lib.hid (And.intro (HS1.out.1.mono hbb) (HS1.out.2.mono hbb))
  replace HS2 := Lib.hid (And.intro (HS2.out.1.mono hbb) (HS2.out.2.mono hbb))
  replace HS3 := Lib.hid (And.intro (HS3.out.1.mono hbb) (HS3.out.2.mono hbb))
  replace HS4 := Lib.hid (And.intro (HS4.out.1.mono hbb) (HS4.out.2.mono hbb))
  replace HS5 := Lib.hid (And.intro (HS5.out.1.mono hbb) (HS5.out.2.mono hbb))
  clear hb hbb
  have HS6 := Lib.hid (And.intro S6 T6)
  clear S6 T6
  have c_g0 := g0.cell
  have l_g0 := g0.lt
  go_wp2_with fail
  clear c_g0 l_g0
  refine (H52.out _ (bel_trans hB bni)).mono ?_
  rintro e w10 ⟨rfl, hb⟩
  have hbb : Below w9.heap.size w9 w10 := bel_trans bni hb
  replace hB := bel_trans hB hbb
  replace g0 := g0.grow hbb
  replace HS1 := Lib.hid (And.intro (HS1.out.1.mono hbb) (HS1.out.2.mono hbb))
  replace HS2 := Lib.hid (And.intro (HS2.out.1.mono hbb) (HS2.out.2.mono hbb))
  replace HS3 := Lib.hid (And.intro (HS3.out.1.mono hbb) (HS3.out.2.mono hbb))
  replace HS4 := Lib.hid (And.intro (HS4.out.1.mono hbb) (HS4.out.2.mono hbb))
  replace HS5 := Lib.hid (And.intro (HS5.out.1.mono hbb) (HS5.out.2.mono hbb))
  replace HS6 := Lib.hid (And.intro (HS6.out.1.mono hbb) (HS6.out.2.mono hbb))
  clear hb hbb
  have c_g0 := g0.cell
  have l_g0 := g0.lt
  go_wp2_with fail
  clear c_g0 l_g0
  refine (H53.out _ (bel_trans hB bni)).mono ?_
  rintro e w11 ⟨rfl, hb⟩
  have hbb : Below w10.heap.size w10 w11 := bel_trans bni hb
  replace hB := bel_trans hB hbb
  replace g0 := g0.grow hbb
  replace HS1 := Lib.hid (And.intro (HS1.out.1.mono hbb) (HS1.out.2.mono hbb))
  replace HS2 := Lib.hid (And.intro (HS2.out.1.mono hbb) (HS2.out.2.mono hbb))
  replace HS3 := Lib.hid (And.intro (HS3.out.1.mono hbb) (HS3.out.2.mono hbb))
  replace HS4 := Lib.hid (And.intro (HS4.out.1.mono hbb) (HS4.out.2.mono hbb))
  replace HS5 := Lib.hid (And.intro (HS5.out.1.mono hbb) (HS5.out.2.mono hbb))
  replace HS6 := Lib.hid (And.intro (HS6.out.1.mono hbb) (HS6.out.2.mono hbb))
  clear hb hbb
  have c_g0 := g0.cell
  have l_g0 := g0.lt
  go_wp2_with fail
  clear c_g0 l_g0
  refine (HAL.out _ (bel_trans hB bni)).mono ?_
  rintro e w12 ⟨rfl, hb⟩
  have hbb : Below w11.heap.size w11 w12 := bel_trans bni hb
  replace hB := bel_trans hB hbb
  replace g0 := g0.grow hbb
  replace HS1 := Lib.hid (And.intro (HS1.out.1.mono hbb) (HS1.out.2.mono hbb))
  replace HS2 := Lib.hid (And.intro (HS2.out.1.mono hbb) (HS2.out.2.mono hbb))
  replace HS3 := Lib.hid (And.intro (HS3.out.1.mono hbb) (HS3.out.2.mono hbb))
  replace HS4 := Lib.hid (And.intro (HS4.out.1.mono hbb) (HS4.out.2.mono hbb))
  replace HS5 := Lib.hid (And.intro (HS5.out.1.mono hbb) (HS5.out.2.mono hbb))
  replace HS6 := Lib.hid (And.intro (HS6.out.1.mono hbb) (HS6.out.2.mono hbb))
  clear hb hbb
  have c_g0 := g0.cell
  have l_g0 := g0.lt
  go_wp2_with fail
  clear c_g0 l_g0
  refine (EqInt_t _ (HS5.out.1.mono bni) (HS6.out.1.mono bni)).mono ?_
  rintro e w13 ⟨rfl, hb⟩
  have hbb : Below w12.heap.size w12 w13 := bel_trans bni hb
  replace hB := bel_trans hB hbb
  replace g0 := g0.grow hbb
  replace HS1 := Lib.hid (And.intro (HS1.out.1.mono hbb) (HS1.out.2.mono hbb))
  replace HS2 := Lib.hid (And.intro (HS2.out.1.mono hbb) (HS2.out.2.mono hbb))
  replace HS3 := Lib.hid (And.intro (HS3.out.1.mono hbb) (HS3.out.2.mono hbb))
  replace HS4 := Lib.hid (And.intro (HS4.out.1.mono hbb) (HS4.out.2.mono hbb))
  replace HS5 := Lib.hid (And.intro (HS5.out.1.mono hbb) (HS5.out.2.mono hbb))
  replace HS6 := Lib.hid (And.intro (HS6.out.1.mono hbb) (HS6.out.2.mono hbb))
  clear hb hbb
  have c_g0 := g0.cell
  have l_g0 := g0.lt
  go_wp2_with fail
  clear c_g0 l_g0
  refine bodyPost_ret (v := .bool true) (by simp [results, Tryz.results8, go_sem]) rfl ⟨rfl, hB⟩
set_option maxHeartbeats 4000000 in
theorem refLast_nil (b : Sol) (p q : Option Addr) (n c d : Nat) (l : List Sol) (m : List Ac) (w : World) (H : Hid (∀ w', Below w.heap.size w w' → Calls Tryz.prog 38 #[.agg #[.int .u64 (pl b 0), .int .u64 (pl b 1), .int .u64 (pl b 2), .int .u64 (pl b 3), .int .u64 (pl b 4), .int .u64 (pl b 5), .int .u64 (pl b 6), .int .u64 (pl b 7), .slice p n c, .slice q 0 d]] w' fun e w'' => e = .returned (.tuple #[.int .i64 0, .int .i64 0]) ∧ Below w'.heap.size w' w'')) :
    Calls Tryz.prog 48 #[.agg #[.int .u64 (pl b 0), .int .u64 (pl b 1), .int .u64 (pl b 2), .int .u64 (pl b 3), .int .u64 (pl b 4), .int .u64 (pl b 5), .int .u64 (pl b 6), .int .u64 (pl b 7), .slice p n c, .slice q 0 d]] w fun e w' => ∃ u, e = .returned (.tuple #[u, .int .i64 0]) ∧ SlI w' u (FI (fun i => lastU l m i 0) 0) ∧ Below w.heap.size w w' := by
  go_enter Tryz.func48, Tryz.ntmps48
  go_wp2_with fail
  refine (H.out _ bel_by).mono ?_
  rintro e w1 ⟨rfl, hb⟩
  have hB1 : Below w.heap.size w w1 := bel_trans bel_by hb
  have g0 : Blk w1 w.heap.size #[.int .u64 (pl b 0), .int .u64 (pl b 1), .int .u64 (pl b 2), .int .u64 (pl b 3), .int .u64 (pl b 4), .int .u64 (pl b 5), .int .u64 (pl b 6), .int .u64 (pl b 7), .slice p n c, .slice q 0 d] 30 := Blk.grow blk_by hb
  have c0 := g0.cell
  have l0 := g0.lt
  clear hb
  go_wp2_with fail
  refine wp_loop_rounds 1 ?_
  rw [rounds_succ]
  go_wp2_with fail
  refine bodyPost_ret (by simp [results, Tryz.results48, go_sem]) rfl ⟨.slice none 0 0, rfl, sl_niln w1, hB1⟩
theorem refLast_spec {b : Sol} {p q : Option Addr} {n c k d : Nat} {l : List Sol} {m : List Ac} {t : StB} (R : Runs b l m t) (hk : m.length = k) (hkd : k ≤ d) (hd : d ≤ 9223372036854775807) (w : World) (Hv : SlS w (.slice p n c) l) (Hav : SlA w (.slice q k d) m)
    (H : Hid (∀ w', Below w.heap.size w w' → Calls Tryz.prog 38 #[.agg #[.int .u64 (pl b 0), .int .u64 (pl b 1), .int .u64 (pl b 2), .int .u64 (pl b 3), .int .u64 (pl b 4), .int .u64 (pl b 5), .int .u64 (pl b 6), .int .u64 (pl b 7), .slice p n c, .slice q k d]] w' fun e w'' => e = .returned (.tuple #[.int .i64 0, .int .i64 0]) ∧ Below w'.heap.size w' w'')) :
    Calls Tryz.prog 48 #[.agg #[.int .u64 (pl b 0), .int .u64 (pl b 1), .int .u64 (pl b 2), .int .u64 (pl b 3), .int .u64 (pl b 4), .int .u64 (pl b 5), .int .u64 (pl b 6), .int .u64 (pl b 7), .slice p n c, .slice q k d]] w fun e w' => ∃ u, e = .returned (.tuple #[u, .int .i64 0]) ∧ SlI w' u (FI (fun i => lastU l m i k) k) ∧ Below w.heap.size w w' := by
  have h60 := R.len
  by_cases h0 : 0 < k
  · have hx : m[0]? = some (m[0]'(by omega)) := by simp
    obtain ⟨ab, ao, rfl, hcs⟩ := acs_at Hav hx
    exact refLast_yes b p n c ab ao k d l m w hk (by omega) hkd hd hcs Hv R.fine.fit H
  · have hk0 : k = 0 := by omega
    subst hk0
    exact refLast_nil b p q n c d l m w H
theorem TraceOrders_walk (b0 : Sol) (u0 : Value) (l0 : List Sol) (av0 : Value) (g : List Ac) (i : Int) (w : World)
    (S0 : SlS w u0 l0) (A0 : SlA w av0 g) (_ : ∀ n c, av0 = .slice none n c → c = 0) (_ : -9223372036854775808 ≤ i ∧ i < 9223372036854775808) (hT : w.cell? ⟨5, 15, none⟩ = some (.int .u8 4)) :
    Calls Tryz.prog 8 #[.agg #[.int .u64 (pl b0 0), .int .u64 (pl b0 1), .int .u64 (pl b0 2), .int .u64 (pl b0 3), .int .u64 (pl b0 4), .int .u64 (pl b0 5), .int .u64 (pl b0 6), .int .u64 (pl b0 7), u0, av0], .int .i64 i] w fun e w' => e = .returned (.bool true) ∧ Below w.heap.size w w' := by
  have HAL := alive_h w hT
  have T0 := S0
  have X0 := A0
  obtain ⟨p0, c0, rfl, _, _⟩ := T0
  obtain ⟨q0, d0, rfl, hkd, hdM⟩ := X0
  have hk0 : (g.map acL).length = g.length := List.length_map ..
  generalize (g.map acL).length = k0 at *
  generalize (l0.map solL).length = n0 at *
  cases hm : many k0 n0 with
  | true => exact TraceOrders_many b0 p0 q0 n0 c0 k0 d0 i w hm HAL
  | false =>
    cases hg : begunM b0 l0 g with
    | inl x =>
      have hx := begunM_bad hg
      have hch : checkR b0 l0 g = x := by unfold checkR; rw [hg]
      have H := Lib.hid fun w' (hb : Below w.heap.size w w') => refCheck_spec b0 _ _ l0 g w' (S0.mono hb) (A0.mono hb)
      rw [hch] at H
      have Hb := fun w' (hb : Below w.heap.size w w') => Lib.hid fun w2 (hb2 : Below w'.heap.size w' w2) => H.out w2 (bel_trans hb hb2)
      exact TraceOrders_main b0 p0 q0 n0 c0 k0 d0 i w hm [] [] [] x.2 x.2 x.2 0
        (Lib.hid fun w' hb => (First_bad hg w' (S0.mono hb) (A0.mono hb)).mono fun e w2 h => by obtain ⟨rfl, h⟩ := h; exact ires_nil h)
        (Lib.hid fun w' hb => (refFirst_no b0 p0 q0 n0 c0 k0 d0 _ _ hx w' (Hb w' hb)).mono fun e w2 h => by obtain ⟨rfl, h⟩ := h; exact ires_nil h)
        (Lib.hid fun w' hb => (Last_bad hg w' (S0.mono hb) (A0.mono hb)).mono fun e w2 h => by obtain ⟨rfl, h⟩ := h; exact ires_nil h)
        (Lib.hid fun w' hb => (refLast_no b0 p0 q0 n0 c0 k0 d0 _ _ hx w' (Hb w' hb)).mono fun e w2 h => by obtain ⟨rfl, h⟩ := h; exact ires_nil h)
        (Lib.hid fun w' hb => (Needs_bad hg i w' (S0.mono hb) (A0.mono hb)).mono fun e w2 h => by obtain ⟨rfl, h⟩ := h; exact ires_nil h)
        (Lib.hid fun w' hb => (refNeeds_no b0 p0 q0 n0 c0 k0 d0 i _ _ hx w' (Hb w' hb)).mono fun e w2 h => by obtain ⟨rfl, h⟩ := h; exact ires_nil h)
        (Lib.hid fun w' hb => Orders_bad hg w' (S0.mono hb) (A0.mono hb))
        (Lib.hid fun w' hb => refOrders_no b0 p0 q0 n0 c0 k0 d0 _ _ hx w' (Hb w' hb)) HAL
    | inr s =>
      obtain ⟨t, R, _⟩ := Runs.of hg
      have h60 := R.len
      have h14 : k0 ≤ 14 := few_len hm (by omega)
      have hch : checkR b0 l0 g = (0, 0) := by unfold checkR; rw [hg]
      have H := Lib.hid fun w' (hb : Below w.heap.size w w') => refCheck_spec b0 _ _ l0 g w' (S0.mono hb) (A0.mono hb)
      rw [hch] at H
      have Hb := fun w' (hb : Below w.heap.size w w') => Lib.hid fun w2 (hb2 : Below w'.heap.size w' w2) => H.out w2 (bel_trans hb hb2)
      have HF := Lib.hid fun w' (hb : Below w.heap.size w w') => (First_good hg w' (S0.mono hb) (A0.mono hb)).mono fun e w2 (h : ∃ u, e = .returned (.tuple #[u, .int .i64 0]) ∧ SlI w2 u (FI (freeL l0 g) g.length) ∧ Below w'.heap.size w' w2) => (by obtain ⟨u, he, h1, h2⟩ := h; rw [← hk0] at h1; exact ⟨u, he, h1, h1, h2⟩ : IRes (FI (freeL l0 g) k0) 0 w' e w2)
      have HF2 := Lib.hid fun w' (hb : Below w.heap.size w w') => (refFirst_yes b0 p0 q0 n0 c0 k0 d0 w' (freeL l0 g) (by omega) (Hb w' hb) (Lib.hid fun j hj w2 hb2 => free112_spec b0 _ _ l0 g j (by omega) R.fine.fit w2 ((S0.mono hb).mono hb2) ((A0.mono hb).mono hb2))).mono fun e w2 (h : ∃ u, e = .returned (.tuple #[u, .int .i64 0]) ∧ SlI w2 u (FI (freeL l0 g) k0) ∧ Below w'.heap.size w' w2) => (by obtain ⟨u, he, h1, h2⟩ := h; exact ⟨u, he, h1, h1, h2⟩ : IRes (FI (freeL l0 g) k0) 0 w' e w2)
      have HL := Lib.hid fun w' (hb : Below w.heap.size w w') => (Last_good hg w' (S0.mono hb) (A0.mono hb)).mono fun e w2 (h : ∃ u, e = .returned (.tuple #[u, .int .i64 0]) ∧ SlI w2 u (FI (fun i => lastU l0 g i g.length) g.length) ∧ Below w'.heap.size w' w2) => (by obtain ⟨u, he, h1, h2⟩ := h; rw [← hk0] at h1; exact ⟨u, he, h1, h1, h2⟩ : IRes (FI (fun i => lastU l0 g i k0) k0) 0 w' e w2)
      have HL2 := Lib.hid fun w' (hb : Below w.heap.size w w') => (refLast_spec R hk0.symm hkd hdM.1 w' (S0.mono hb) (A0.mono hb) (Hb w' hb)).mono fun e w2 (h : ∃ u, e = .returned (.tuple #[u, .int .i64 0]) ∧ SlI w2 u (FI (fun i => lastU l0 g i k0) k0) ∧ Below w'.heap.size w' w2) => (by obtain ⟨u, he, h1, h2⟩ := h; exact ⟨u, he, h1, h1, h2⟩ : IRes (FI (fun i => lastU l0 g i k0) k0) 0 w' e w2)
      have HO := Lib.hid fun w' (hb : Below w.heap.size w w') => Orders_good hg (by omega) w' (S0.mono hb) (A0.mono hb)
      have HO2 := Lib.hid fun w' (hb : Below w.heap.size w w') => refOrders_yes b0 p0 q0 n0 c0 k0 d0 (depN (cellsOf l0 g)) h14 w' (Hb w' hb) (Lib.hid fun j hj w2 hb2 => refneeds_spec R j hj w2 ((S0.mono hb).mono hb2) ((A0.mono hb).mono hb2))
      have hz : ordersM (depN (cellsOf l0 g)) g.length = ordersR (depN (cellsOf l0 g)) k0 := by rw [← hk0]; exact orders_law _ h14
      rw [hz] at HO
      by_cases hi : 0 ≤ i ∧ i < (k0 : Int)
      · obtain ⟨j, rfl⟩ : ∃ j : Nat, i = (j : Int) := ⟨i.toNat, by omega⟩
        have hj : j < k0 := by omega
        have hq : FI (aheadR (depN (cellsOf l0 g)) j) k0 = needsM (depN (cellsOf l0 g)) j := needsR_eq _ hj
        exact TraceOrders_main b0 p0 q0 n0 c0 k0 d0 (j : Int) w hm _ _ (needsM (depN (cellsOf l0 g)) j) 0 0 0 _ HF HF2 HL HL2
          (Lib.hid fun w' hb => (Needs_good hg j (by omega) w' (S0.mono hb) (A0.mono hb)).mono fun e w2 h => by obtain ⟨u, he, h1, h2⟩ := h; exact ⟨u, he, OwnI.sl h1, OwnI.sl h1, h2⟩)
          (Lib.hid fun w' hb => (refNeeds_yes b0 p0 q0 n0 c0 k0 d0 j hj (by omega) _ w' (Hb w' hb) (Lib.hid fun w2 hb2 => refneeds_spec R j hj w2 ((S0.mono hb).mono hb2) ((A0.mono hb).mono hb2))).mono fun e w2 h => by obtain ⟨u, he, h1, h2⟩ := h; rw [hq] at h1; exact ⟨u, he, h1, h1, h2⟩)
          HO HO2 HAL
      · have hN := Lib.hid fun w' (hb : Below w.heap.size w w') => (Needs_err hg i (by omega) w' (S0.mono hb) (A0.mono hb)).mono fun e w2 (h : e = .returned (.tuple #[.slice none 0 0, .int .i64 1]) ∧ Below w'.heap.size w' w2) => (by obtain ⟨rfl, h⟩ := h; exact ires_nil h : IRes [] 1 w' e w2)
        have hN2 : Hid (∀ w', Below w.heap.size w w' → Calls Tryz.prog 51 #[.agg #[.int .u64 (pl b0 0), .int .u64 (pl b0 1), .int .u64 (pl b0 2), .int .u64 (pl b0 3), .int .u64 (pl b0 4), .int .u64 (pl b0 5), .int .u64 (pl b0 6), .int .u64 (pl b0 7), .slice p0 n0 c0, .slice q0 k0 d0], .int .i64 i] w' (IRes [] 1 w')) := by
          by_cases h0 : i < 0
          · exact Lib.hid fun w' hb => (refNeeds_neg b0 p0 q0 n0 c0 k0 d0 i h0 w' (Hb w' hb)).mono fun e w2 h => by obtain ⟨rfl, h⟩ := h; exact ires_nil h
          · exact Lib.hid fun w' hb => (refNeeds_big b0 p0 q0 n0 c0 k0 d0 i (by omega) (by omega) w' (Hb w' hb)).mono fun e w2 h => by obtain ⟨rfl, h⟩ := h; exact ires_nil h
        exact TraceOrders_main b0 p0 q0 n0 c0 k0 d0 i w hm _ _ [] 0 1 0 _ HF HF2 HL HL2 hN hN2 HO HO2 HAL
end Go.Proofs.YtccnkebkgegohaaGreatDoor
end
