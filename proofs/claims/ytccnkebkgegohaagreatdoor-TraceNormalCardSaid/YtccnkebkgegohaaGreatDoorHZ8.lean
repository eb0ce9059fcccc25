import Derived.Test.YtccnkebkgegohaaGreatDoorHZ5
import Derived.Test.YtccnkebkgegohaaGreatDoorHZ7
/-
  Given contracts of functions of the program, and laws for them, one behind the other.
-/
set_option linter.unusedVariables false
set_option linter.unusedSimpArgs false
set_option linter.unusedSectionVars false
section
namespace Go.Proofs.YtccnkebkgegohaaGreatDoor
open Go.RowKit Go.Rel
set_option maxRecDepth 100000
/-- a list of lists of acts, in memory -/
def LLst (W : World) (u : Value) (ps : List (Value × List Ac)) : Prop := Sl W 1 u (ps.map fun p => [p.1]) ∧ ∀ p ∈ ps, SlN W p.1 p.2
theorem LLst.mono {W W' : World} {u : Value} {ps : List (Value × List Ac)} (h : LLst W u ps) (hb : Below W.heap.size W W') : LLst W' u ps := ⟨Sl.mono h.1 hb, fun p hp => (h.2 p hp).mono hb⟩
def SRes (SS : List (List Ac)) (E : Int) (w : World) (e : Ending) (w' : World) : Prop := ∃ u ps, e = .returned (.tuple #[u, .int .i64 E]) ∧ List.map (fun p : Value × List Ac => p.2) ps = SS ∧ LLst w' u ps ∧ Below w.heap.size w w'
theorem sres_nil {y : Int} {w w' : World} (hb : Below w.heap.size w w') : SRes [] y w (.returned (.tuple #[.slice none 0 0, .int .i64 y])) w' := ⟨_, [], rfl, rfl, ⟨sl_niln _, fun p hp => by cases hp⟩, hb⟩
theorem EqualFunc_same {SS : List (List Ac)} (v v2 : Value) (ps ps2 : List (Value × List Ac)) (w : World) (hv : LLst w v ps) (hv2 : LLst w v2 ps2) (h1 : List.map (fun p : Value × List Ac => p.2) ps = SS) (h2 : List.map (fun p : Value × List Ac => p.2) ps2 = SS) (hlen : SS.length ≤ 1048576) :
  Calls Tryz.prog 79 #[v, v2, .func (.func 80) #[] #[]] w fun e w' => e = .returned (.bool true) ∧ Below w.heap.size w w' :=
 EqualFunc79_spec v v2 ps ps2 w hv.1 hv2.1 (fun p hp => (hv.2 p hp).1) (fun p hp => (hv2.2 p hp).1) (h1.trans h2.symm) (by rw [← h1, List.length_map] at hlen; exact hlen)
set_option maxHeartbeats 4000000 in
theorem Equal_e (b b2 : Sol) (v av v2 av2 : Value) (y : Int) (w : World) (H : Hid (∀ w', Below w.heap.size w w' → Calls Tryz.prog 107 #[.agg #[.int .u64 (pl b 0), .int .u64 (pl b 1), .int .u64 (pl b 2), .int .u64 (pl b 3), .int .u64 (pl b 4), .int .u64 (pl b 5), .int .u64 (pl b 6), .int .u64 (pl b 7), v, av], .agg #[.int .u64 (pl b2 0), .int .u64 (pl b2 1), .int .u64 (pl b2 2), .int .u64 (pl b2 3), .int .u64 (pl b2 4), .int .u64 (pl b2 5), .int .u64 (pl b2 6), .int .u64 (pl b2 7), v2, av2]] w' fun e w'' => (∃ sp tq, e = .returned (.tuple #[.pointer sp, .pointer tq, .bool false, .int .i64 y])) ∧ Below w'.heap.size w' w'')) :
  Calls Tryz.prog 42 #[.agg #[.int .u64 (pl b 0), .int .u64 (pl b 1), .int .u64 (pl b 2), .int .u64 (pl b 3), .int .u64 (pl b 4), .int .u64 (pl b 5), .int .u64 (pl b 6), .int .u64 (pl b 7), v, av], .agg #[.int .u64 (pl b2 0), .int .u64 (pl b2 1), .int .u64 (pl b2 2), .int .u64 (pl b2 3), .int .u64 (pl b2 4), .int .u64 (pl b2 5), .int .u64 (pl b2 6), .int .u64 (pl b2 7), v2, av2]] w fun e w' => e = .returned (.tuple #[.bool false, .int .i64 y]) ∧ Below w.heap.size w w' := by
 go_enter Tryz.func42, Tryz.ntmps42
 obtain ⟨r, hr⟩ : ∃ r, (y != 0) = r := ⟨_, rfl⟩
 go_wp2_with fail
 refine (H.out _ bel_by).mono ?_
 rintro e w1 ⟨⟨sp, tq, rfl⟩, hb⟩
 have hB1 : Below w.heap.size w w1 := bel_trans bel_by hb
 clear hb
 cases r with
 | true =>
  go_wp2_with fail
  refine bodyPost_ret (v := .tuple #[.bool false, .int .i64 y]) (by simp [results, Tryz.results42, go_sem, *]) rfl ⟨rfl, hB1⟩
 | false =>
  go_wp2_with fail
  refine bodyPost_ret (v := .tuple #[.bool false, .int .i64 y]) (by simp [results, Tryz.results42, go_sem, *]) rfl ⟨rfl, hB1⟩
set_option maxHeartbeats 8000000 in
theorem TraceNormal_many (b0 b1 : Sol) (p0 p1 q0 q1 : Option Addr) (n0 n1 c0 c1 k0 k1 d0 d1 : Nat) (w : World) (hm : (many k0 n0 || many k1 n1) = true) (HAL : AliveH w) :
  Calls Tryz.prog 17 #[.agg #[.int .u64 (pl b0 0), .int .u64 (pl b0 1), .int .u64 (pl b0 2), .int .u64 (pl b0 3), .int .u64 (pl b0 4), .int .u64 (pl b0 5), .int .u64 (pl b0 6), .int .u64 (pl b0 7), .slice p0 n0 c0, .slice q0 k0 d0], .agg #[.int .u64 (pl b1 0), .int .u64 (pl b1 1), .int .u64 (pl b1 2), .int .u64 (pl b1 3), .int .u64 (pl b1 4), .int .u64 (pl b1 5), .int .u64 (pl b1 6), .int .u64 (pl b1 7), .slice p1 n1 c1, .slice q1 k1 d1]] w fun e w' => e = .returned (.bool true) ∧ Below w.heap.size w w' := by
 go_enter Tryz.func17, Tryz.ntmps17
 go_wp2_with fail
 refine (few2 (b := b0) (p := p0) (q := q0) (n := n0) (c := c0) (k := k0) (d := d0) (b' := b1) (p' := p1) (q' := q1) (n' := n1) (c' := c1) (k' := k1) (d' := d1) (t := 30) _ bks_by).mono ?_
 rw [hm]
 rintro e w1 ⟨rfl, hb⟩
 have g0 : Blk w1 (w.heap.size) #[.int .u64 (pl b0 0), .int .u64 (pl b0 1), .int .u64 (pl b0 2), .int .u64 (pl b0 3), .int .u64 (pl b0 4), .int .u64 (pl b0 5), .int .u64 (pl b0 6), .int .u64 (pl b0 7), .slice p0 n0 c0, .slice q0 k0 d0] 30 := Blk.grow bks_by hb
 have g1 : Blk w1 (w.heap.size + 1) #[.int .u64 (pl b1 0), .int .u64 (pl b1 1), .int .u64 (pl b1 2), .int .u64 (pl b1 3), .int .u64 (pl b1 4), .int .u64 (pl b1 5), .int .u64 (pl b1 6), .int .u64 (pl b1 7), .slice p1 n1 c1, .slice q1 k1 d1] 30 := Blk.grow bks_by hb
 have hB : Below w.heap.size w w1 := bel_trans bni hb
 clear hb
 have c_g0 := g0.cell
 have l_g0 := g0.lt
 have c_g1 := g1.cell
 have l_g1 := g1.lt
 go_wp2_with fail
 clear c_g0 l_g0
 clear c_g1 l_g1
 refine (HAL.out _ (bel_trans hB bni)).mono ?_
 rintro e w2 ⟨rfl, hb⟩
 have hbb : Below w1.heap.size w1 w2 := bel_trans bni hb
 replace hB := bel_trans hB hbb
 replace g0 := g0.grow hbb
 replace g1 := g1.grow hbb
 clear hb hbb
 have c_g0 := g0.cell
 have l_g0 := g0.lt
 have c_g1 := g1.cell
 have l_g1 := g1.lt
 go_wp2_with fail
 clear c_g0 l_g0
 clear c_g1 l_g1
 refine bodyPost_ret (v := .bool true) (by simp [results, Tryz.results17, go_sem]) rfl ⟨rfl, hB⟩
set_option maxHeartbeats 8000000 in
theorem TraceNormal_main (b0 b1 : Sol) (p0 p1 q0 q1 : Option Addr) (n0 n1 c0 c1 k0 k1 d0 d1 : Nat) (w : World) (hm : (many k0 n0 || many k1 n1) = false) (rb : Bool) (BN : Sol) (LN : List Sol) (MN : List Ac) (EN E1 ES : Int) (SS : List (List Ac)) (hSS : SS.length ≤ 1048576) (H55 : Hid (∀ w', Below w.heap.size w w' → Calls Tryz.prog 55 #[.agg #[.int .u64 (pl b1 0), .int .u64 (pl b1 1), .int .u64 (pl b1 2), .int .u64 (pl b1 3), .int .u64 (pl b1 4), .int .u64 (pl b1 5), .int .u64 (pl b1 6), .int .u64 (pl b1 7), .slice p1 n1 c1, .slice q1 k1 d1]] w' (HRes BN LN MN EN w'))) (H76 : Hid (∀ w', Below w.heap.size w w' → Calls Tryz.prog 76 #[.agg #[.int .u64 (pl b1 0), .int .u64 (pl b1 1), .int .u64 (pl b1 2), .int .u64 (pl b1 3), .int .u64 (pl b1 4), .int .u64 (pl b1 5), .int .u64 (pl b1 6), .int .u64 (pl b1 7), .slice p1 n1 c1, .slice q1 k1 d1]] w' (HRes BN LN MN EN w'))) (H42 : Hid (∀ w', Below w.heap.size w w' → Calls Tryz.prog 42 #[.agg #[.int .u64 (pl b0 0), .int .u64 (pl b0 1), .int .u64 (pl b0 2), .int .u64 (pl b0 3), .int .u64 (pl b0 4), .int .u64 (pl b0 5), .int .u64 (pl b0 6), .int .u64 (pl b0 7), .slice p0 n0 c0, .slice q0 k0 d0], .agg #[.int .u64 (pl b1 0), .int .u64 (pl b1 1), .int .u64 (pl b1 2), .int .u64 (pl b1 3), .int .u64 (pl b1 4), .int .u64 (pl b1 5), .int .u64 (pl b1 6), .int .u64 (pl b1 7), .slice p1 n1 c1, .slice q1 k1 d1]] w' (fun e w'' => e = .returned (.tuple #[.bool rb, .int .i64 E1]) ∧ Below w'.heap.size w' w''))) (H77 : Hid (∀ w', Below w.heap.size w w' → Calls Tryz.prog 77 #[.agg #[.int .u64 (pl b0 0), .int .u64 (pl b0 1), .int .u64 (pl b0 2), .int .u64 (pl b0 3), .int .u64 (pl b0 4), .int .u64 (pl b0 5), .int .u64 (pl b0 6), .int .u64 (pl b0 7), .slice p0 n0 c0, .slice q0 k0 d0], .agg #[.int .u64 (pl b1 0), .int .u64 (pl b1 1), .int .u64 (pl b1 2), .int .u64 (pl b1 3), .int .u64 (pl b1 4), .int .u64 (pl b1 5), .int .u64 (pl b1 6), .int .u64 (pl b1 7), .slice p1 n1 c1, .slice q1 k1 d1]] w' (fun e w'' => e = .returned (.tuple #[.bool rb, .int .i64 E1]) ∧ Below w'.heap.size w' w''))) (H69 : Hid (∀ w', Below w.heap.size w w' → Calls Tryz.prog 69 #[.agg #[.int .u64 (pl b1 0), .int .u64 (pl b1 1), .int .u64 (pl b1 2), .int .u64 (pl b1 3), .int .u64 (pl b1 4), .int .u64 (pl b1 5), .int .u64 (pl b1 6), .int .u64 (pl b1 7), .slice p1 n1 c1, .slice q1 k1 d1]] w' (SRes SS ES w'))) (H78 : Hid (∀ w', Below w.heap.size w w' → Calls Tryz.prog 78 #[.agg #[.int .u64 (pl b1 0), .int .u64 (pl b1 1), .int .u64 (pl b1 2), .int .u64 (pl b1 3), .int .u64 (pl b1 4), .int .u64 (pl b1 5), .int .u64 (pl b1 6), .int .u64 (pl b1 7), .slice p1 n1 c1, .slice q1 k1 d1]] w' (SRes SS ES w'))) (HAL : AliveH w) :
  Calls Tryz.prog 17 #[.agg #[.int .u64 (pl b0 0), .int .u64 (pl b0 1), .int .u64 (pl b0 2), .int .u64 (pl b0 3), .int .u64 (pl b0 4), .int .u64 (pl b0 5), .int .u64 (pl b0 6), .int .u64 (pl b0 7), .slice p0 n0 c0, .slice q0 k0 d0], .agg #[.int .u64 (pl b1 0), .int .u64 (pl b1 1), .int .u64 (pl b1 2), .int .u64 (pl b1 3), .int .u64 (pl b1 4), .int .u64 (pl b1 5), .int .u64 (pl b1 6), .int .u64 (pl b1 7), .slice p1 n1 c1, .slice q1 k1 d1]] w fun e w' => e = .returned (.bool true) ∧ Below w.heap.size w w' := by
 go_enter Tryz.func17, Tryz.ntmps17
 go_wp2_with fail
 refine (few2 (b := b0) (p := p0) (q := q0) (n := n0) (c := c0) (k := k0) (d := d0) (b' := b1) (p' := p1) (q' := q1) (n' := n1) (c' := c1) (k' := k1) (d' := d1) (t := 30) _ bks_by).mono ?_
 rw [hm]
 rintro e w1 ⟨rfl, hb⟩
 have g0 : Blk w1 (w.heap.size) #[.int .u64 (pl b0 0), .int .u64 (pl b0 1), .int .u64 (pl b0 2), .int .u64 (pl b0 3), .int .u64 (pl b0 4), .int .u64 (pl b0 5), .int .u64 (pl b0 6), .int .u64 (pl b0 7), .slice p0 n0 c0, .slice q0 k0 d0] 30 := Blk.grow bks_by hb
 have g1 : Blk w1 (w.heap.size + 1) #[.int .u64 (pl b1 0), .int .u64 (pl b1 1), .int .u64 (pl b1 2), .int .u64 (pl b1 3), .int .u64 (pl b1 4), .int .u64 (pl b1 5), .int .u64 (pl b1 6), .int .u64 (pl b1 7), .slice p1 n1 c1, .slice q1 k1 d1] 30 := Blk.grow bks_by hb
 have hB : Below w.heap.size w w1 := bel_trans bni hb
 clear hb
 have c_g0 := g0.cell
 have l_g0 := g0.lt
 have c_g1 := g1.cell
 have l_g1 := g1.lt
 go_wp2_with fail
 clear c_g0 l_g0
 clear c_g1 l_g1
 refine (H55.out _ (bel_trans hB bni)).mono ?_
 rintro e w2 ⟨p5, n5, c5, q5, k5, d5, rfl, S5, A5, hb⟩
 have hbb : Below w1.heap.size w1 w2 := bel_trans bni hb
 replace hB := bel_trans hB hbb
 replace g0 := g0.grow hbb
 replace g1 := g1.grow hbb
 clear hb hbb
 have HS5 := Lib.hid (And.intro S5 A5)
 clear S5 A5
 have c_g0 := g0.cell
 have l_g0 := g0.lt
 have c_g1 := g1.cell
 have l_g1 := g1.lt
 go_wp2_with fail
 clear c_g0 l_g0
 clear c_g1 l_g1
 refine (H76.out _ (bel_trans hB bni)).mono ?_
 rintro e w3 ⟨p6, n6, c6, q6, k6, d6, rfl, S6, A6, hb⟩
 have g5 : Blk w3 (w2.heap.size) #[.int .u64 (pl BN 0), .int .u64 (pl BN 1), .int .u64 (pl BN 2), .int .u64 (pl BN 3), .int .u64 (pl BN 4), .int .u64 (pl BN 5), .int .u64 (pl BN 6), .int .u64 (pl BN 7), .slice p5 n5 c5, .slice q5 k5 d5] 30 := Blk.grow bks_by hb
 have hbb : Below w2.heap.size w2 w3 := bel_trans bni hb
 replace hB := bel_trans hB hbb
 replace g0 := g0.grow hbb
 replace g1 := g1.grow hbb
 replace HS5 := Lib.hid (And.intro (HS5.out.1.mono hbb) (HS5.out.2.mono hbb))
 clear hb hbb
 generalize w2.heap.size = B3 at *
 have HS6 := Lib.hid (And.intro S6 A6)
 clear S6 A6
 have c_g0 := g0.cell
 have l_g0 := g0.lt
 have c_g1 := g1.cell
 have l_g1 := g1.lt
 have c_g5 := g5.cell
 have l_g5 := g5.lt
 go_wp2_with fail
 clear c_g0 l_g0
 clear c_g1 l_g1
 clear c_g5 l_g5
 refine (H42.out _ (bel_trans hB bni)).mono ?_
 rintro e w4 ⟨rfl, hb⟩
 have g6 : Blk w4 (w3.heap.size) #[.int .u64 (pl BN 0), .int .u64 (pl BN 1), .int .u64 (pl BN 2), .int .u64 (pl BN 3), .int .u64 (pl BN 4), .int .u64 (pl BN 5), .int .u64 (pl BN 6), .int .u64 (pl BN 7), .slice p6 n6 c6, .slice q6 k6 d6] 30 := Blk.grow bks_by hb
 have hbb : Below w3.heap.size w3 w4 := bel_trans bni hb
 replace hB := bel_trans hB hbb
 replace g0 := g0.grow hbb
 replace g1 := g1.grow hbb
 replace g5 := g5.grow hbb
 replace HS5 := Lib.hid (And.intro (HS5.out.1.mono hbb) (HS5.out.2.mono hbb))
 replace HS6 := Lib.hid (And.intro (HS6.out.1.mono hbb) (HS6.out.2.mono hbb))
 clear hb hbb
 generalize w3.heap.size = B4 at *
 have c_g0 := g0.cell
 have l_g0 := g0.lt
 have c_g1 := g1.cell
 have l_g1 := g1.lt
 have c_g5 := g5.cell
 have l_g5 := g5.lt
 have c_g6 := g6.cell
 have l_g6 := g6.lt
 go_wp2_with fail
 clear c_g0 l_g0
 clear c_g1 l_g1
 clear c_g5 l_g5
 clear c_g6 l_g6
 refine (H77.out _ (bel_trans hB bni)).mono ?_
 rintro e w5 ⟨rfl, hb⟩
 have hbb : Below w4.heap.size w4 w5 := bel_trans bni hb
 replace hB := bel_trans hB hbb
 replace g0 := g0.grow hbb
 replace g1 := g1.grow hbb
 replace g5 := g5.grow hbb
 replace g6 := g6.grow hbb
 replace HS5 := Lib.hid (And.intro (HS5.out.1.mono hbb) (HS5.out.2.mono hbb))
 replace HS6 := Lib.hid (And.intro (HS6.out.1.mono hbb) (HS6.out.2.mono hbb))
 clear hb hbb
 have c_g0 := g0.cell
 have l_g0 := g0.lt
 have c_g1 := g1.cell
 have l_g1 := g1.lt
 have c_g5 := g5.cell
 have l_g5 := g5.lt
 have c_g6 := g6.cell
 have l_g6 := g6.lt
 go_wp2_with fail
 clear c_g0 l_g0
 clear c_g1 l_g1
 clear c_g5 l_g5
 clear c_g6 l_g6
 refine (Same_eq _ (HS5.out.1.mono bni) (HS5.out.2.mono bni) (HS6.out.1.mono bni) (HS6.out.2.mono bni)).mono ?_
 rintro e w6 ⟨rfl, hb⟩
 have hbb : Below w5.heap.size w5 w6 := bel_trans bni hb
 replace hB := bel_trans hB hbb
 replace g0 := g0.grow hbb
 replace g1 := g1.grow hbb
 replace g5 := g5.grow hbb
 replace g6 := g6.grow hbb
 replace HS5 := Lib.hid (And.intro (HS5.out.1.mono hbb) (HS5.out.2.mono hbb))
 replace HS6 := Lib.hid (And.intro (HS6.out.1.mono hbb) (HS6.out.2.mono hbb))
 clear hb hbb
 clear HS5
 clear HS6
 have c_g0 := g0.cell
 have l_g0 := g0.lt
 have c_g1 := g1.cell
 have l_g1 := g1.lt
 have c_g5 := g5.cell
 have l_g5 := g5.lt
 have c_g6 := g6.cell
 have l_g6 := g6.lt
 clear c_g5 l_g5
 clear g5
 clear c_g6 l_g6
 clear g6
 go_wp2_with fail
 clear c_g0 l_g0
 clear c_g1 l_g1
 refine (H69.out _ (bel_trans hB bni)).mono ?_
 rintro e w7 ⟨u7, ps7, rfl, m7, L7, hb⟩
 have hbb : Below w6.heap.size w6 w7 := bel_trans bni hb
 replace hB := bel_trans hB hbb
 replace g0 := g0.grow hbb
 replace g1 := g1.grow hbb
 clear hb hbb
 have c_g0 := g0.cell
 have l_g0 := g0.lt
 have c_g1 := g1.cell
 have l_g1 := g1.lt
 have HL7 := Lib.hid (And.intro L7 L7)
 have HM7 := Lib.hid m7
 clear L7 m7
 go_wp2_with fail
 clear c_g0 l_g0
 clear c_g1 l_g1
 refine (H78.out _ (bel_trans hB bni)).mono ?_
 rintro e w8 ⟨u8, ps8, rfl, m8, L8, hb⟩
 have hbb : Below w7.heap.size w7 w8 := bel_trans bni hb
 replace hB := bel_trans hB hbb
 replace g0 := g0.grow hbb
 replace g1 := g1.grow hbb
 replace HL7 := Lib.hid (And.intro (HL7.out.1.mono hbb) (HL7.out.2.mono hbb))
 clear hb hbb
 have c_g0 := g0.cell
 have l_g0 := g0.lt
 have c_g1 := g1.cell
 have l_g1 := g1.lt
 have HL8 := Lib.hid (And.intro L8 L8)
 have HM8 := Lib.hid m8
 clear L8 m8
 go_wp2_with fail
 clear c_g0 l_g0
 clear c_g1 l_g1
 refine (HAL.out _ (bel_trans hB bni)).mono ?_
 rintro e w9 ⟨rfl, hb⟩
 have hbb : Below w8.heap.size w8 w9 := bel_trans bni hb
 replace hB := bel_trans hB hbb
 replace g0 := g0.grow hbb
 replace g1 := g1.grow hbb
 replace HL7 := Lib.hid (And.intro (HL7.out.1.mono hbb) (HL7.out.2.mono hbb))
 replace HL8 := Lib.hid (And.intro (HL8.out.1.mono hbb) (HL8.out.2.mono hbb))
 clear hb hbb
 have c_g0 := g0.cell
 have l_g0 := g0.lt
 have c_g1 := g1.cell
 have l_g1 := g1.lt
 go_wp2_with fail
 clear c_g0 l_g0
 clear c_g1 l_g1
 refine (EqualFunc_same _ _ ps7 ps8 _ (HL7.out.1.mono bni) (HL8.out.1.mono bni) HM7.out HM8.out hSS).mono ?_
 rintro e w10 ⟨rfl, hb⟩
 have hbb : Below w9.heap.size w9 w10 := bel_trans bni hb
 replace hB := bel_trans hB hbb
 replace g0 := g0.grow hbb
 replace g1 := g1.grow hbb
 replace HL7 := Lib.hid (And.intro (HL7.out.1.mono hbb) (HL7.out.2.mono hbb))
 replace HL8 := Lib.hid (And.intro (HL8.out.1.mono hbb) (HL8.out.2.mono hbb))
 clear hb hbb
 have c_g0 := g0.cell
 have l_g0 := g0.lt
 have c_g1 := g1.cell
 have l_g1 := g1.lt
 go_wp2_with fail
 clear c_g0 l_g0
 clear c_g1 l_g1
 refine bodyPost_ret (v := .bool true) (by simp [results, Tryz.results17, go_sem]) rfl ⟨rfl, hB⟩
end Go.Proofs.YtccnkebkgegohaaGreatDoor
end
section
namespace Go.Proofs.YtccnkebkgegohaaGreatDoor
open Go.RowKit Go.Rel
set_option maxRecDepth 100000
theorem normal_part (b1 : Sol) (p1 q1 : Option Addr) (n1 c1 k1 d1 : Nat) (l1 : List Sol) (h : List Ac) (w : World) (S1 : SlS w (.slice p1 n1 c1) l1) (G1 : SlN w (.slice q1 k1 d1) h) (B1 : k1 ≤ d1 ∧ d1 ≤ 9223372036854775807) :
  ∃ (BN : Sol) (LN : List Sol) (MN : List Ac) (EN ES : Int) (SS : List (List Ac)), SS.length ≤ 1048576 ∧ Hid (∀ w', Below w.heap.size w w' → Calls Tryz.prog 55 #[.agg #[.int .u64 (pl b1 0), .int .u64 (pl b1 1), .int .u64 (pl b1 2), .int .u64 (pl b1 3), .int .u64 (pl b1 4), .int .u64 (pl b1 5), .int .u64 (pl b1 6), .int .u64 (pl b1 7), .slice p1 n1 c1, .slice q1 k1 d1]] w' (HRes BN LN MN EN w')) ∧ Hid (∀ w', Below w.heap.size w w' → Calls Tryz.prog 76 #[.agg #[.int .u64 (pl b1 0), .int .u64 (pl b1 1), .int .u64 (pl b1 2), .int .u64 (pl b1 3), .int .u64 (pl b1 4), .int .u64 (pl b1 5), .int .u64 (pl b1 6), .int .u64 (pl b1 7), .slice p1 n1 c1, .slice q1 k1 d1]] w' (HRes BN LN MN EN w')) ∧ Hid (∀ w', Below w.heap.size w w' → Calls Tryz.prog 69 #[.agg #[.int .u64 (pl b1 0), .int .u64 (pl b1 1), .int .u64 (pl b1 2), .int .u64 (pl b1 3), .int .u64 (pl b1 4), .int .u64 (pl b1 5), .int .u64 (pl b1 6), .int .u64 (pl b1 7), .slice p1 n1 c1, .slice q1 k1 d1]] w' (SRes SS ES w')) ∧ Hid (∀ w', Below w.heap.size w w' → Calls Tryz.prog 78 #[.agg #[.int .u64 (pl b1 0), .int .u64 (pl b1 1), .int .u64 (pl b1 2), .int .u64 (pl b1 3), .int .u64 (pl b1 4), .int .u64 (pl b1 5), .int .u64 (pl b1 6), .int .u64 (pl b1 7), .slice p1 n1 c1, .slice q1 k1 d1]] w' (SRes SS ES w')) := by
 have C1 := Lib.hid fun w' (hb : Below w.heap.size w w') => refCheck_spec b1 _ _ l1 h w' (S1.mono hb) (G1.1.mono hb)
 cases hh : begunM b1 l1 h with
 | inl x =>
  have hx := begunM_bad hh
  have hch : checkR b1 l1 h = x := by unfold checkR; rw [hh]
  rw [hch] at C1
  exact ⟨0, [], [], x.2, x.2, [], by simp,
   Lib.hid fun w' hb => (Normal_bad hh w' (S1.mono hb) (G1.1.mono hb)).mono fun e w2 h => by obtain ⟨rfl, h⟩ := h; exact hres_zero h,
   Lib.hid fun w' hb => (refNormal_no b1 p1 q1 n1 c1 k1 d1 _ _ hx w' (hid_on C1 hb)).mono fun e w2 h => by obtain ⟨rfl, h⟩ := h; exact hres_zero h,
   Lib.hid fun w' hb => (Steps_bad hh w' (S1.mono hb) (G1.1.mono hb)).mono fun e w2 h => by obtain ⟨rfl, h⟩ := h; exact sres_nil h,
   Lib.hid fun w' hb => (refSteps_no b1 p1 q1 n1 c1 k1 d1 _ _ hx w' (hid_on C1 hb)).mono fun e w2 h => by obtain ⟨rfl, h⟩ := h; exact sres_nil h⟩
 | inr s =>
  obtain ⟨t, R, _⟩ := Runs.of hh
  have h60 := R.len
  have hk := sl_len G1.1
  have hch : checkR b1 l1 h = (0, 0) := by unfold checkR; rw [hh]
  rw [hch] at C1
  exact ⟨b1, l1, nrm l1 h, 0, 0, stpL l1 h, Nat.le_trans (stpL_len _ (Nat.le_refl _)) (by omega),
   Lib.hid fun w' hb => Normal_r R w' (S1.mono hb) (G1.1.mono hb),
   Lib.hid fun w' hb => refNormal_yes b1 p1 q1 n1 c1 k1 d1 l1 h w' R.fine ⟨B1.1, B1.2, by omega⟩ (Lib.hid (S1.mono hb)) (Lib.hid (G1.mono hb)) (hid_on C1 hb),
   Lib.hid fun w' hb => (Steps_good hh R.fine h60 w' (S1.mono hb) (G1.1.mono hb)).mono fun e w2 h => by obtain ⟨u, ps, rfl, ⟨h1, h2, h3⟩, h4⟩ := h; exact ⟨u, ps, rfl, h1, ⟨h2, h3⟩, h4⟩,
   Lib.hid fun w' hb => (refSteps_yes b1 p1 q1 n1 c1 k1 d1 l1 h w' R.fine (S1.mono hb) (G1.mono hb) ⟨B1.1, B1.2, by omega⟩ (hid_on C1 hb)).mono fun e w2 h => by obtain ⟨u, ps, rfl, ⟨h1, h2, h3⟩, h4⟩ := h; exact ⟨u, ps, rfl, h1, ⟨h2, h3⟩, h4⟩⟩
theorem equal_part (b0 b1 : Sol) (p0 p1 q0 q1 : Option Addr) (n0 n1 c0 c1 k0 k1 d0 d1 : Nat) (l0 l1 : List Sol) (g h : List Ac) (w : World) (S0 : SlS w (.slice p0 n0 c0) l0) (G0 : SlN w (.slice q0 k0 d0) g) (S1 : SlS w (.slice p1 n1 c1) l1) (G1 : SlN w (.slice q1 k1 d1) h) (B0 : k0 ≤ d0 ∧ d0 ≤ 9223372036854775807) (B1 : k1 ≤ d1 ∧ d1 ≤ 9223372036854775807) :
  ∃ (rb : Bool) (E1 : Int), Hid (∀ w', Below w.heap.size w w' → Calls Tryz.prog 42 #[.agg #[.int .u64 (pl b0 0), .int .u64 (pl b0 1), .int .u64 (pl b0 2), .int .u64 (pl b0 3), .int .u64 (pl b0 4), .int .u64 (pl b0 5), .int .u64 (pl b0 6), .int .u64 (pl b0 7), .slice p0 n0 c0, .slice q0 k0 d0], .agg #[.int .u64 (pl b1 0), .int .u64 (pl b1 1), .int .u64 (pl b1 2), .int .u64 (pl b1 3), .int .u64 (pl b1 4), .int .u64 (pl b1 5), .int .u64 (pl b1 6), .int .u64 (pl b1 7), .slice p1 n1 c1, .slice q1 k1 d1]] w' (fun e w'' => e = .returned (.tuple #[.bool rb, .int .i64 E1]) ∧ Below w'.heap.size w' w'')) ∧ Hid (∀ w', Below w.heap.size w w' → Calls Tryz.prog 77 #[.agg #[.int .u64 (pl b0 0), .int .u64 (pl b0 1), .int .u64 (pl b0 2), .int .u64 (pl b0 3), .int .u64 (pl b0 4), .int .u64 (pl b0 5), .int .u64 (pl b0 6), .int .u64 (pl b0 7), .slice p0 n0 c0, .slice q0 k0 d0], .agg #[.int .u64 (pl b1 0), .int .u64 (pl b1 1), .int .u64 (pl b1 2), .int .u64 (pl b1 3), .int .u64 (pl b1 4), .int .u64 (pl b1 5), .int .u64 (pl b1 6), .int .u64 (pl b1 7), .slice p1 n1 c1, .slice q1 k1 d1]] w' (fun e w'' => e = .returned (.tuple #[.bool rb, .int .i64 E1]) ∧ Below w'.heap.size w' w'')) := by
 have C0 := Lib.hid fun w' (hb : Below w.heap.size w w') => refCheck_spec b0 _ _ l0 g w' (S0.mono hb) (G0.1.mono hb)
 have C1 := Lib.hid fun w' (hb : Below w.heap.size w w') => refCheck_spec b1 _ _ l1 h w' (S1.mono hb) (G1.1.mono hb)
 have H124 := Lib.hid fun w' (hb : Below w.heap.size w w') => two124_spec b0 b1 p0 q0 p1 q1 n0 c0 k0 d0 n1 c1 k1 d1 _ _ _ _ w' (hid_on C0 hb) (hid_on C1 hb)
 have H25 := Lib.hid fun w' (hb : Below w.heap.size w w') => SamePattern_spec b0 b1 _ _ l0 l1 w' (S0.mono hb) (S1.mono hb)
 cases hg : begunM b0 l0 g with
 | inl x =>
  have hx := begunM_bad hg
  have hch : checkR b0 l0 g = x := by unfold checkR; rw [hg]
  have hx0 : (x.2 == 0) = false := by simpa using hx
  rw [hch, hx0] at H124
  rw [if_neg Bool.false_ne_true] at H124
  exact ⟨false, x.2, Lib.hid fun w' hb => Equal_e b0 b1 _ _ _ _ x.2 w' (hid_on (Lib.hid fun w' hb => (both_bad1 hg b1 _ _ w' (S0.mono hb) (G0.1.mono hb)).mono fun e w2 h => ⟨⟨_, _, h.1⟩, h.2⟩) hb),
   Lib.hid fun w' hb => refEqual_no b0 b1 p0 q0 p1 q1 n0 c0 k0 d0 n1 c1 k1 d1 x.2 hx w' (hid_on H124 hb)⟩
 | inr s =>
  have hch : checkR b0 l0 g = (0, 0) := by unfold checkR; rw [hg]
  rw [hch] at H124
  rw [show ((((0, 0) : Nat × Int).2 == 0) : Bool) = true from rfl, if_pos rfl] at H124
  cases hh : begunM b1 l1 h with
  | inl x =>
   have hx := begunM_bad hh
   have hch1 : checkR b1 l1 h = x := by unfold checkR; rw [hh]
   rw [hch1] at H124
   exact ⟨false, x.2, Lib.hid fun w' hb => Equal_e b0 b1 _ _ _ _ x.2 w' (hid_on (Lib.hid fun w' hb => (both_bad2 hg hh w' (S0.mono hb) (G0.1.mono hb) (S1.mono hb) (G1.1.mono hb)).mono fun e w2 h => ⟨⟨_, _, h.1⟩, h.2⟩) hb),
    Lib.hid fun w' hb => refEqual_no b0 b1 p0 q0 p1 q1 n0 c0 k0 d0 n1 c1 k1 d1 x.2 hx w' (hid_on H124 hb)⟩
  | inr s2 =>
   have hch1 : checkR b1 l1 h = (0, 0) := by unfold checkR; rw [hh]
   rw [hch1] at H124
   cases e1 : samePat b0 l0 b1 l1 with
   | false =>
    rw [e1] at H25
    exact ⟨false, 0, Lib.hid fun w' hb => Equal_e b0 b1 _ _ _ _ 0 w' (hid_on (Lib.hid fun w' hb => (both_good hg hh w' (S0.mono hb) (G0.1.mono hb) (S1.mono hb) (G1.1.mono hb)).mono fun e w2 h => by obtain ⟨bp, bq, rfl, _, _, h⟩ := h; exact ⟨⟨_, _, by rw [e1]⟩, h⟩) hb),
     Lib.hid fun w' hb => refEqual_other b0 b1 p0 q0 p1 q1 n0 c0 k0 d0 n1 c1 k1 d1 w' (hid_on H124 hb) (hid_on H25 hb)⟩
   | true =>
    rw [e1] at H25
    obtain ⟨rfl, rfl⟩ := samePat_eq e1
    obtain ⟨t, R, _⟩ := Runs.of hg
    obtain ⟨t2, R2, _⟩ := Runs.of hh
    have hk0 := sl_len G0.1
    have hk1 := sl_len G1.1
    have h60 := R.len
    have h61 := R2.len
    exact ⟨_, 0, Lib.hid fun w' hb => Equal_r R R2 w' (S0.mono hb) (G0.1.mono hb) (S1.mono hb) (G1.1.mono hb),
     Lib.hid fun w' hb => refEqual_yes b1 b1 p0 q0 p1 q1 n0 c0 k0 d0 n1 c1 k1 d1 l1 l1 g h R.fine R2.fine ⟨B0.1, B0.2, by omega⟩ ⟨B1.1, B1.2, by omega⟩ w' (Lib.hid (S0.mono hb)) (Lib.hid (G0.mono hb)) (Lib.hid (S1.mono hb)) (Lib.hid (G1.mono hb)) (hid_on H124 hb) (hid_on H25 hb)⟩
theorem TraceNormal_walk (b0 : Sol) (u0 : Value) (l0 : List Sol) (av0 : Value) (g : List Ac) (b1 : Sol) (u1 : Value) (l1 : List Sol) (av1 : Value) (h : List Ac) (w : World)
  (S0 : SlS w u0 l0) (A0 : SlA w av0 g) (N0 : ∀ n c, av0 = .slice none n c → c = 0) (S1 : SlS w u1 l1) (A1 : SlA w av1 h) (N1 : ∀ n c, av1 = .slice none n c → c = 0) (hT : w.cell? ⟨5, 15, none⟩ = some (.int .u8 4)) :
  Calls Tryz.prog 17 #[.agg #[.int .u64 (pl b0 0), .int .u64 (pl b0 1), .int .u64 (pl b0 2), .int .u64 (pl b0 3), .int .u64 (pl b0 4), .int .u64 (pl b0 5), .int .u64 (pl b0 6), .int .u64 (pl b0 7), u0, av0], .agg #[.int .u64 (pl b1 0), .int .u64 (pl b1 1), .int .u64 (pl b1 2), .int .u64 (pl b1 3), .int .u64 (pl b1 4), .int .u64 (pl b1 5), .int .u64 (pl b1 6), .int .u64 (pl b1 7), u1, av1]] w fun e w' => e = .returned (.bool true) ∧ Below w.heap.size w w' := by
 have HAL := alive_h w hT
 have G0 : SlN w av0 g := ⟨A0, N0⟩
 have G1 : SlN w av1 h := ⟨A1, N1⟩
 have T0 := S0
 have T1 := S1
 have X0 := A0
 have X1 := A1
 obtain ⟨p0, c0, rfl, _, _⟩ := T0
 obtain ⟨p1, c1, rfl, _, _⟩ := T1
 obtain ⟨q0, d0, rfl, hkd0, hdM0⟩ := X0
 obtain ⟨q1, d1, rfl, hkd1, hdM1⟩ := X1
 generalize (g.map acL).length = k0 at *
 generalize (h.map acL).length = k1 at *
 generalize (l0.map solL).length = n0 at *
 generalize (l1.map solL).length = n1 at *
 cases hm : (many k0 n0 || many k1 n1) with
 | true => exact TraceNormal_many b0 b1 p0 p1 q0 q1 n0 n1 c0 c1 k0 k1 d0 d1 w hm HAL
 | false =>
  obtain ⟨BN, LN, MN, EN, ES, SS, hSS, H55, H76, H69, H78⟩ := normal_part b1 p1 q1 n1 c1 k1 d1 l1 h w S1 G1 ⟨hkd1, hdM1.1⟩
  obtain ⟨rb, E1, H42, H77⟩ := equal_part b0 b1 p0 p1 q0 q1 n0 n1 c0 c1 k0 k1 d0 d1 l0 l1 g h w S0 G0 S1 G1 ⟨hkd0, hdM0.1⟩ ⟨hkd1, hdM1.1⟩
  exact TraceNormal_main b0 b1 p0 p1 q0 q1 n0 n1 c0 c1 k0 k1 d0 d1 w hm rb BN LN MN EN E1 ES SS hSS H55 H76 H42 H77 H69 H78 HAL
end Go.Proofs.YtccnkebkgegohaaGreatDoor
end
