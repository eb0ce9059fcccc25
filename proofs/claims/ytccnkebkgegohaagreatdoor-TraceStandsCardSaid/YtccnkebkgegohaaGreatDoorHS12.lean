import Derived.Test.YtccnkebkgegohaaGreatDoorHS10
/-
  Given contracts of functions of the program, and laws for them, one behind the other.
-/
set_option linter.unusedVariables false
set_option linter.unusedSimpArgs false
set_option linter.unusedSectionVars false
section
namespace Go.Proofs.YtccnkebkgegohaaGreatDoor
open Go.RowKit Go.Rel
set_option maxRecDepth 100000
set_option maxHeartbeats 8000000 in
theorem TraceStands_many (b : Sol) (p0 q0 : Option Addr) (n0 c0 k0 d0 : Nat) (a : Ac) (w : World) (hm : many k0 n0 = true) (HAL : AliveH w) :
    Calls Tryz.prog 6 #[.agg #[.int .u64 (pl b 0), .int .u64 (pl b 1), .int .u64 (pl b 2), .int .u64 (pl b 3), .int .u64 (pl b 4), .int .u64 (pl b 5), .int .u64 (pl b 6), .int .u64 (pl b 7), .slice p0 n0 c0, .slice q0 k0 d0], .agg #[.int .u8 a.1, .int .i64 a.2.1, .int .u64 (pl a.2.2 0), .int .u64 (pl a.2.2 1), .int .u64 (pl a.2.2 2), .int .u64 (pl a.2.2 3), .int .u64 (pl a.2.2 4), .int .u64 (pl a.2.2 5), .int .u64 (pl a.2.2 6), .int .u64 (pl a.2.2 7)]] w fun e w' => e = .returned (.bool true) ∧ Below w.heap.size w w' := by
  go_enter Tryz.func6, Tryz.ntmps6
  go_wp2_with fail
  refine (few1 (b := b) (p := p0) (q := q0) (n := n0) (c := c0) (k := k0) (d := d0) (t := 30) _ bks_by).mono ?_
  rw [hm]
  rintro e w1 ⟨rfl, hb⟩
  have g0 : Blk w1 (w.heap.size) #[.int .u64 (pl b 0), .int .u64 (pl b 1), .int .u64 (pl b 2), .int .u64 (pl b 3), .int .u64 (pl b 4), .int .u64 (pl b 5), .int .u64 (pl b 6), .int .u64 (pl b 7), .slice p0 n0 c0, .slice q0 k0 d0] 30 := Blk.grow bks_by hb
  have g1 : Blk w1 (w.heap.size + 1) #[.int .u8 a.1, .int .i64 a.2.1, .int .u64 (pl a.2.2 0), .int .u64 (pl a.2.2 1), .int .u64 (pl a.2.2 2), .int .u64 (pl a.2.2 3), .int .u64 (pl a.2.2 4), .int .u64 (pl a.2.2 5), .int .u64 (pl a.2.2 6), .int .u64 (pl a.2.2 7)] 46 := Blk.grow bks_by hb
  have hB : Below w.heap.size w w1 := bel_trans bni hb
  clear hb
  have c_g0 := g0.cell
  have l_g0 := g0.lt
  have c_g1 := g1.cell
  have l_g1 := g1.lt
  go_wp2_with fail
  clear c_g0 l_g0
  clear c_g1 l_g1
  refine (HAL.out _ (bel_trans hB bni)).mono ?_
  rintro e w2 ⟨rfl, hb⟩
  have hbb : Below w1.heap.size w1 w2 := bel_trans bni hb
  replace hB := bel_trans hB hbb
  replace g0 := g0.grow hbb
  replace g1 := g1.grow hbb
  clear hb hbb
  have c_g0 := g0.cell
  have l_g0 := g0.lt
  have c_g1 := g1.cell
  have l_g1 := g1.lt
  go_wp2_with fail
  clear c_g0 l_g0
  clear c_g1 l_g1
  refine bodyPost_ret (v := .bool true) (by simp [results, Tryz.results6, go_sem]) rfl ⟨rfl, hB⟩
set_option maxHeartbeats 8000000 in
theorem TraceStands_main (b : Sol) (p0 q0 : Option Addr) (n0 c0 k0 d0 : Nat) (a : Ac) (w : World) (hm : many k0 n0 = false) (x y : Int) (s : Sol) (o : Int) (B : Sol) (L : List Sol) (M : List Ac) (E : Int) (H27 : Hid (∀ w', Below w.heap.size w w' → Calls Tryz.prog 27 #[.agg #[.int .u64 (pl b 0), .int .u64 (pl b 1), .int .u64 (pl b 2), .int .u64 (pl b 3), .int .u64 (pl b 4), .int .u64 (pl b 5), .int .u64 (pl b 6), .int .u64 (pl b 7), .slice p0 n0 c0, .slice q0 k0 d0]] w' fun e w'' => e = .returned (.tuple #[.int .i64 x, .int .i64 y]) ∧ Below w'.heap.size w' w'')) (H38 : Hid (∀ w', Below w.heap.size w w' → Calls Tryz.prog 38 #[.agg #[.int .u64 (pl b 0), .int .u64 (pl b 1), .int .u64 (pl b 2), .int .u64 (pl b 3), .int .u64 (pl b 4), .int .u64 (pl b 5), .int .u64 (pl b 6), .int .u64 (pl b 7), .slice p0 n0 c0, .slice q0 k0 d0]] w' fun e w'' => e = .returned (.tuple #[.int .i64 x, .int .i64 y]) ∧ Below w'.heap.size w' w'')) (H22 : Hid (∀ w', Below w.heap.size w w' → Calls Tryz.prog 22 #[.agg #[.int .u64 (pl b 0), .int .u64 (pl b 1), .int .u64 (pl b 2), .int .u64 (pl b 3), .int .u64 (pl b 4), .int .u64 (pl b 5), .int .u64 (pl b 6), .int .u64 (pl b 7), .slice p0 n0 c0, .slice q0 k0 d0]] w' fun e w'' => e = .returned (.tuple #[.agg #[.int .u64 (pl s 0), .int .u64 (pl s 1), .int .u64 (pl s 2), .int .u64 (pl s 3), .int .u64 (pl s 4), .int .u64 (pl s 5), .int .u64 (pl s 6), .int .u64 (pl s 7), .int .u8 o], .int .i64 y]) ∧ Below w'.heap.size w' w'')) (H39 : Hid (∀ w', Below w.heap.size w w' → Calls Tryz.prog 39 #[.agg #[.int .u64 (pl b 0), .int .u64 (pl b 1), .int .u64 (pl b 2), .int .u64 (pl b 3), .int .u64 (pl b 4), .int .u64 (pl b 5), .int .u64 (pl b 6), .int .u64 (pl b 7), .slice p0 n0 c0, .slice q0 k0 d0]] w' fun e w'' => e = .returned (.tuple #[.agg #[.int .u64 (pl s 0), .int .u64 (pl s 1), .int .u64 (pl s 2), .int .u64 (pl s 3), .int .u64 (pl s 4), .int .u64 (pl s 5), .int .u64 (pl s 6), .int .u64 (pl s 7), .int .u8 o], .int .i64 y]) ∧ Below w'.heap.size w' w'')) (H40 : Hid (∀ w', Below w.heap.size w w' → Calls Tryz.prog 40 #[.agg #[.int .u64 (pl b 0), .int .u64 (pl b 1), .int .u64 (pl b 2), .int .u64 (pl b 3), .int .u64 (pl b 4), .int .u64 (pl b 5), .int .u64 (pl b 6), .int .u64 (pl b 7), .slice p0 n0 c0, .slice q0 k0 d0], .agg #[.int .u8 a.1, .int .i64 a.2.1, .int .u64 (pl a.2.2 0), .int .u64 (pl a.2.2 1), .int .u64 (pl a.2.2 2), .int .u64 (pl a.2.2 3), .int .u64 (pl a.2.2 4), .int .u64 (pl a.2.2 5), .int .u64 (pl a.2.2 6), .int .u64 (pl a.2.2 7)]] w' (HRes B L M E w'))) (H41 : Hid (∀ w', Below w.heap.size w w' → Calls Tryz.prog 41 #[.agg #[.int .u64 (pl b 0), .int .u64 (pl b 1), .int .u64 (pl b 2), .int .u64 (pl b 3), .int .u64 (pl b 4), .int .u64 (pl b 5), .int .u64 (pl b 6), .int .u64 (pl b 7), .slice p0 n0 c0, .slice q0 k0 d0], .agg #[.int .u8 a.1, .int .i64 a.2.1, .int .u64 (pl a.2.2 0), .int .u64 (pl a.2.2 1), .int .u64 (pl a.2.2 2), .int .u64 (pl a.2.2 3), .int .u64 (pl a.2.2 4), .int .u64 (pl a.2.2 5), .int .u64 (pl a.2.2 6), .int .u64 (pl a.2.2 7)]] w' (HRes B L M E w'))) (HAL : AliveH w) :
    Calls Tryz.prog 6 #[.agg #[.int .u64 (pl b 0), .int .u64 (pl b 1), .int .u64 (pl b 2), .int .u64 (pl b 3), .int .u64 (pl b 4), .int .u64 (pl b 5), .int .u64 (pl b 6), .int .u64 (pl b 7), .slice p0 n0 c0, .slice q0 k0 d0], .agg #[.int .u8 a.1, .int .i64 a.2.1, .int .u64 (pl a.2.2 0), .int .u64 (pl a.2.2 1), .int .u64 (pl a.2.2 2), .int .u64 (pl a.2.2 3), .int .u64 (pl a.2.2 4), .int .u64 (pl a.2.2 5), .int .u64 (pl a.2.2 6), .int .u64 (pl a.2.2 7)]] w fun e w' => e = .returned (.bool true) ∧ Below w.heap.size w w' := by
  go_enter Tryz.func6, Tryz.ntmps6
  go_wp2_with fail
  refine (few1 (b := b) (p := p0) (q := q0) (n := n0) (c := c0) (k := k0) (d := d0) (t := 30) _ bks_by).mono ?_
  rw [hm]
  rintro e w1 ⟨rfl, hb⟩
  have g0 : Blk w1 (w.heap.size) #[.int .u64 (pl b 0), .int .u64 (pl b 1), .int .u64 (pl b 2), .int .u64 (pl b 3), .int .u64 (pl b 4), .int .u64 (pl b 5), .int .u64 (pl b 6), .int .u64 (pl b 7), .slice p0 n0 c0, .slice q0 k0 d0] 30 := Blk.grow bks_by hb
  have g1 : Blk w1 (w.heap.size + 1) #[.int .u8 a.1, .int .i64 a.2.1, .int .u64 (pl a.2.2 0), .int .u64 (pl a.2.2 1), .int .u64 (pl a.2.2 2), .int .u64 (pl a.2.2 3), .int .u64 (pl a.2.2 4), .int .u64 (pl a.2.2 5), .int .u64 (pl a.2.2 6), .int .u64 (pl a.2.2 7)] 46 := Blk.grow bks_by hb
  have hB : Below w.heap.size w w1 := bel_trans bni hb
  clear hb
  have c_g0 := g0.cell
  have l_g0 := g0.lt
  have c_g1 := g1.cell
  have l_g1 := g1.lt
  go_wp2_with fail
  clear c_g0 l_g0
  clear c_g1 l_g1
  refine (H27.out _ (bel_trans hB bni)).mono ?_
  rintro e w2 ⟨rfl, hb⟩
  have hbb : Below w1.heap.size w1 w2 := bel_trans bni hb
  replace hB := bel_trans hB hbb
  replace g0 := g0.grow hbb
  replace g1 := g1.grow hbb
  clear hb hbb
  have c_g0 := g0.cell
  have l_g0 := g0.lt
  have c_g1 := g1.cell
  have l_g1 := g1.lt
  go_wp2_with fail
  clear c_g0 l_g0
  clear c_g1 l_g1
  refine (H38.out _ (bel_trans hB bni)).mono ?_
  rintro e w3 ⟨rfl, hb⟩
  have hbb : Below w2.heap.size w2 w3 := bel_trans bni hb
  replace hB := bel_trans hB hbb
  replace g0 := g0.grow hbb
  replace g1 := g1.grow hbb
  clear hb hbb
  have c_g0 := g0.cell
  have l_g0 := g0.lt
  have c_g1 := g1.cell
  have l_g1 := g1.lt
  go_wp2_with fail
  clear c_g0 l_g0
  clear c_g1 l_g1
  refine (H22.out _ (bel_trans hB bni)).mono ?_
  rintro e w4 ⟨rfl, hb⟩
  have hbb : Below w3.heap.size w3 w4 := bel_trans bni hb
  replace hB := bel_trans hB hbb
  replace g0 := g0.grow hbb
  replace g1 := g1.grow hbb
  clear hb hbb
  have c_g0 := g0.cell
  have l_g0 := g0.lt
  have c_g1 := g1.cell
  have l_g1 := g1.lt
  go_wp2_with fail
  clear c_g0 l_g0
  clear c_g1 l_g1
  refine (H39.out _ (bel_trans hB bni)).mono ?_
  rintro e w5 ⟨rfl, hb⟩
  have g9 : Blk w5 (w4.heap.size) #[.int .u64 (pl s 0), .int .u64 (pl s 1), .int .u64 (pl s 2), .int .u64 (pl s 3), .int .u64 (pl s 4), .int .u64 (pl s 5), .int .u64 (pl s 6), .int .u64 (pl s 7), .int .u8 o] 37 := Blk.grow bks_by hb
  have hbb : Below w4.heap.size w4 w5 := bel_trans bni hb
  replace hB := bel_trans hB hbb
  replace g0 := g0.grow hbb
  replace g1 := g1.grow hbb
  clear hb hbb
  generalize w4.heap.size = B5 at *
  have c_g0 := g0.cell
  have l_g0 := g0.lt
  have c_g1 := g1.cell
  have l_g1 := g1.lt
  have c_g9 := g9.cell
  have l_g9 := g9.lt
  go_wp2_with fail
  clear c_g0 l_g0
  clear c_g1 l_g1
  clear c_g9 l_g9
  refine (H40.out _ (bel_trans hB bni)).mono ?_
  rintro e w6 ⟨p7, n7, c7, q7, k7, d7, rfl, S7, A7, hb⟩
  have g11 : Blk w6 (w5.heap.size) #[.int .u64 (pl s 0), .int .u64 (pl s 1), .int .u64 (pl s 2), .int .u64 (pl s 3), .int .u64 (pl s 4), .int .u64 (pl s 5), .int .u64 (pl s 6), .int .u64 (pl s 7), .int .u8 o] 37 := Blk.grow bks_by hb
  have hbb : Below w5.heap.size w5 w6 := bel_trans bni hb
  replace hB := bel_trans hB hbb
  replace g0 := g0.grow hbb
  replace g1 := g1.grow hbb
  replace g9 := g9.grow hbb
  clear hb hbb
  generalize w5.heap.size = B6 at *
  have HS7 := Lib.hid (And.intro S7 A7)
  clear S7 A7
  have c_g0 := g0.cell
  have l_g0 := g0.lt
  have c_g1 := g1.cell
  have l_g1 := g1.lt
  have c_g9 := g9.cell
  have l_g9 := g9.lt
  have c_g11 := g11.cell
  have l_g11 := g11.lt
  go_wp2_with fail
  clear c_g0 l_g0
  clear c_g1 l_g1
  clear c_g9 l_g9
  clear c_g11 l_g11
  refine (H41.out _ (bel_trans hB bni)).mono ?_
  rintro e w7 ⟨p8, n8, c8, q8, k8, d8, rfl, S8, A8, hb⟩
  have g13 : Blk w7 (w6.heap.size) #[.int .u64 (pl B 0), .int .u64 (pl B 1), .int .u64 (pl B 2), .int .u64 (pl B 3), .int .u64 (pl B 4), .int .u64 (pl B 5), .int .u64 (pl B 6), .int .u64 (pl B 7), .slice p7 n7 c7, .slice q7 k7 d7] 30 := Blk.grow bks_by hb
  have hbb : Below w6.heap.size w6 w7 := bel_trans bni hb
  replace hB := bel_trans hB hbb
  replace g0 := g0.grow hbb
  replace g1 := g1.grow hbb
  replace g9 := g9.grow hbb
  replace g11 := g11.grow hbb
  replace HS7 := Lib.hid (And.intro (HS7.out.1.mono hbb) (HS7.out.2.mono hbb))
  clear hb hbb
  generalize w6.heap.size = B7 at *
  have HS8 := Lib.hid (And.intro S8 A8)
  clear S8 A8
  have c_g0 := g0.cell
  have l_g0 := g0.lt
  have c_g1 := g1.cell
  have l_g1 := g1.lt
  have c_g9 := g9.cell
  have l_g9 := g9.lt
  have c_g11 := g11.cell
  have l_g11 := g11.lt
  have c_g13 := g13.cell
  have l_g13 := g13.lt
  go_wp2_with fail
  clear c_g0 l_g0
  clear c_g1 l_g1
  clear c_g9 l_g9
  clear c_g11 l_g11
  clear c_g13 l_g13
  refine (HAL.out _ (bel_trans hB bni)).mono ?_
  rintro e w8 ⟨rfl, hb⟩
  have g15 : Blk w8 (w7.heap.size) #[.int .u64 (pl B 0), .int .u64 (pl B 1), .int .u64 (pl B 2), .int .u64 (pl B 3), .int .u64 (pl B 4), .int .u64 (pl B 5), .int .u64 (pl B 6), .int .u64 (pl B 7), .slice p8 n8 c8, .slice q8 k8 d8] 30 := Blk.grow bks_by hb
  have hbb : Below w7.heap.size w7 w8 := bel_trans bni hb
  replace hB := bel_trans hB hbb
  replace g0 := g0.grow hbb
  replace g1 := g1.grow hbb
  replace g9 := g9.grow hbb
  replace g11 := g11.grow hbb
  replace g13 := g13.grow hbb
  replace HS7 := Lib.hid (And.intro (HS7.out.1.mono hbb) (HS7.out.2.mono hbb))
  replace HS8 := Lib.hid (And.intro (HS8.out.1.mono hbb) (HS8.out.2.mono hbb))
  clear hb hbb
  generalize w7.heap.size = B8 at *
  have c_g0 := g0.cell
  have l_g0 := g0.lt
  have c_g1 := g1.cell
  have l_g1 := g1.lt
  have c_g9 := g9.cell
  have l_g9 := g9.lt
  have c_g11 := g11.cell
  have l_g11 := g11.lt
  have c_g13 := g13.cell
  have l_g13 := g13.lt
  have c_g15 := g15.cell
  have l_g15 := g15.lt
  go_wp2_with fail
  clear c_g0 l_g0
  clear c_g1 l_g1
  clear c_g9 l_g9
  clear c_g11 l_g11
  clear c_g13 l_g13
  clear c_g15 l_g15
  refine (Same_eq _ (HS7.out.1.mono bni) (HS7.out.2.mono bni) (HS8.out.1.mono bni) (HS8.out.2.mono bni)).mono ?_
  rintro e w9 ⟨rfl, hb⟩
  have hbb : Below w8.heap.size w8 w9 := bel_trans bni hb
  replace hB := bel_trans hB hbb
  replace g0 := g0.grow hbb
  replace g1 := g1.grow hbb
  replace g9 := g9.grow hbb
  replace g11 := g11.grow hbb
  replace g13 := g13.grow hbb
  replace g15 := g15.grow hbb
  replace HS7 := Lib.hid (And.intro (HS7.out.1.mono hbb) (HS7.out.2.mono hbb))
  replace HS8 := Lib.hid (And.intro (HS8.out.1.mono hbb) (HS8.out.2.mono hbb))
  clear hb hbb
  have c_g0 := g0.cell
  have l_g0 := g0.lt
  have c_g1 := g1.cell
  have l_g1 := g1.lt
  have c_g9 := g9.cell
  have l_g9 := g9.lt
  have c_g11 := g11.cell
  have l_g11 := g11.lt
  have c_g13 := g13.cell
  have l_g13 := g13.lt
  have c_g15 := g15.cell
  have l_g15 := g15.lt
  go_wp2_with fail
  clear c_g0 l_g0
  clear c_g1 l_g1
  clear c_g9 l_g9
  clear c_g11 l_g11
  clear c_g13 l_g13
  clear c_g15 l_g15
  refine bodyPost_ret (v := .bool true) (by simp [results, Tryz.results6, go_sem]) rfl ⟨rfl, hB⟩
theorem TraceStands_walk (b0 : Sol) (u0 : Value) (l0 : List Sol) (av0 : Value) (g : List Ac) (a : Ac) (w : World)
    (S0 : SlS w u0 l0) (A0 : SlA w av0 g) (N0 : ∀ n c, av0 = .slice none n c → c = 0) (hT : w.cell? ⟨5, 15, none⟩ = some (.int .u8 4)) :
    Calls Tryz.prog 6 #[.agg #[.int .u64 (pl b0 0), .int .u64 (pl b0 1), .int .u64 (pl b0 2), .int .u64 (pl b0 3), .int .u64 (pl b0 4), .int .u64 (pl b0 5), .int .u64 (pl b0 6), .int .u64 (pl b0 7), u0, av0], .agg #[.int .u8 a.1, .int .i64 a.2.1, .int .u64 (pl a.2.2 0), .int .u64 (pl a.2.2 1), .int .u64 (pl a.2.2 2), .int .u64 (pl a.2.2 3), .int .u64 (pl a.2.2 4), .int .u64 (pl a.2.2 5), .int .u64 (pl a.2.2 6), .int .u64 (pl a.2.2 7)]] w fun e w' => e = .returned (.bool true) ∧ Below w.heap.size w w' := by
  have HAL := alive_h w hT
  have HN : Hid (SlN w av0 g) := Lib.hid ⟨A0, N0⟩
  have T0 := S0
  have X0 := A0
  obtain ⟨p0, c0, rfl, _, _⟩ := T0
  obtain ⟨q0, d0, rfl, _, _⟩ := X0
  have hk0 : (g.map acL).length = g.length := List.length_map ..
  generalize (g.map acL).length = k0 at *
  generalize (l0.map solL).length = n0 at *
  cases hm : many k0 n0 with
  | true => exact TraceStands_many b0 p0 q0 n0 c0 k0 d0 a w hm HAL
  | false =>
    obtain ⟨s, o, hs⟩ := runT_sol (begunM b0 l0 g)
    have H27 := Lib.hid fun w' (hb : Below w.heap.size w w') => Check_spec b0 _ _ l0 g w' (S0.mono hb) (A0.mono hb)
    have H38 := Lib.hid fun w' (hb : Below w.heap.size w w') => refCheck_spec b0 _ _ l0 g w' (S0.mono hb) (A0.mono hb)
    have H22 := Lib.hid fun w' (hb : Below w.heap.size w w') => Stand_v b0 _ _ l0 g w' (S0.mono hb) (A0.mono hb)
    have H39 := Lib.hid fun w' (hb : Below w.heap.size w w') => refStand_spec b0 _ _ l0 g w' (S0.mono hb) (A0.mono hb)
    rw [hs] at H22 H39
    have H40 := Lib.hid fun w' (hb : Below w.heap.size w w') => Act_spec b0 _ _ l0 g a w' (S0.mono hb) (HN.out.mono hb)
    have H41 := Lib.hid fun w' (hb : Below w.heap.size w w') => refAct_spec b0 _ _ l0 g a w' (S0.mono hb) (HN.out.mono hb)
    unfold ActRes at H40 H41
    by_cases hE : actE b0 l0 g a = 0
    · simp only [hE, if_true] at H40 H41
      exact TraceStands_main b0 p0 q0 n0 c0 k0 d0 a w hm _ _ s o _ _ _ _ H27 H38 H22 H39 H40 H41 HAL
    · simp only [hE, if_false] at H40 H41
      exact TraceStands_main b0 p0 q0 n0 c0 k0 d0 a w hm _ _ s o _ _ _ _ H27 H38 H22 H39 H40 H41 HAL
end Go.Proofs.YtccnkebkgegohaaGreatDoor
end
