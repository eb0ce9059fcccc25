import Derived.Test.YtccnkebkgegohaaGreatDoorHV12
/-
  Given contracts of functions of the program, and laws for them, one behind the other.
-/
set_option linter.unusedVariables false
set_option linter.unusedSimpArgs false
set_option linter.unusedSectionVars false
section
namespace Go.Proofs.YtccnkebkgegohaaGreatDoor
open Go.RowKit Go.Rel
set_option maxRecDepth 100000
set_option maxHeartbeats 8000000 in
theorem TraceTurns_many (b : Sol) (p0 q0 : Option Addr) (n0 c0 k0 d0 : Nat) (i : Int) (w : World) (hm : many k0 n0 = true) (HAL : AliveH w) :
  Calls Tryz.prog 11 #[.agg #[.int .u64 (pl b 0), .int .u64 (pl b 1), .int .u64 (pl b 2), .int .u64 (pl b 3), .int .u64 (pl b 4), .int .u64 (pl b 5), .int .u64 (pl b 6), .int .u64 (pl b 7), .slice p0 n0 c0, .slice q0 k0 d0], .int .i64 i] w fun e w' => e = .returned (.bool true) ∧ Below w.heap.size w w' := by
 go_enter Tryz.func11, Tryz.ntmps11
 go_wp2_with fail
 refine (few1 (b := b) (p := p0) (q := q0) (n := n0) (c := c0) (k := k0) (d := d0) (t := 30) _ bks_by).mono ?_
 rw [hm]
 rintro e w1 ⟨rfl, hb⟩
 have g0 : Blk w1 (w.heap.size) #[.int .u64 (pl b 0), .int .u64 (pl b 1), .int .u64 (pl b 2), .int .u64 (pl b 3), .int .u64 (pl b 4), .int .u64 (pl b 5), .int .u64 (pl b 6), .int .u64 (pl b 7), .slice p0 n0 c0, .slice q0 k0 d0] 30 := Blk.grow bks_by hb
 have hB : Below w.heap.size w w1 := bel_trans bni hb
 clear hb
 have c_g0 := g0.cell
 have l_g0 := g0.lt
 go_wp2_with fail
 clear c_g0 l_g0
 refine (HAL.out _ (bel_trans hB bni)).mono ?_
 rintro e w2 ⟨rfl, hb⟩
 have hbb : Below w1.heap.size w1 w2 := bel_trans bni hb
 replace hB := bel_trans hB hbb
 replace g0 := g0.grow hbb
 clear hb hbb
 have c_g0 := g0.cell
 have l_g0 := g0.lt
 go_wp2_with fail
 clear c_g0 l_g0
 refine bodyPost_ret (v := .bool true) (by simp [results, Tryz.results11, go_sem]) rfl ⟨rfl, hB⟩
set_option maxHeartbeats 8000000 in
theorem TraceTurns_main (b : Sol) (p0 q0 : Option Addr) (n0 c0 k0 d0 : Nat) (i : Int) (w : World) (hm : many k0 n0 = false) (B1 B2 : Sol) (L1 L2 : List Sol) (M1 M2 : List Ac) (E1 E2 : Int) (H57 : Hid (∀ w', Below w.heap.size w w' → Calls Tryz.prog 57 #[.agg #[.int .u64 (pl b 0), .int .u64 (pl b 1), .int .u64 (pl b 2), .int .u64 (pl b 3), .int .u64 (pl b 4), .int .u64 (pl b 5), .int .u64 (pl b 6), .int .u64 (pl b 7), .slice p0 n0 c0, .slice q0 k0 d0], .int .i64 i] w' (HRes B1 L1 M1 E1 w'))) (H58 : Hid (∀ w', Below w.heap.size w w' → Calls Tryz.prog 58 #[.agg #[.int .u64 (pl b 0), .int .u64 (pl b 1), .int .u64 (pl b 2), .int .u64 (pl b 3), .int .u64 (pl b 4), .int .u64 (pl b 5), .int .u64 (pl b 6), .int .u64 (pl b 7), .slice p0 n0 c0, .slice q0 k0 d0], .int .i64 i] w' (HRes B1 L1 M1 E1 w'))) (H21 : Hid (∀ w', Below w.heap.size w w' → Calls Tryz.prog 21 #[.agg #[.int .u64 (pl b 0), .int .u64 (pl b 1), .int .u64 (pl b 2), .int .u64 (pl b 3), .int .u64 (pl b 4), .int .u64 (pl b 5), .int .u64 (pl b 6), .int .u64 (pl b 7), .slice p0 n0 c0, .slice q0 k0 d0]] w' (HRes B2 L2 M2 E2 w'))) (H59 : Hid (∀ w', Below w.heap.size w w' → Calls Tryz.prog 59 #[.agg #[.int .u64 (pl b 0), .int .u64 (pl b 1), .int .u64 (pl b 2), .int .u64 (pl b 3), .int .u64 (pl b 4), .int .u64 (pl b 5), .int .u64 (pl b 6), .int .u64 (pl b 7), .slice p0 n0 c0, .slice q0 k0 d0]] w' (HRes B2 L2 M2 E2 w'))) (HAL : AliveH w) :
  Calls Tryz.prog 11 #[.agg #[.int .u64 (pl b 0), .int .u64 (pl b 1), .int .u64 (pl b 2), .int .u64 (pl b 3), .int .u64 (pl b 4), .int .u64 (pl b 5), .int .u64 (pl b 6), .int .u64 (pl b 7), .slice p0 n0 c0, .slice q0 k0 d0], .int .i64 i] w fun e w' => e = .returned (.bool true) ∧ Below w.heap.size w w' := by
 go_enter Tryz.func11, Tryz.ntmps11
 go_wp2_with fail
 refine (few1 (b := b) (p := p0) (q := q0) (n := n0) (c := c0) (k := k0) (d := d0) (t := 30) _ bks_by).mono ?_
 rw [hm]
 rintro e w1 ⟨rfl, hb⟩
 have g0 : Blk w1 (w.heap.size) #[.int .u64 (pl b 0), .int .u64 (pl b 1), .int .u64 (pl b 2), .int .u64 (pl b 3), .int .u64 (pl b 4), .int .u64 (pl b 5), .int .u64 (pl b 6), .int .u64 (pl b 7), .slice p0 n0 c0, .slice q0 k0 d0] 30 := Blk.grow bks_by hb
 have hB : Below w.heap.size w w1 := bel_trans bni hb
 clear hb
 have c_g0 := g0.cell
 have l_g0 := g0.lt
 go_wp2_with fail
 clear c_g0 l_g0
 refine (H57.out _ (bel_trans hB bni)).mono ?_
 rintro e w2 ⟨p5, n5, c5, q5, k5, d5, rfl, S5, A5, hb⟩
 have hbb : Below w1.heap.size w1 w2 := bel_trans bni hb
 replace hB := bel_trans hB hbb
 replace g0 := g0.grow hbb
 clear hb hbb
 have HS5 := Lib.hid (And.intro S5 A5)
 clear S5 A5
 have c_g0 := g0.cell
 have l_g0 := g0.lt
 go_wp2_with fail
 clear c_g0 l_g0
 refine (H58.out _ (bel_trans hB bni)).mono ?_
 rintro e w3 ⟨p6, n6, c6, q6, k6, d6, rfl, S6, A6, hb⟩
 have g5 : Blk w3 (w2.heap.size) #[.int .u64 (pl B1 0), .int .u64 (pl B1 1), .int .u64 (pl B1 2), .int .u64 (pl B1 3), .int .u64 (pl B1 4), .int .u64 (pl B1 5), .int .u64 (pl B1 6), .int .u64 (pl B1 7), .slice p5 n5 c5, .slice q5 k5 d5] 30 := Blk.grow bks_by hb
 have hbb : Below w2.heap.size w2 w3 := bel_trans bni hb
 replace hB := bel_trans hB hbb
 replace g0 := g0.grow hbb
 replace HS5 := Lib.hid (And.intro (HS5.out.1.mono hbb) (HS5.out.2.mono hbb))
 clear hb hbb
 generalize w2.heap.size = B3 at *
 have HS6 := Lib.hid (And.intro S6 A6)
 clear S6 A6
 have c_g0 := g0.cell
 have l_g0 := g0.lt
 have c_g5 := g5.cell
 have l_g5 := g5.lt
 go_wp2_with fail
 clear c_g0 l_g0
 clear c_g5 l_g5
 refine (H21.out _ (bel_trans hB bni)).mono ?_
 rintro e w4 ⟨p7, n7, c7, q7, k7, d7, rfl, S7, A7, hb⟩
 have g7 : Blk w4 (w3.heap.size) #[.int .u64 (pl B1 0), .int .u64 (pl B1 1), .int .u64 (pl B1 2), .int .u64 (pl B1 3), .int .u64 (pl B1 4), .int .u64 (pl B1 5), .int .u64 (pl B1 6), .int .u64 (pl B1 7), .slice p6 n6 c6, .slice q6 k6 d6] 30 := Blk.grow bks_by hb
 have hbb : Below w3.heap.size w3 w4 := bel_trans bni hb
 replace hB := bel_trans hB hbb
 replace g0 := g0.grow hbb
 replace g5 := g5.grow hbb
 replace HS5 := Lib.hid (And.intro (HS5.out.1.mono hbb) (HS5.out.2.mono hbb))
 replace HS6 := Lib.hid (And.intro (HS6.out.1.mono hbb) (HS6.out.2.mono hbb))
 clear hb hbb
 generalize w3.heap.size = B4 at *
 have HS7 := Lib.hid (And.intro S7 A7)
 clear S7 A7
 have c_g0 := g0.cell
 have l_g0 := g0.lt
 have c_g5 := g5.cell
 have l_g5 := g5.lt
 have c_g7 := g7.cell
 have l_g7 := g7.lt
 go_wp2_with fail
 clear c_g0 l_g0
 clear c_g5 l_g5
 clear c_g7 l_g7
 refine (H59.out _ (bel_trans hB bni)).mono ?_
 rintro e w5 ⟨p8, n8, c8, q8, k8, d8, rfl, S8, A8, hb⟩
 have g9 : Blk w5 (w4.heap.size) #[.int .u64 (pl B2 0), .int .u64 (pl B2 1), .int .u64 (pl B2 2), .int .u64 (pl B2 3), .int .u64 (pl B2 4), .int .u64 (pl B2 5), .int .u64 (pl B2 6), .int .u64 (pl B2 7), .slice p7 n7 c7, .slice q7 k7 d7] 30 := Blk.grow bks_by hb
 have hbb : Below w4.heap.size w4 w5 := bel_trans bni hb
 replace hB := bel_trans hB hbb
 replace g0 := g0.grow hbb
 replace g5 := g5.grow hbb
 replace g7 := g7.grow hbb
 replace HS5 := Lib.hid (And.intro (HS5.out.1.mono hbb) (HS5.out.2.mono hbb))
 replace HS6 := Lib.hid (And.intro (HS6.out.1.mono hbb) (HS6.out.2.mono hbb))
 replace HS7 := Lib.hid (And.intro (HS7.out.1.mono hbb) (HS7.out.2.mono hbb))
 clear hb hbb
 generalize w4.heap.size = B5 at *
 have HS8 := Lib.hid (And.intro S8 A8)
 clear S8 A8
 have c_g0 := g0.cell
 have l_g0 := g0.lt
 have c_g5 := g5.cell
 have l_g5 := g5.lt
 have c_g7 := g7.cell
 have l_g7 := g7.lt
 have c_g9 := g9.cell
 have l_g9 := g9.lt
 go_wp2_with fail
 clear c_g0 l_g0
 clear c_g5 l_g5
 clear c_g7 l_g7
 clear c_g9 l_g9
 refine (HAL.out _ (bel_trans hB bni)).mono ?_
 rintro e w6 ⟨rfl, hb⟩
 have g11 : Blk w6 (w5.heap.size) #[.int .u64 (pl B2 0), .int .u64 (pl B2 1), .int .u64 (pl B2 2), .int .u64 (pl B2 3), .int .u64 (pl B2 4), .int .u64 (pl B2 5), .int .u64 (pl B2 6), .int .u64 (pl B2 7), .slice p8 n8 c8, .slice q8 k8 d8] 30 := Blk.grow bks_by hb
 have hbb : Below w5.heap.size w5 w6 := bel_trans bni hb
 replace hB := bel_trans hB hbb
 replace g0 := g0.grow hbb
 replace g5 := g5.grow hbb
 replace g7 := g7.grow hbb
 replace g9 := g9.grow hbb
 replace HS5 := Lib.hid (And.intro (HS5.out.1.mono hbb) (HS5.out.2.mono hbb))
 replace HS6 := Lib.hid (And.intro (HS6.out.1.mono hbb) (HS6.out.2.mono hbb))
 replace HS7 := Lib.hid (And.intro (HS7.out.1.mono hbb) (HS7.out.2.mono hbb))
 replace HS8 := Lib.hid (And.intro (HS8.out.1.mono hbb) (HS8.out.2.mono hbb))
 clear hb hbb
 generalize w5.heap.size = B6 at *
 have c_g0 := g0.cell
 have l_g0 := g0.lt
 have c_g5 := g5.cell
 have l_g5 := g5.lt
 have c_g7 := g7.cell
 have l_g7 := g7.lt
 have c_g9 := g9.cell
 have l_g9 := g9.lt
 have c_g11 := g11.cell
 have l_g11 := g11.lt
 go_wp2_with fail
 clear c_g0 l_g0
 clear c_g5 l_g5
 clear c_g7 l_g7
 clear c_g9 l_g9
 clear c_g11 l_g11
 refine (Same_eq _ (HS5.out.1.mono bni) (HS5.out.2.mono bni) (HS6.out.1.mono bni) (HS6.out.2.mono bni)).mono ?_
 rintro e w7 ⟨rfl, hb⟩
 have hbb : Below w6.heap.size w6 w7 := bel_trans bni hb
 replace hB := bel_trans hB hbb
 replace g0 := g0.grow hbb
 replace g5 := g5.grow hbb
 replace g7 := g7.grow hbb
 replace g9 := g9.grow hbb
 replace g11 := g11.grow hbb
 replace HS5 := Lib.hid (And.intro (HS5.out.1.mono hbb) (HS5.out.2.mono hbb))
 replace HS6 := Lib.hid (And.intro (HS6.out.1.mono hbb) (HS6.out.2.mono hbb))
 replace HS7 := Lib.hid (And.intro (HS7.out.1.mono hbb) (HS7.out.2.mono hbb))
 replace HS8 := Lib.hid (And.intro (HS8.out.1.mono hbb) (HS8.out.2.mono hbb))
 clear hb hbb
 have c_g0 := g0.cell
 have l_g0 := g0.lt
 have c_g5 := g5.cell
 have l_g5 := g5.lt
 have c_g7 := g7.cell
 have l_g7 := g7.lt
 have c_g9 := g9.cell
 have l_g9 := g9.lt
 have c_g11 := g11.cell
 have l_g11 := g11.lt
 go_wp2_with fail
 clear c_g0 l_g0
 clear c_g5 l_g5
 clear c_g7 l_g7
 clear c_g9 l_g9
 clear c_g11 l_g11
 refine (Same_eq _ (HS7.out.1.mono bni) (HS7.out.2.mono bni) (HS8.out.1.mono bni) (HS8.out.2.mono bni)).mono ?_
 rintro e w8 ⟨rfl, hb⟩
 have hbb : Below w7.heap.size w7 w8 := bel_trans bni hb
 replace hB := bel_trans hB hbb
 replace g0 := g0.grow hbb
 replace g5 := g5.grow hbb
 replace g7 := g7.grow hbb
 replace g9 := g9.grow hbb
 replace g11 := g11.grow hbb
 replace HS5 := Lib.hid (And.intro (HS5.out.1.mono hbb) (HS5.out.2.mono hbb))
 replace HS6 := Lib.hid (And.intro (HS6.out.1.mono hbb) (HS6.out.2.mono hbb))
 replace HS7 := Lib.hid (And.intro (HS7.out.1.mono hbb) (HS7.out.2.mono hbb))
 replace HS8 := Lib.hid (And.intro (HS8.out.1.mono hbb) (HS8.out.2.mono hbb))
 clear hb hbb
 have c_g0 := g0.cell
 have l_g0 := g0.lt
 have c_g5 := g5.cell
 have l_g5 := g5.lt
 have c_g7 := g7.cell
 have l_g7 := g7.lt
 have c_g9 := g9.cell
 have l_g9 := g9.lt
 have c_g11 := g11.cell
 have l_g11 := g11.lt
 go_wp2_with fail
 clear c_g0 l_g0
 clear c_g5 l_g5
 clear c_g7 l_g7
 clear c_g9 l_g9
 clear c_g11 l_g11
 refine bodyPost_ret (v := .bool true) (by simp [results, Tryz.results11, go_sem]) rfl ⟨rfl, hB⟩
theorem FI_any (P : Nat → Bool) {k i : Nat} (hi : i < k) : ((FI P k).any fun y => y == (i : Int)) = P i := by
 rw [Bool.eq_iff_iff, List.any_eq_true]
 unfold FI
 constructor
 ·rintro ⟨y, hy, e⟩
  obtain ⟨t, ht, rfl⟩ := List.mem_map.1 hy
  have : t = i := by
   have e1 : (t : Int) = (i : Int) := by simpa using e
   omega
  subst this
  exact (List.mem_filter.1 ht).2
 ·intro h
  exact ⟨(i : Int), List.mem_map.2 ⟨i, List.mem_filter.2 ⟨List.mem_range.2 hi, h⟩, rfl⟩, by simp⟩
theorem TraceTurns_walk (b0 : Sol) (u0 : Value) (l0 : List Sol) (av0 : Value) (g : List Ac) (i : Int) (w : World)
  (S0 : SlS w u0 l0) (A0 : SlA w av0 g) (N0 : ∀ n c, av0 = .slice none n c → c = 0) (_ : -9223372036854775808 ≤ i ∧ i < 9223372036854775808) (hT : w.cell? ⟨5, 15, none⟩ = some (.int .u8 4)) :
  Calls Tryz.prog 11 #[.agg #[.int .u64 (pl b0 0), .int .u64 (pl b0 1), .int .u64 (pl b0 2), .int .u64 (pl b0 3), .int .u64 (pl b0 4), .int .u64 (pl b0 5), .int .u64 (pl b0 6), .int .u64 (pl b0 7), u0, av0], .int .i64 i] w fun e w' => e = .returned (.bool true) ∧ Below w.heap.size w w' := by
 have HAL := alive_h w hT
 have HN : Hid (SlN w av0 g) := Lib.hid ⟨A0, N0⟩
 have T0 := S0
 have X0 := A0
 obtain ⟨p0, c0, rfl, _, _⟩ := T0
 obtain ⟨q0, d0, rfl, hkd, hdM⟩ := X0
 have hk0 : (g.map acL).length = g.length := List.length_map ..
 have hl0 : (l0.map solL).length = l0.length := List.length_map ..
 generalize (g.map acL).length = k0 at *
 generalize (l0.map solL).length = n0 at *
 cases hm : many k0 n0 with
 | true => exact TraceTurns_many b0 p0 q0 n0 c0 k0 d0 i w hm HAL
 | false =>
  cases hg : begunM b0 l0 g with
  | inl x =>
   have hx := begunM_bad hg
   have hch : checkR b0 l0 g = x := by unfold checkR; rw [hg]
   have H := Lib.hid fun w' (hb : Below w.heap.size w w') => refCheck_spec b0 _ _ l0 g w' (S0.mono hb) (A0.mono hb)
   rw [hch] at H
   have Hb := fun w' (hb : Below w.heap.size w w') => Lib.hid fun w2 (hb2 : Below w'.heap.size w' w2) => H.out w2 (bel_trans hb hb2)
   exact TraceTurns_main b0 p0 q0 n0 c0 k0 d0 i w hm 0 0 [] [] [] [] x.2 x.2
    (Lib.hid fun w' hb => (Undo_err b0 p0 q0 n0 c0 k0 d0 i x.2 hx w' (Lib.hid fun w2 hb2 => (acted_bad hg i w2 ((S0.mono hb).mono hb2) ((A0.mono hb).mono hb2)).mono fun e w3 h => by obtain ⟨rfl, h⟩ := h; exact ⟨_, rfl, h⟩)).mono fun e w2 h => by obtain ⟨rfl, h⟩ := h; exact hres_zero h)
    (Lib.hid fun w' hb => (refUndo_no b0 p0 q0 n0 c0 k0 d0 i x.2 hx [] w' (Lib.hid fun w2 hb2 => (refLast_no b0 p0 q0 n0 c0 k0 d0 _ _ hx w2 (Hb w2 (bel_trans hb hb2))).mono fun e w3 h => by obtain ⟨rfl, h⟩ := h; exact ⟨_, rfl, sl_niln w3, h⟩)).mono fun e w2 h => by obtain ⟨rfl, h⟩ := h; exact hres_zero h)
    (Lib.hid fun w' hb => (Reduced_bad hg w' (S0.mono hb) (A0.mono hb)).mono fun e w2 h => by obtain ⟨rfl, h⟩ := h; exact hres_zero h)
    (Lib.hid fun w' hb => (refReduced_no b0 p0 q0 n0 c0 k0 d0 _ _ hx w' (Hb w' hb)).mono fun e w2 h => by obtain ⟨rfl, h⟩ := h; exact hres_zero h) HAL
  | inr s =>
   obtain ⟨t, R, _⟩ := Runs.of hg
   have h60 := R.len
   have h14 : k0 ≤ 14 := few_len hm (by omega)
   have hch : checkR b0 l0 g = (0, 0) := by unfold checkR; rw [hg]
   have H := Lib.hid fun w' (hb : Below w.heap.size w w') => refCheck_spec b0 _ _ l0 g w' (S0.mono hb) (A0.mono hb)
   rw [hch] at H
   have Hb := fun w' (hb : Below w.heap.size w w') => Lib.hid fun w2 (hb2 : Below w'.heap.size w' w2) => H.out w2 (bel_trans hb hb2)
   have HS48 := fun w' (hb : Below w.heap.size w w') => Lib.hid fun w2 (hb2 : Below w'.heap.size w' w2) => refLast_spec R hk0.symm hkd hdM.1 w2 ((S0.mono hb).mono hb2) ((A0.mono hb).mono hb2) (Hb w2 (bel_trans hb hb2))
   have H21 := Lib.hid fun w' (hb : Below w.heap.size w w') => Reduced_r R w' (S0.mono hb) (A0.mono hb)
   have H59 := Lib.hid fun w' (hb : Below w.heap.size w w') => refReduced_yes b0 p0 q0 n0 c0 k0 d0 l0 g w' R.fine hk0.symm hkd hdM.1 (by omega) (Lib.hid (S0.mono hb)) (Lib.hid (HN.out.mono hb)) (Hb w' hb)
   have HA := fun w' (hb : Below w.heap.size w w') => acted_good hg i w' (S0.mono hb) (A0.mono hb)
   by_cases hi : 0 ≤ i ∧ i < (k0 : Int)
   ·obtain ⟨j, rfl⟩ : ∃ j : Nat, i = (j : Int) := ⟨i.toNat, by omega⟩
    have hj : j < k0 := by omega
    have hE : actedE g.length (j : Int) = 0 := by unfold actedE; rw [if_neg (by omega)]
    have HA2 := fun w' (hb : Below w.heap.size w w') => Lib.hid fun w2 (hb2 : Below w'.heap.size w' w2) => HA w2 (bel_trans hb hb2)
    rw [hE] at HA2
    have hany : ((FI (fun i => lastU l0 g i k0) k0).any fun y => y == (j : Int)) = lastU l0 g j k0 := FI_any _ hj
    cases hl : lastU l0 g j k0 with
    | false =>
     rw [hl] at hany
     exact TraceTurns_main b0 p0 q0 n0 c0 k0 d0 (j : Int) w hm 0 b0 [] l0 [] _ 46 0
      (Lib.hid fun w' hb => (Undo_late b0 p0 q0 n0 c0 k0 d0 j w' l0 g s hk0.symm hj (by rw [← hk0]; exact hl) (HA2 w' hb)).mono fun e w2 h => by obtain ⟨rfl, h⟩ := h; exact hres_zero h)
      (Lib.hid fun w' hb => (refUndo_late b0 p0 q0 n0 c0 k0 d0 j hj _ hany w' (HS48 w' hb)).mono fun e w2 h => by obtain ⟨rfl, h⟩ := h; exact hres_zero h)
      H21 H59 HAL
    | true =>
     rw [hl] at hany
     exact TraceTurns_main b0 p0 q0 n0 c0 k0 d0 (j : Int) w hm b0 b0 l0 l0 (dropL g j) _ 0 0
      (Lib.hid fun w' hb => Undo_yes b0 p0 q0 n0 c0 k0 d0 j w' l0 g s hk0.symm hj (by omega) (pat_len R.pat) (Lib.hid (S0.mono hb)) (Lib.hid (A0.mono hb)) (by rw [← hk0]; exact hl) (HA2 w' hb))
      (Lib.hid fun w' hb => refUndo_yes b0 p0 q0 n0 c0 k0 d0 j hj _ hany l0 g w' hk0.symm hkd hdM.1 (by omega) (Lib.hid (S0.mono hb)) (Lib.hid (HN.out.mono hb)) (HS48 w' hb))
      H21 H59 HAL
   ·have hE : actedE g.length i = 1 := by unfold actedE; rw [if_pos (by omega)]
    have HA2 := fun w' (hb : Below w.heap.size w w') => Lib.hid fun w2 (hb2 : Below w'.heap.size w' w2) => HA w2 (bel_trans hb hb2)
    rw [hE] at HA2
    have H57 : Hid (∀ w', Below w.heap.size w w' → Calls Tryz.prog 57 #[.agg #[.int .u64 (pl b0 0), .int .u64 (pl b0 1), .int .u64 (pl b0 2), .int .u64 (pl b0 3), .int .u64 (pl b0 4), .int .u64 (pl b0 5), .int .u64 (pl b0 6), .int .u64 (pl b0 7), .slice p0 n0 c0, .slice q0 k0 d0], .int .i64 i] w' (HRes 0 [] [] 1 w')) := Lib.hid fun w' hb => (Undo_err b0 p0 q0 n0 c0 k0 d0 i 1 rfl w' (Lib.hid fun w2 hb2 => ((HA2 w' hb).out w2 hb2).mono fun e w3 h => by obtain ⟨bp, rfl, _, h⟩ := h; exact ⟨_, rfl, h⟩)).mono fun e w2 h => by obtain ⟨rfl, h⟩ := h; exact hres_zero h
    have H58 : Hid (∀ w', Below w.heap.size w w' → Calls Tryz.prog 58 #[.agg #[.int .u64 (pl b0 0), .int .u64 (pl b0 1), .int .u64 (pl b0 2), .int .u64 (pl b0 3), .int .u64 (pl b0 4), .int .u64 (pl b0 5), .int .u64 (pl b0 6), .int .u64 (pl b0 7), .slice p0 n0 c0, .slice q0 k0 d0], .int .i64 i] w' (HRes 0 [] [] 1 w')) := by
     by_cases h0 : i < 0
     ·exact Lib.hid fun w' hb => (refUndo_neg b0 p0 q0 n0 c0 k0 d0 i h0 _ w' (HS48 w' hb)).mono fun e w2 h => by obtain ⟨rfl, h⟩ := h; exact hres_zero h
     ·exact Lib.hid fun w' hb => (refUndo_big b0 p0 q0 n0 c0 k0 d0 i (by omega) (by omega) _ w' (HS48 w' hb)).mono fun e w2 h => by obtain ⟨rfl, h⟩ := h; exact hres_zero h
    exact TraceTurns_main b0 p0 q0 n0 c0 k0 d0 i w hm 0 b0 [] l0 [] _ 1 0 H57 H58 H21 H59 HAL
end Go.Proofs.YtccnkebkgegohaaGreatDoor
end
