import Derived.Test.YtccnkebkgegohaaGreatDoorHE3
/-
  Given contracts of functions of the program, and laws for them, one behind the other.
-/
set_option linter.unusedVariables false
set_option linter.unusedSimpArgs false
set_option linter.unusedSectionVars false
section
namespace Go.Proofs.YtccnkebkgegohaaGreatDoor
open Go.RowKit Go.Rel
set_option maxRecDepth 100000
/-! the law of projections -/
theorem Indep_fine' {b : Sol} {l : List Sol} {m : List Ac} (hp : chkPat b l = 0) (F : Fine l m) {x y : Ac} (hx : x ∈ m) (hy : y ∈ m) {v : Value} (w : World) (Hv : SlS w v l) :
    Calls Tryz.prog 32 #[.agg #[.int .u64 (pl b 0), .int .u64 (pl b 1), .int .u64 (pl b 2), .int .u64 (pl b 3), .int .u64 (pl b 4), .int .u64 (pl b 5), .int .u64 (pl b 6), .int .u64 (pl b 7), v], .agg #[.int .u8 x.1, .int .i64 x.2.1, .int .u64 (pl x.2.2 0), .int .u64 (pl x.2.2 1), .int .u64 (pl x.2.2 2), .int .u64 (pl x.2.2 3), .int .u64 (pl x.2.2 4), .int .u64 (pl x.2.2 5), .int .u64 (pl x.2.2 6), .int .u64 (pl x.2.2 7)], .agg #[.int .u8 y.1, .int .i64 y.2.1, .int .u64 (pl y.2.2 0), .int .u64 (pl y.2.2 1), .int .u64 (pl y.2.2 2), .int .u64 (pl y.2.2 3), .int .u64 (pl y.2.2 4), .int .u64 (pl y.2.2 5), .int .u64 (pl y.2.2 6), .int .u64 (pl y.2.2 7)]] w fun e w' => e = .returned (.tuple #[.bool (apartB l x y), .int .i64 0]) ∧ Below w.heap.size w w' := by
  have hs := Independent_spec b v l x y w Hv
  have hx0 : chkAc b l x = 0 := by unfold chkAc; rw [if_pos hp, if_pos (F.fit x hx)]
  have hy0 : chkAc b l y = 0 := by unfold chkAc; rw [if_pos hp, if_pos (F.fit y hy)]
  have hi : indErr b l x y = 0 := by unfold indErr; rw [if_pos hx0, hy0]
  rw [hi] at hs
  exact hs
theorem indep_hid {b : Sol} {l : List Sol} {m : List Ac} (hp : chkPat b l = 0) (F : Fine l m) {x y : Ac} (hx : x ∈ m) (hy : y ∈ m) {v : Value} (w : World) (Hv : SlS w v l) {fr : Bool} (hf : apartB l x y = fr) :
    Hid (∀ w', Below w.heap.size w w' → Calls Tryz.prog 32 #[.agg #[.int .u64 (pl b 0), .int .u64 (pl b 1), .int .u64 (pl b 2), .int .u64 (pl b 3), .int .u64 (pl b 4), .int .u64 (pl b 5), .int .u64 (pl b 6), .int .u64 (pl b 7), v], .agg #[.int .u8 x.1, .int .i64 x.2.1, .int .u64 (pl x.2.2 0), .int .u64 (pl x.2.2 1), .int .u64 (pl x.2.2 2), .int .u64 (pl x.2.2 3), .int .u64 (pl x.2.2 4), .int .u64 (pl x.2.2 5), .int .u64 (pl x.2.2 6), .int .u64 (pl x.2.2 7)], .agg #[.int .u8 y.1, .int .i64 y.2.1, .int .u64 (pl y.2.2 0), .int .u64 (pl y.2.2 1), .int .u64 (pl y.2.2 2), .int .u64 (pl y.2.2 3), .int .u64 (pl y.2.2 4), .int .u64 (pl y.2.2 5), .int .u64 (pl y.2.2 6), .int .u64 (pl y.2.2 7)]] w' fun e w'' => e = .returned (.tuple #[.bool fr, .int .i64 0]) ∧ Below w'.heap.size w' w'') := by
  subst hf
  exact Lib.hid fun w' hw => Indep_fine' hp F hx hy w' (Hv.mono hw)
theorem concat2 {g : Nat} {x y : Value} {l1 l2 : List Ac} (w : World) (h : Blk w g #[x, y] 28) (h1 : SlN w x l1) (h2 : SlN w y l2) (hm : l1.length + l2.length ≤ 1048576) :
    Calls Tryz.prog 24 #[.slice (some ⟨g, 0, none⟩) 2 2] w fun e w' => ∃ u, e = .returned u ∧ OwnA w' w.heap.size u (l1 ++ l2) ∧ Below w.heap.size w w' := by
  have hc : catM [(x, l1), (y, l2)] = l1 ++ l2 := by simp [catM]
  have := Concat_spec (.slice (some ⟨g, 0, none⟩) 2 2) [(x, l1), (y, l2)] w (Sl.ofBlk h rfl (by decide) (by simp) (by simp)) (by
    intro p hp
    simp only [List.mem_cons, List.not_mem_nil, or_false] at hp
    rcases hp with rfl | rfl
    · exact h1
    · exact h2) (by rw [hc, List.length_append]; exact hm)
  rw [hc] at this
  exact this
def sameUpto (l : List Sol) (g h al : List Ac) (x : Ac) (j : Nat) : Bool := (al.take j).all fun b => freeOrSame l g h x b
theorem freeOrSame_fr {l : List Sol} {g h : List Ac} {x y : Ac} (hf : apartB l x y = true) : freeOrSame l g h x y = true := by
  unfold freeOrSame; unfold apartB at hf; rw [hf]; rfl
theorem freeOrSame_ap {l : List Sol} {g h : List Ac} {x y : Ac} (hf : apartB l x y = false) : freeOrSame l g h x y = (prj x y g == prj x y h) := by
  unfold freeOrSame; unfold apartB at hf; rw [hf]; rfl
def allUpto (l : List Sol) (g h al : List Ac) (i : Nat) : Bool := (al.take i).all fun a => al.all fun b => freeOrSame l g h a b
theorem sameUpto_succ {l : List Sol} {g h al : List Ac} {x y : Ac} {j : Nat} (hy : al[j]? = some y) : sameUpto l g h al x (j + 1) = (sameUpto l g h al x j && freeOrSame l g h x y) := by
  unfold sameUpto; rw [List.take_add_one, hy, List.all_append]; simp
theorem allUpto_succ {l : List Sol} {g h al : List Ac} {x : Ac} {i n : Nat} (hx : al[i]? = some x) (hn : al.length = n) : allUpto l g h al (i + 1) = (allUpto l g h al i && sameUpto l g h al x n) := by
  unfold allUpto sameUpto; rw [List.take_add_one, hx, List.all_append, ← hn, List.take_length]; simp
set_option maxHeartbeats 8000000 in
theorem TraceProjected_many (b0 b1 : Sol) (p0 p1 q0 q1 : Option Addr) (n0 n1 c0 c1 k0 k1 d0 d1 : Nat) (w : World) (hm : (many k0 n0 || many k1 n1) = true) (HAL : AliveH w) :
    Calls Tryz.prog 7 #[.agg #[.int .u64 (pl b0 0), .int .u64 (pl b0 1), .int .u64 (pl b0 2), .int .u64 (pl b0 3), .int .u64 (pl b0 4), .int .u64 (pl b0 5), .int .u64 (pl b0 6), .int .u64 (pl b0 7), .slice p0 n0 c0, .slice q0 k0 d0], .agg #[.int .u64 (pl b1 0), .int .u64 (pl b1 1), .int .u64 (pl b1 2), .int .u64 (pl b1 3), .int .u64 (pl b1 4), .int .u64 (pl b1 5), .int .u64 (pl b1 6), .int .u64 (pl b1 7), .slice p1 n1 c1, .slice q1 k1 d1]] w fun e w' => e = .returned (.bool true) ∧ Below w.heap.size w w' := by
  go_enter Tryz.func7, Tryz.ntmps7
  go_wp2_with fail
  refine (few2 (b := b0) (p := p0) (q := q0) (n := n0) (c := c0) (k := k0) (d := d0) (b' := b1) (p' := p1) (q' := q1) (n' := n1) (c' := c1) (k' := k1) (d' := d1) (t := 30) _ bks_by).mono ?_
  rw [hm]
  rintro e w1 ⟨rfl, hb⟩
  have g0 : Blk w1 (w.heap.size) #[.int .u64 (pl b0 0), .int .u64 (pl b0 1), .int .u64 (pl b0 2), .int .u64 (pl b0 3), .int .u64 (pl b0 4), .int .u64 (pl b0 5), .int .u64 (pl b0 6), .int .u64 (pl b0 7), .slice p0 n0 c0, .slice q0 k0 d0] 30 := Blk.grow bks_by hb
  have g1 : Blk w1 (w.heap.size + 1) #[.int .u64 (pl b1 0), .int .u64 (pl b1 1), .int .u64 (pl b1 2), .int .u64 (pl b1 3), .int .u64 (pl b1 4), .int .u64 (pl b1 5), .int .u64 (pl b1 6), .int .u64 (pl b1 7), .slice p1 n1 c1, .slice q1 k1 d1] 30 := Blk.grow bks_by hb
  have hB : Below w.heap.size w w1 := bel_trans bni hb
  clear hb
  have c_g0 := g0.cell
  have l_g0 := g0.lt
  have c_g1 := g1.cell
  have l_g1 := g1.lt
  go_wp2_with fail
  clear c_g0 l_g0
  clear c_g1 l_g1
  refine (HAL.out _ (bel_trans hB bni)).mono ?_
  rintro e w2 ⟨rfl, hb⟩
  have hbb : Below w1.heap.size w1 w2 := bel_trans bni hb
  replace hB := bel_trans hB hbb
  replace g0 := g0.grow hbb
  replace g1 := g1.grow hbb
  clear hb hbb
  have c_g0 := g0.cell
  have l_g0 := g0.lt
  have c_g1 := g1.cell
  have l_g1 := g1.lt
  go_wp2_with fail
  clear c_g0 l_g0
  clear c_g1 l_g1
  refine bodyPost_ret (v := .bool true) (by simp [results, Tryz.results7, go_sem]) rfl ⟨rfl, hB⟩
set_option maxHeartbeats 8000000 in
theorem TraceProjected_other (b0 b1 : Sol) (p0 p1 q0 q1 : Option Addr) (n0 n1 c0 c1 k0 k1 d0 d1 : Nat) (w : World) (hm : (many k0 n0 || many k1 n1) = false) (H25 : Hid (∀ w', Below w.heap.size w w' → Calls Tryz.prog 25 #[.agg #[.int .u64 (pl b0 0), .int .u64 (pl b0 1), .int .u64 (pl b0 2), .int .u64 (pl b0 3), .int .u64 (pl b0 4), .int .u64 (pl b0 5), .int .u64 (pl b0 6), .int .u64 (pl b0 7), .slice p0 n0 c0], .agg #[.int .u64 (pl b1 0), .int .u64 (pl b1 1), .int .u64 (pl b1 2), .int .u64 (pl b1 3), .int .u64 (pl b1 4), .int .u64 (pl b1 5), .int .u64 (pl b1 6), .int .u64 (pl b1 7), .slice p1 n1 c1]] w' fun e w'' => e = .returned (.bool false) ∧ Below w'.heap.size w' w'')) (HAL : AliveH w) :
    Calls Tryz.prog 7 #[.agg #[.int .u64 (pl b0 0), .int .u64 (pl b0 1), .int .u64 (pl b0 2), .int .u64 (pl b0 3), .int .u64 (pl b0 4), .int .u64 (pl b0 5), .int .u64 (pl b0 6), .int .u64 (pl b0 7), .slice p0 n0 c0, .slice q0 k0 d0], .agg #[.int .u64 (pl b1 0), .int .u64 (pl b1 1), .int .u64 (pl b1 2), .int .u64 (pl b1 3), .int .u64 (pl b1 4), .int .u64 (pl b1 5), .int .u64 (pl b1 6), .int .u64 (pl b1 7), .slice p1 n1 c1, .slice q1 k1 d1]] w fun e w' => e = .returned (.bool true) ∧ Below w.heap.size w w' := by
  go_enter Tryz.func7, Tryz.ntmps7
  go_wp2_with fail
  refine (few2 (b := b0) (p := p0) (q := q0) (n := n0) (c := c0) (k := k0) (d := d0) (b' := b1) (p' := p1) (q' := q1) (n' := n1) (c' := c1) (k' := k1) (d' := d1) (t := 30) _ bks_by).mono ?_
  rw [hm]
  rintro e w1 ⟨rfl, hb⟩
  have g0 : Blk w1 (w.heap.size) #[.int .u64 (pl b0 0), .int .u64 (pl b0 1), .int .u64 (pl b0 2), .int .u64 (pl b0 3), .int .u64 (pl b0 4), .int .u64 (pl b0 5), .int .u64 (pl b0 6), .int .u64 (pl b0 7), .slice p0 n0 c0, .slice q0 k0 d0] 30 := Blk.grow bks_by hb
  have g1 : Blk w1 (w.heap.size + 1) #[.int .u64 (pl b1 0), .int .u64 (pl b1 1), .int .u64 (pl b1 2), .int .u64 (pl b1 3), .int .u64 (pl b1 4), .int .u64 (pl b1 5), .int .u64 (pl b1 6), .int .u64 (pl b1 7), .slice p1 n1 c1, .slice q1 k1 d1] 30 := Blk.grow bks_by hb
  have hB : Below w.heap.size w w1 := bel_trans bni hb
  clear hb
  have c_g0 := g0.cell
  have l_g0 := g0.lt
  have c_g1 := g1.cell
  have l_g1 := g1.lt
  go_wp2_with fail
  clear c_g0 l_g0
  clear c_g1 l_g1
  refine (H25.out _ (bel_trans hB bni)).mono ?_
  rintro e w2 ⟨rfl, hb⟩
  have hbb : Below w1.heap.size w1 w2 := bel_trans bni hb
  replace hB := bel_trans hB hbb
  replace g0 := g0.grow hbb
  replace g1 := g1.grow hbb
  clear hb hbb
  have c_g0 := g0.cell
  have l_g0 := g0.lt
  have c_g1 := g1.cell
  have l_g1 := g1.lt
  go_wp2_with fail
  clear c_g0 l_g0
  clear c_g1 l_g1
  refine (HAL.out _ (bel_trans hB bni)).mono ?_
  rintro e w3 ⟨rfl, hb⟩
  have hbb : Below w2.heap.size w2 w3 := bel_trans bni hb
  replace hB := bel_trans hB hbb
  replace g0 := g0.grow hbb
  replace g1 := g1.grow hbb
  clear hb hbb
  have c_g0 := g0.cell
  have l_g0 := g0.lt
  have c_g1 := g1.cell
  have l_g1 := g1.lt
  go_wp2_with fail
  clear c_g0 l_g0
  clear c_g1 l_g1
  refine bodyPost_ret (v := .bool true) (by simp [results, Tryz.results7, go_sem]) rfl ⟨rfl, hB⟩
set_option maxHeartbeats 8000000 in
theorem TraceProjected_bad (b : Sol) (p0 p1 q0 q1 : Option Addr) (n0 n1 c0 c1 k0 k1 d0 d1 : Nat) (w : World) (hm : (many k0 n0 || many k1 n1) = false) (H25 : Hid (∀ w', Below w.heap.size w w' → Calls Tryz.prog 25 #[.agg #[.int .u64 (pl b 0), .int .u64 (pl b 1), .int .u64 (pl b 2), .int .u64 (pl b 3), .int .u64 (pl b 4), .int .u64 (pl b 5), .int .u64 (pl b 6), .int .u64 (pl b 7), .slice p0 n0 c0], .agg #[.int .u64 (pl b 0), .int .u64 (pl b 1), .int .u64 (pl b 2), .int .u64 (pl b 3), .int .u64 (pl b 4), .int .u64 (pl b 5), .int .u64 (pl b 6), .int .u64 (pl b 7), .slice p1 n1 c1]] w' fun e w'' => e = .returned (.bool true) ∧ Below w'.heap.size w' w'')) (z : Int) (hz : (z != 0) = true) (H42 : Hid (∀ w', Below w.heap.size w w' → Calls Tryz.prog 42 #[.agg #[.int .u64 (pl b 0), .int .u64 (pl b 1), .int .u64 (pl b 2), .int .u64 (pl b 3), .int .u64 (pl b 4), .int .u64 (pl b 5), .int .u64 (pl b 6), .int .u64 (pl b 7), .slice p0 n0 c0, .slice q0 k0 d0], .agg #[.int .u64 (pl b 0), .int .u64 (pl b 1), .int .u64 (pl b 2), .int .u64 (pl b 3), .int .u64 (pl b 4), .int .u64 (pl b 5), .int .u64 (pl b 6), .int .u64 (pl b 7), .slice p1 n1 c1, .slice q1 k1 d1]] w' fun e w'' => e = .returned (.tuple #[.bool false, .int .i64 z]) ∧ Below w'.heap.size w' w'')) (HAL : AliveH w) :
    Calls Tryz.prog 7 #[.agg #[.int .u64 (pl b 0), .int .u64 (pl b 1), .int .u64 (pl b 2), .int .u64 (pl b 3), .int .u64 (pl b 4), .int .u64 (pl b 5), .int .u64 (pl b 6), .int .u64 (pl b 7), .slice p0 n0 c0, .slice q0 k0 d0], .agg #[.int .u64 (pl b 0), .int .u64 (pl b 1), .int .u64 (pl b 2), .int .u64 (pl b 3), .int .u64 (pl b 4), .int .u64 (pl b 5), .int .u64 (pl b 6), .int .u64 (pl b 7), .slice p1 n1 c1, .slice q1 k1 d1]] w fun e w' => e = .returned (.bool true) ∧ Below w.heap.size w w' := by
  go_enter Tryz.func7, Tryz.ntmps7
  go_wp2_with fail
  refine (few2 (b := b) (p := p0) (q := q0) (n := n0) (c := c0) (k := k0) (d := d0) (b' := b) (p' := p1) (q' := q1) (n' := n1) (c' := c1) (k' := k1) (d' := d1) (t := 30) _ bks_by).mono ?_
  rw [hm]
  rintro e w1 ⟨rfl, hb⟩
  have g0 : Blk w1 (w.heap.size) #[.int .u64 (pl b 0), .int .u64 (pl b 1), .int .u64 (pl b 2), .int .u64 (pl b 3), .int .u64 (pl b 4), .int .u64 (pl b 5), .int .u64 (pl b 6), .int .u64 (pl b 7), .slice p0 n0 c0, .slice q0 k0 d0] 30 := Blk.grow bks_by hb
  have g1 : Blk w1 (w.heap.size + 1) #[.int .u64 (pl b 0), .int .u64 (pl b 1), .int .u64 (pl b 2), .int .u64 (pl b 3), .int .u64 (pl b 4), .int .u64 (pl b 5), .int .u64 (pl b 6), .int .u64 (pl b 7), .slice p1 n1 c1, .slice q1 k1 d1] 30 := Blk.grow bks_by hb
  have hB : Below w.heap.size w w1 := bel_trans bni hb
  clear hb
  have c_g0 := g0.cell
  have l_g0 := g0.lt
  have c_g1 := g1.cell
  have l_g1 := g1.lt
  go_wp2_with fail
  clear c_g0 l_g0
  clear c_g1 l_g1
  refine (H25.out _ (bel_trans hB bni)).mono ?_
  rintro e w2 ⟨rfl, hb⟩
  have hbb : Below w1.heap.size w1 w2 := bel_trans bni hb
  replace hB := bel_trans hB hbb
  replace g0 := g0.grow hbb
  replace g1 := g1.grow hbb
  clear hb hbb
  have c_g0 := g0.cell
  have l_g0 := g0.lt
  have c_g1 := g1.cell
  have l_g1 := g1.lt
  go_wp2_with fail
  clear c_g0 l_g0
  clear c_g1 l_g1
  refine (H42.out _ (bel_trans hB bni)).mono ?_
  rintro e w3 ⟨rfl, hb⟩
  have hbb : Below w2.heap.size w2 w3 := bel_trans bni hb
  replace hB := bel_trans hB hbb
  replace g0 := g0.grow hbb
  replace g1 := g1.grow hbb
  clear hb hbb
  have c_g0 := g0.cell
  have l_g0 := g0.lt
  have c_g1 := g1.cell
  have l_g1 := g1.lt
  go_wp2_with fail
  clear c_g0 l_g0
  clear c_g1 l_g1
  refine (HAL.out _ (bel_trans hB bni)).mono ?_
  rintro e w4 ⟨rfl, hb⟩
  have hbb : Below w3.heap.size w3 w4 := bel_trans bni hb
  replace hB := bel_trans hB hbb
  replace g0 := g0.grow hbb
  replace g1 := g1.grow hbb
  clear hb hbb
  have c_g0 := g0.cell
  have l_g0 := g0.lt
  have c_g1 := g1.cell
  have l_g1 := g1.lt
  go_wp2_with fail
  clear c_g0 l_g0
  clear c_g1 l_g1
  refine bodyPost_ret (v := .bool true) (by simp [results, Tryz.results7, go_sem]) rfl ⟨rfl, hB⟩
set_option maxHeartbeats 8000000 in
theorem TraceProjected_main (b : Sol) (p0 p1 q0 q1 : Option Addr) (n0 n1 c0 c1 k0 k1 d0 d1 : Nat) (w : World) (hm : (many k0 n0 || many k1 n1) = false) (H25 : Hid (∀ w', Below w.heap.size w w' → Calls Tryz.prog 25 #[.agg #[.int .u64 (pl b 0), .int .u64 (pl b 1), .int .u64 (pl b 2), .int .u64 (pl b 3), .int .u64 (pl b 4), .int .u64 (pl b 5), .int .u64 (pl b 6), .int .u64 (pl b 7), .slice p0 n0 c0], .agg #[.int .u64 (pl b 0), .int .u64 (pl b 1), .int .u64 (pl b 2), .int .u64 (pl b 3), .int .u64 (pl b 4), .int .u64 (pl b 5), .int .u64 (pl b 6), .int .u64 (pl b 7), .slice p1 n1 c1]] w' fun e w'' => e = .returned (.bool true) ∧ Below w'.heap.size w' w'')) {l : List Sol} {g h : List Ac} {s t : StB} (HR : Hid (Runs b l g s ∧ Runs b l h t)) (HS0 : Hid (SlS w (.slice p0 n0 c0) l ∧ SlA w (.slice q0 k0 d0) g)) (HS1 : Hid (SlS w (.slice p1 n1 c1) l ∧ SlA w (.slice q1 k1 d1) h)) (HSV : Hid (SlS w (.slice p0 n0 c0) l)) (HN : Hid (SlN w (.slice q0 k0 d0) g ∧ SlN w (.slice q1 k1 d1) h)) (HAL : AliveH w) :
    Calls Tryz.prog 7 #[.agg #[.int .u64 (pl b 0), .int .u64 (pl b 1), .int .u64 (pl b 2), .int .u64 (pl b 3), .int .u64 (pl b 4), .int .u64 (pl b 5), .int .u64 (pl b 6), .int .u64 (pl b 7), .slice p0 n0 c0, .slice q0 k0 d0], .agg #[.int .u64 (pl b 0), .int .u64 (pl b 1), .int .u64 (pl b 2), .int .u64 (pl b 3), .int .u64 (pl b 4), .int .u64 (pl b 5), .int .u64 (pl b 6), .int .u64 (pl b 7), .slice p1 n1 c1, .slice q1 k1 d1]] w fun e w' => e = .returned (.bool true) ∧ Below w.heap.size w w' := by
  go_enter Tryz.func7, Tryz.ntmps7
  go_wp2_with fail
  refine (few2 (b := b) (p := p0) (q := q0) (n := n0) (c := c0) (k := k0) (d := d0) (b' := b) (p' := p1) (q' := q1) (n' := n1) (c' := c1) (k' := k1) (d' := d1) (t := 30) _ bks_by).mono ?_
  rw [hm]
  rintro e w1 ⟨rfl, hb⟩
  have g0 : Blk w1 (w.heap.size) #[.int .u64 (pl b 0), .int .u64 (pl b 1), .int .u64 (pl b 2), .int .u64 (pl b 3), .int .u64 (pl b 4), .int .u64 (pl b 5), .int .u64 (pl b 6), .int .u64 (pl b 7), .slice p0 n0 c0, .slice q0 k0 d0] 30 := Blk.grow bks_by hb
  have g1 : Blk w1 (w.heap.size + 1) #[.int .u64 (pl b 0), .int .u64 (pl b 1), .int .u64 (pl b 2), .int .u64 (pl b 3), .int .u64 (pl b 4), .int .u64 (pl b 5), .int .u64 (pl b 6), .int .u64 (pl b 7), .slice p1 n1 c1, .slice q1 k1 d1] 30 := Blk.grow bks_by hb
  have hB : Below w.heap.size w w1 := bel_trans bni hb
  replace HS0 := Lib.hid (And.intro (HS0.out.1.mono hB) (HS0.out.2.mono hB))
  replace HS1 := Lib.hid (And.intro (HS1.out.1.mono hB) (HS1.out.2.mono hB))
  clear hb
  have c_g0 := g0.cell
  have l_g0 := g0.lt
  have c_g1 := g1.cell
  have l_g1 := g1.lt
  go_wp2_with fail
  clear c_g0 l_g0
  clear c_g1 l_g1
  refine (H25.out _ (bel_trans hB bni)).mono ?_
  rintro e w2 ⟨rfl, hb⟩
  have hbb : Below w1.heap.size w1 w2 := bel_trans bni hb
  replace hB := bel_trans hB hbb
  replace g0 := g0.grow hbb
  replace g1 := g1.grow hbb
  replace HS0 := Lib.hid (And.intro (HS0.out.1.mono hbb) (HS0.out.2.mono hbb))
  replace HS1 := Lib.hid (And.intro (HS1.out.1.mono hbb) (HS1.out.2.mono hbb))
  clear hb hbb
  have c_g0 := g0.cell
  have l_g0 := g0.lt
  have c_g1 := g1.cell
  have l_g1 := g1.lt
  go_wp2_with fail
  clear c_g0 l_g0
  clear c_g1 l_g1
  refine (Equal_r HR.out.1 HR.out.2 _ (HS0.out.1.mono bni) (HS0.out.2.mono bni) (HS1.out.1.mono bni) (HS1.out.2.mono bni)).mono ?_
  rintro e w3 ⟨rfl, hb⟩
  have hbb : Below w2.heap.size w2 w3 := bel_trans bni hb
  replace hB := bel_trans hB hbb
  replace g0 := g0.grow hbb
  replace g1 := g1.grow hbb
  replace HS0 := Lib.hid (And.intro (HS0.out.1.mono hbb) (HS0.out.2.mono hbb))
  replace HS1 := Lib.hid (And.intro (HS1.out.1.mono hbb) (HS1.out.2.mono hbb))
  clear hb hbb
  have c_g0 := g0.cell
  have l_g0 := g0.lt
  have c_g1 := g1.cell
  have l_g1 := g1.lt
  go_wp2_with fail
  clear c_g0 l_g0
  clear c_g1 l_g1
  have hR := HR.out.1.len
  have hR2 := HR.out.2.len
  have hbe : Below w3.heap.size w3 (w3.alloc (.cells (#[.slice q0 k0 d0, .slice q1 k1 d1] : Array Value) 28)) := bel_alloc (bel_refl _) _
  refine (concat2 _ (Blk.new _ _ _) ((HN.out.1.mono hB).mono hbe) ((HN.out.2.mono hB).mono hbe) (by omega)).mono ?_
  rintro e w4 ⟨u, rfl, hO, hb⟩
  have hbb : Below w3.heap.size w3 w4 := bel_trans hbe hb
  replace g0 := g0.grow hbb
  replace g1 := g1.grow hbb
  have hB4 := bel_trans hB hbb
  obtain ⟨un, hun⟩ : ∃ un, (g ++ h).length = un := ⟨_, rfl⟩
  obtain ⟨uq, ud, rfl, hud, hudM⟩ := own_shapeK hO hun
  have HA : Hid (SlA w4 (.slice uq un ud) (g ++ h)) := Lib.hid (OwnA.sl hO)
  have HFI : Hid (Fine l (g ++ h) ∧ chkPat b l = 0) := Lib.hid ⟨HR.out.1.fine.app HR.out.2.fine, HR.out.1.pat⟩
  have HLAW : Hid ((nrm l g == nrm l h) = allUpto l g h (g ++ h) un) := by
    have := projected_law HR.out.1.fine HR.out.2.fine
    refine Lib.hid (this.trans ?_)
    unfold allUpto
    rw [← hun, List.take_length]
  have HUN := Lib.hid hun
  clear hun hO hb hbb hbe hB
  generalize g ++ h = al at *
  generalize (nrm l g == nrm l h) = lw at *
  have H44g : Hid (∀ x y w', Below w.heap.size w w' → Calls Tryz.prog 44 #[.slice q0 k0 d0, .agg #[.int .u8 x.1, .int .i64 x.2.1, .int .u64 (pl x.2.2 0), .int .u64 (pl x.2.2 1), .int .u64 (pl x.2.2 2), .int .u64 (pl x.2.2 3), .int .u64 (pl x.2.2 4), .int .u64 (pl x.2.2 5), .int .u64 (pl x.2.2 6), .int .u64 (pl x.2.2 7)], .agg #[.int .u8 y.1, .int .i64 y.2.1, .int .u64 (pl y.2.2 0), .int .u64 (pl y.2.2 1), .int .u64 (pl y.2.2 2), .int .u64 (pl y.2.2 3), .int .u64 (pl y.2.2 4), .int .u64 (pl y.2.2 5), .int .u64 (pl y.2.2 6), .int .u64 (pl y.2.2 7)]] w' fun e w'' => ∃ u, e = .returned u ∧ OwnA w'' w'.heap.size u (prj x y g) ∧ Below w'.heap.size w' w'') := Lib.hid fun x y w' hw => pair_spec _ g x y w' (HN.out.1.mono hw).1 (by omega)
  have H44h : Hid (∀ x y w', Below w.heap.size w w' → Calls Tryz.prog 44 #[.slice q1 k1 d1, .agg #[.int .u8 x.1, .int .i64 x.2.1, .int .u64 (pl x.2.2 0), .int .u64 (pl x.2.2 1), .int .u64 (pl x.2.2 2), .int .u64 (pl x.2.2 3), .int .u64 (pl x.2.2 4), .int .u64 (pl x.2.2 5), .int .u64 (pl x.2.2 6), .int .u64 (pl x.2.2 7)], .agg #[.int .u8 y.1, .int .i64 y.2.1, .int .u64 (pl y.2.2 0), .int .u64 (pl y.2.2 1), .int .u64 (pl y.2.2 2), .int .u64 (pl y.2.2 3), .int .u64 (pl y.2.2 4), .int .u64 (pl y.2.2 5), .int .u64 (pl y.2.2 6), .int .u64 (pl y.2.2 7)]] w' fun e w'' => ∃ u, e = .returned u ∧ OwnA w'' w'.heap.size u (prj x y h) ∧ Below w'.heap.size w' w'') := Lib.hid fun x y w' hw => pair_spec _ h x y w' (HN.out.2.mono hw).1 (by omega)
  have HSS : Hid (SlS w (.slice p0 n0 c0) l) := HSV
  clear HS0 HS1 hR hR2
  go_wp2_with fail
  go_loopw [8, 46] (fun sv iv wr => ∃ i : Nat, i ≤ un ∧ iv = .int .i64 i ∧ sv = .bool (allUpto l g h al i) ∧ Blk wr w.heap.size #[.int .u64 (pl b 0), .int .u64 (pl b 1), .int .u64 (pl b 2), .int .u64 (pl b 3), .int .u64 (pl b 4), .int .u64 (pl b 5), .int .u64 (pl b 6), .int .u64 (pl b 7), .slice p0 n0 c0, .slice q0 k0 d0] 30 ∧ Blk wr (w.heap.size + 1) #[.int .u64 (pl b 0), .int .u64 (pl b 1), .int .u64 (pl b 2), .int .u64 (pl b 3), .int .u64 (pl b 4), .int .u64 (pl b 5), .int .u64 (pl b 6), .int .u64 (pl b 7), .slice p1 n1 c1, .slice q1 k1 d1] 30 ∧ Below w4.heap.size w4 wr ∧ Below w.heap.size w wr) (fun _ iv _ => un - (intOf iv).toNat)
  case atStart => exact ⟨0, Nat.zero_le _, rfl, by simp [allUpto], g0, g1, Below.refl _ _, hB4⟩
  case round =>
    clear g0 g1 hB4
    obtain ⟨i, hi, rfl, rfl, g0, g1, hb4, hB4⟩ := hrel
    by_cases hlt : i < un
    · have hx : al[i]? = some (al[i]'(by rw [HUN.out]; exact hlt)) := by simp
      generalize al[i]'(by rw [HUN.out]; exact hlt) = x at hx
      obtain ⟨ub, uo, huq, hcs⟩ := sl_at HA.out hx
      subst huq
      obtain ⟨a0, a1, a2, a3, a4, a5, a6, a7, a8, a9⟩ := ac_cells (hcs.mono hb4 hcs.1) hx
      have HCS := Lib.hid hcs
      have HX := Lib.hid hx
      clear hcs hx
      go_wp2_with fail
      clear a0 a1 a2 a3 a4 a5 a6 a7 a8 a9
      have hbe : Below wr.heap.size wr (wr.alloc (.cells (#[.int .u8 x.1, .int .i64 x.2.1, .int .u64 (pl x.2.2 0), .int .u64 (pl x.2.2 1), .int .u64 (pl x.2.2 2), .int .u64 (pl x.2.2 3), .int .u64 (pl x.2.2 4), .int .u64 (pl x.2.2 5), .int .u64 (pl x.2.2 6), .int .u64 (pl x.2.2 7)] : Array Value) 46)) := bel_alloc (bel_refl _) _
      have g10 : Blk (wr.alloc (.cells (#[.int .u8 x.1, .int .i64 x.2.1, .int .u64 (pl x.2.2 0), .int .u64 (pl x.2.2 1), .int .u64 (pl x.2.2 2), .int .u64 (pl x.2.2 3), .int .u64 (pl x.2.2 4), .int .u64 (pl x.2.2 5), .int .u64 (pl x.2.2 6), .int .u64 (pl x.2.2 7)] : Array Value) 46)) wr.heap.size #[.int .u8 x.1, .int .i64 x.2.1, .int .u64 (pl x.2.2 0), .int .u64 (pl x.2.2 1), .int .u64 (pl x.2.2 2), .int .u64 (pl x.2.2 3), .int .u64 (pl x.2.2 4), .int .u64 (pl x.2.2 5), .int .u64 (pl x.2.2 6), .int .u64 (pl x.2.2 7)] 46 := Blk.new _ _ _
      generalize hwv : (wr.alloc (.cells (#[.int .u8 x.1, .int .i64 x.2.1, .int .u64 (pl x.2.2 0), .int .u64 (pl x.2.2 1), .int .u64 (pl x.2.2 2), .int .u64 (pl x.2.2 3), .int .u64 (pl x.2.2 4), .int .u64 (pl x.2.2 5), .int .u64 (pl x.2.2 6), .int .u64 (pl x.2.2 7)] : Array Value) 46)) = wv at *
      replace g0 := g0.grow hbe
      replace g1 := g1.grow hbe
      have hb4v := hb4.trans (hbe.mono hb4.size)
      have hB4v := bel_trans hB4 hbe
      clear hbe hwv hb4 hB4
      generalize wr.heap.size = G10 at *
      generalize hS : allUpto l g h al i = S at *
      have HS := Lib.hid hS
      clear hS
      go_loopw [8, 52] (fun sv jv wq => ∃ j : Nat, j ≤ un ∧ jv = .int .i64 j ∧ sv = .bool (S && sameUpto l g h al x j) ∧ Blk wq w.heap.size #[.int .u64 (pl b 0), .int .u64 (pl b 1), .int .u64 (pl b 2), .int .u64 (pl b 3), .int .u64 (pl b 4), .int .u64 (pl b 5), .int .u64 (pl b 6), .int .u64 (pl b 7), .slice p0 n0 c0, .slice q0 k0 d0] 30 ∧ Blk wq (w.heap.size + 1) #[.int .u64 (pl b 0), .int .u64 (pl b 1), .int .u64 (pl b 2), .int .u64 (pl b 3), .int .u64 (pl b 4), .int .u64 (pl b 5), .int .u64 (pl b 6), .int .u64 (pl b 7), .slice p1 n1 c1, .slice q1 k1 d1] 30 ∧ Blk wq G10 #[.int .u8 x.1, .int .i64 x.2.1, .int .u64 (pl x.2.2 0), .int .u64 (pl x.2.2 1), .int .u64 (pl x.2.2 2), .int .u64 (pl x.2.2 3), .int .u64 (pl x.2.2 4), .int .u64 (pl x.2.2 5), .int .u64 (pl x.2.2 6), .int .u64 (pl x.2.2 7)] 46 ∧ Below w4.heap.size w4 wq ∧ Below w.heap.size w wq) (fun _ jv _ => un - (intOf jv).toNat)
      case atStart => exact ⟨0, Nat.zero_le _, rfl, by simp [sameUpto], g0, g1, g10, hb4v, hB4v⟩
      case round =>
        clear g0 g1 g10 hb4v hB4v
        obtain ⟨j, hj, rfl, rfl, g0, g1, g10, hb4, hB4⟩ := hrel
        by_cases hlj : j < un
        · have hy : al[j]? = some (al[j]'(by rw [HUN.out]; exact hlj)) := by simp
          generalize al[j]'(by rw [HUN.out]; exact hlj) = y at hy
          obtain ⟨a0, a1, a2, a3, a4, a5, a6, a7, a8, a9⟩ := ac_cells (HCS.out.mono hb4 HCS.out.1) hy
          have HY := Lib.hid hy
          clear hy
          have c0 := g0.cell
          have l0 := g0.lt
          have c10 := g10.cell
          have l10 := g10.lt
          obtain ⟨fr, hfr⟩ : ∃ fr, apartB l x y = fr := ⟨_, rfl⟩
          have HI := indep_hid HFI.out.2 HFI.out.1 (List.mem_of_getElem? HX.out) (List.mem_of_getElem? HY.out) w HSS.out hfr
          have HFR := Lib.hid hfr
          clear hfr
          go_wp2_with fail
          clear a0 a1 a2 a3 a4 a5 a6 a7 a8 a9 c0 l0 c10 l10
          have hbe : Below wr.heap.size wr (wr.alloc (.cells (#[.int .u8 y.1, .int .i64 y.2.1, .int .u64 (pl y.2.2 0), .int .u64 (pl y.2.2 1), .int .u64 (pl y.2.2 2), .int .u64 (pl y.2.2 3), .int .u64 (pl y.2.2 4), .int .u64 (pl y.2.2 5), .int .u64 (pl y.2.2 6), .int .u64 (pl y.2.2 7)] : Array Value) 46)) := bel_alloc (bel_refl _) _
          have g12 : Blk (wr.alloc (.cells (#[.int .u8 y.1, .int .i64 y.2.1, .int .u64 (pl y.2.2 0), .int .u64 (pl y.2.2 1), .int .u64 (pl y.2.2 2), .int .u64 (pl y.2.2 3), .int .u64 (pl y.2.2 4), .int .u64 (pl y.2.2 5), .int .u64 (pl y.2.2 6), .int .u64 (pl y.2.2 7)] : Array Value) 46)) wr.heap.size #[.int .u8 y.1, .int .i64 y.2.1, .int .u64 (pl y.2.2 0), .int .u64 (pl y.2.2 1), .int .u64 (pl y.2.2 2), .int .u64 (pl y.2.2 3), .int .u64 (pl y.2.2 4), .int .u64 (pl y.2.2 5), .int .u64 (pl y.2.2 6), .int .u64 (pl y.2.2 7)] 46 := Blk.new _ _ _
          generalize hwv : (wr.alloc (.cells (#[.int .u8 y.1, .int .i64 y.2.1, .int .u64 (pl y.2.2 0), .int .u64 (pl y.2.2 1), .int .u64 (pl y.2.2 2), .int .u64 (pl y.2.2 3), .int .u64 (pl y.2.2 4), .int .u64 (pl y.2.2 5), .int .u64 (pl y.2.2 6), .int .u64 (pl y.2.2 7)] : Array Value) 46)) = wy at *
          refine (HI.out _ (bel_trans hB4 hbe)).mono ?_
          rintro e w5 ⟨rfl, hb⟩
          have hbb := bel_trans hbe hb
          replace g0 := g0.grow hbb
          replace g1 := g1.grow hbb
          replace g10 := g10.grow hbb
          replace g12 := g12.grow hb
          have hb45 := hb4.trans (hbb.mono hb4.size)
          have hB5 := bel_trans hB4 hbb
          clear hb hbb hbe hwv hb4 hB4 HI
          generalize wr.heap.size = G12 at *
          generalize hsb : (S && sameUpto l g h al x j) = sb at *
          have HSB := Lib.hid hsb
          clear hsb
          have c0 := g0.cell
          have l0 := g0.lt
          have c1 := g1.cell
          have l1 := g1.lt
          have c10 := g10.cell
          have l10 := g10.lt
          have c12 := g12.cell
          have l12 := g12.lt
          go_wp2_with fail
          cases sb with
          | false =>
            refine wp_region_inv Grows (fun _ _ => True) [Is (.bool false), Is (.bool false), AnyV, Is undef, AnyV, AnyV, AnyV, AnyV, AnyV, AnyV, AnyV, AnyV, AnyV, AnyV, AnyV, AnyV, Is (.bool false), Is (.bool false)] (by kernel_rfl) (by kernel_rfl) rfl Grows.refl (fun _ _ _ => Grows.trans) (stable_mem ⟨fun _ _ _ h _ => h, fun _ _ _ h _ => h, fun _ _ _ h _ => h, fun _ _ _ h _ => h, fun _ _ _ h _ => h, fun _ _ _ h _ => h, fun _ _ _ h _ => h, fun _ _ _ h _ => h, fun _ _ _ h _ => h, fun _ _ _ h _ => h, fun _ _ _ h _ => h, fun _ _ _ h _ => h, fun _ _ _ h _ => h, fun _ _ _ h _ => h, fun _ _ _ h _ => h, fun _ _ _ h _ => h, fun _ _ _ h _ => h, fun _ _ _ h _ => h, trivial⟩) _ (Below.drew (Below.refl _ _)) trivial ?_
            refine inv_cons ?_ (fun v0 => ?_)
            · intro L w1 hat hb hI hF
              have hc := (Grows.cells hb).1
              try simp [factsI, Region.binds, Is] at hF
              go_simp
              try exact Grows.refl _
            refine inv_cons ?_ (fun v1 => ?_)
            · intro L w1 hat hb hI hF
              have hc := (Grows.cells hb).1
              try simp [factsI, Region.binds, Is] at hF
              go_simp
              try exact Grows.refl _
            refine inv_cons ?_ (fun v2 => ?_)
            · intro L w1 hat hb hI hF
              have hc := (Grows.cells hb).1
              try simp [factsI, Region.binds, Is] at hF
              go_simp
              first | done | exact trivial
            refine inv_cons ?_ (fun v3 => ?_)
            · intro L w1 hat hb hI hF
              have hc := (Grows.cells hb).1
              try simp [factsI, Region.binds, Is] at hF
              go_simp
              try rfl
            refine inv_cons ?_ (fun v4 => ?_)
            · intro L w1 hat hb hI hF
              have hc := (Grows.cells hb).1
              try simp [factsI, Region.binds, Is] at hF
              go_simp
              first | done | exact trivial
            refine inv_cons ?_ (fun v5 => ?_)
            · intro L w1 hat hb hI hF
              have hc := (Grows.cells hb).1
              try simp [factsI, Region.binds, Is] at hF
              go_simp
              first | done | exact trivial
            refine inv_cons ?_ (fun v6 => ?_)
            · intro L w1 hat hb hI hF
              have hc := (Grows.cells hb).1
              try simp [factsI, Region.binds, Is] at hF
              go_simp
              first | done | exact trivial
            refine inv_cons ?_ (fun v7 => ?_)
            · intro L w1 hat hb hI hF
              have hc := (Grows.cells hb).1
              try simp [factsI, Region.binds, Is] at hF
              go_simp
              first | done | exact trivial
            refine inv_cons ?_ (fun v8 => ?_)
            · intro L w1 hat hb hI hF
              have hc := (Grows.cells hb).1
              try simp [factsI, Region.binds, Is] at hF
              go_simp
              first | done | exact trivial
            refine inv_cons ?_ (fun v9 => ?_)
            · intro L w1 hat hb hI hF
              have hc := (Grows.cells hb).1
              try simp [factsI, Region.binds, Is] at hF
              go_simp
              first | done | exact trivial
            refine inv_cons ?_ (fun v10 => ?_)
            · intro L w1 hat hb hI hF
              have hc := (Grows.cells hb).1
              try simp [factsI, Region.binds, Is] at hF
              go_simp
              first | done | exact trivial
            refine inv_cons ?_ (fun v11 => ?_)
            · intro L w1 hat hb hI hF
              have hc := (Grows.cells hb).1
              try simp [factsI, Region.binds, Is] at hF
              go_simp
              first | done | exact trivial
            refine inv_cons ?_ (fun v12 => ?_)
            · intro L w1 hat hb hI hF
              have hc := (Grows.cells hb).1
              try simp [factsI, Region.binds, Is] at hF
              go_simp
              first | done | exact trivial
            refine inv_cons ?_ (fun v13 => ?_)
            · intro L w1 hat hb hI hF
              have hc := (Grows.cells hb).1
              try simp [factsI, Region.binds, Is] at hF
              go_simp
              first | done | exact trivial
            refine inv_cons ?_ (fun v14 => ?_)
            · intro L w1 hat hb hI hF
              have hc := (Grows.cells hb).1
              try simp [factsI, Region.binds, Is] at hF
              go_simp
              first | done | exact trivial
            refine inv_cons ?_ (fun v15 => ?_)
            · intro L w1 hat hb hI hF
              have hc := (Grows.cells hb).1
              try simp [factsI, Region.binds, Is] at hF
              go_simp
              first | done | exact trivial
            refine inv_cons ?_ (fun v16 => ?_)
            · intro L w1 hat hb hI hF
              have hc := (Grows.cells hb).1
              try simp [factsI, Region.binds, Is] at hF
              go_simp
              try exact Grows.refl _
            refine inv_cons ?_ (fun v17 => ?_)
            · intro L w1 hat hb hI hF
              have hc := (Grows.cells hb).1
              try simp [factsI, Region.binds, Is] at hF
              go_simp
              try exact Grows.refl _
            refine inv_nil ?_
            intro w1 hb hI hF
            simp [Is, Nat.forall_lt_succ_right] at hF
            have e0 := hF.1.1.1.1.1.1.1.1.1.1.1.1.1.1.1.1.1
            have e1 := hF.1.1.1.1.1.1.1.1.1.1.1.1.1.1.1.1.2
            have e2 := hF.1.1.1.1.1.1.1.1.1.1.1.1.1.1.1.2
            have e3 := hF.1.1.1.1.1.1.1.1.1.1.1.1.1.1.2
            have e4 := hF.1.1.1.1.1.1.1.1.1.1.1.1.1.2
            have e5 := hF.1.1.1.1.1.1.1.1.1.1.1.1.2
            have e6 := hF.1.1.1.1.1.1.1.1.1.1.1.2
            have e7 := hF.1.1.1.1.1.1.1.1.1.1.2
            have e8 := hF.1.1.1.1.1.1.1.1.1.2
            have e9 := hF.1.1.1.1.1.1.1.1.2
            have e10 := hF.1.1.1.1.1.1.1.2
            have e11 := hF.1.1.1.1.1.1.2
            have e12 := hF.1.1.1.1.1.2
            have e13 := hF.1.1.1.1.2
            have e14 := hF.1.1.1.2
            have e15 := hF.1.1.2
            have e16 := hF.1.2
            have e17 := hF.2
            clear hF
            simp only [Act.put, List.setIfInBounds_toArray, List.set_cons_succ, List.set_cons_zero, e0, e1, e3, e16, e17]
            clear e0 e1 e3 e16 e17
            have hB6 := bel_trans hB5 hb
            have hb46 := hb45.trans (hb.mono hb45.size)
            have g0' := g0.grow hb
            have g1' := g1.grow hb
            have g10' := g10.grow hb
            clear g0 g1 g10 g12 hb hI
            go_wp2_with fail
            go_roundw
            case rel => exact ⟨j + 1, by omega, by go_num, by rw [sameUpto_succ HY.out, ← Bool.and_assoc, HSB.out]; rfl, g0', g1', g10', hb46, hB6⟩
            case measure => simp [intOf]; omega
          | true =>
            cases fr with
            | true =>
              refine wp_region_inv Grows (fun _ _ => True) [Is (.bool true), Is (.bool true), Is (.bool true), Is (.bool true), AnyV, AnyV, AnyV, AnyV, AnyV, AnyV, AnyV, AnyV, AnyV, AnyV, AnyV, Is (.bool true), Is (.bool true), Is (.bool true)] (by kernel_rfl) (by kernel_rfl) rfl Grows.refl (fun _ _ _ => Grows.trans) (stable_mem ⟨fun _ _ _ h _ => h, fun _ _ _ h _ => h, fun _ _ _ h _ => h, fun _ _ _ h _ => h, fun _ _ _ h _ => h, fun _ _ _ h _ => h, fun _ _ _ h _ => h, fun _ _ _ h _ => h, fun _ _ _ h _ => h, fun _ _ _ h _ => h, fun _ _ _ h _ => h, fun _ _ _ h _ => h, fun _ _ _ h _ => h, fun _ _ _ h _ => h, fun _ _ _ h _ => h, fun _ _ _ h _ => h, fun _ _ _ h _ => h, fun _ _ _ h _ => h, trivial⟩) _ (Below.drew (Below.refl _ _)) trivial ?_
              refine inv_cons ?_ (fun v0 => ?_)
              · intro L w1 hat hb hI hF
                have hc := (Grows.cells hb).1
                try simp [factsI, Region.binds, Is] at hF
                go_simp
                try exact Grows.refl _
              refine inv_cons ?_ (fun v1 => ?_)
              · intro L w1 hat hb hI hF
                have hc := (Grows.cells hb).1
                try simp [factsI, Region.binds, Is] at hF
                go_simp
                try exact Grows.refl _
              refine inv_cons ?_ (fun v2 => ?_)
              · intro L w1 hat hb hI hF
                have hc := (Grows.cells hb).1
                try simp [factsI, Region.binds, Is] at hF
                go_simp
                try exact Grows.refl _
              refine inv_cons ?_ (fun v3 => ?_)
              · intro L w1 hat hb hI hF
                have hc := (Grows.cells hb).1
                try simp [factsI, Region.binds, Is] at hF
                go_simp
                try exact Grows.refl _
              refine inv_cons ?_ (fun v4 => ?_)
              · intro L w1 hat hb hI hF
                have hc := (Grows.cells hb).1
                try simp [factsI, Region.binds, Is] at hF
                go_simp
                first | done | exact trivial
              refine inv_cons ?_ (fun v5 => ?_)
              · intro L w1 hat hb hI hF
                have hc := (Grows.cells hb).1
                try simp [factsI, Region.binds, Is] at hF
                go_simp
                first | done | exact trivial
              refine inv_cons ?_ (fun v6 => ?_)
              · intro L w1 hat hb hI hF
                have hc := (Grows.cells hb).1
                try simp [factsI, Region.binds, Is] at hF
                go_simp
                first | done | exact trivial
              refine inv_cons ?_ (fun v7 => ?_)
              · intro L w1 hat hb hI hF
                have hc := (Grows.cells hb).1
                try simp [factsI, Region.binds, Is] at hF
                go_simp
                first | done | exact trivial
              refine inv_cons ?_ (fun v8 => ?_)
              · intro L w1 hat hb hI hF
                have hc := (Grows.cells hb).1
                try simp [factsI, Region.binds, Is] at hF
                go_simp
                first | done | exact trivial
              refine inv_cons ?_ (fun v9 => ?_)
              · intro L w1 hat hb hI hF
                have hc := (Grows.cells hb).1
                try simp [factsI, Region.binds, Is] at hF
                go_simp
                first | done | exact trivial
              refine inv_cons ?_ (fun v10 => ?_)
              · intro L w1 hat hb hI hF
                have hc := (Grows.cells hb).1
                try simp [factsI, Region.binds, Is] at hF
                go_simp
                first | done | exact trivial
              refine inv_cons ?_ (fun v11 => ?_)
              · intro L w1 hat hb hI hF
                have hc := (Grows.cells hb).1
                try simp [factsI, Region.binds, Is] at hF
                go_simp
                first | done | exact trivial
              refine inv_cons ?_ (fun v12 => ?_)
              · intro L w1 hat hb hI hF
                have hc := (Grows.cells hb).1
                try simp [factsI, Region.binds, Is] at hF
                go_simp
                first | done | exact trivial
              refine inv_cons ?_ (fun v13 => ?_)
              · intro L w1 hat hb hI hF
                have hc := (Grows.cells hb).1
                try simp [factsI, Region.binds, Is] at hF
                go_simp
                first | done | exact trivial
              refine inv_cons ?_ (fun v14 => ?_)
              · intro L w1 hat hb hI hF
                have hc := (Grows.cells hb).1
                try simp [factsI, Region.binds, Is] at hF
                go_simp
                first | done | exact trivial
              refine inv_cons ?_ (fun v15 => ?_)
              · intro L w1 hat hb hI hF
                have hc := (Grows.cells hb).1
                try simp [factsI, Region.binds, Is] at hF
                go_simp
                try exact Grows.refl _
              refine inv_cons ?_ (fun v16 => ?_)
              · intro L w1 hat hb hI hF
                have hc := (Grows.cells hb).1
                try simp [factsI, Region.binds, Is] at hF
                go_simp
                try exact Grows.refl _
              refine inv_cons ?_ (fun v17 => ?_)
              · intro L w1 hat hb hI hF
                have hc := (Grows.cells hb).1
                try simp [factsI, Region.binds, Is] at hF
                go_simp
                try exact Grows.refl _
              refine inv_nil ?_
              intro w1 hb hI hF
              simp [Is, Nat.forall_lt_succ_right] at hF
              have e0 := hF.1.1.1.1.1.1.1.1.1.1.1.1.1.1.1.1.1
              have e1 := hF.1.1.1.1.1.1.1.1.1.1.1.1.1.1.1.1.2
              have e2 := hF.1.1.1.1.1.1.1.1.1.1.1.1.1.1.1.2
              have e3 := hF.1.1.1.1.1.1.1.1.1.1.1.1.1.1.2
              have e4 := hF.1.1.1.1.1.1.1.1.1.1.1.1.1.2
              have e5 := hF.1.1.1.1.1.1.1.1.1.1.1.1.2
              have e6 := hF.1.1.1.1.1.1.1.1.1.1.1.2
              have e7 := hF.1.1.1.1.1.1.1.1.1.1.2
              have e8 := hF.1.1.1.1.1.1.1.1.1.2
              have e9 := hF.1.1.1.1.1.1.1.1.2
              have e10 := hF.1.1.1.1.1.1.1.2
              have e11 := hF.1.1.1.1.1.1.2
              have e12 := hF.1.1.1.1.1.2
              have e13 := hF.1.1.1.1.2
              have e14 := hF.1.1.1.2
              have e15 := hF.1.1.2
              have e16 := hF.1.2
              have e17 := hF.2
              clear hF
              simp only [Act.put, List.setIfInBounds_toArray, List.set_cons_succ, List.set_cons_zero, e0, e1, e2, e3, e15, e16, e17]
              clear e0 e1 e2 e3 e15 e16 e17
              have hB6 := bel_trans hB5 hb
              have hb46 := hb45.trans (hb.mono hb45.size)
              have g0' := g0.grow hb
              have g1' := g1.grow hb
              have g10' := g10.grow hb
              clear g0 g1 g10 g12 hb hI
              go_wp2_with fail
              go_roundw
              case rel => exact ⟨j + 1, by omega, by go_num, by rw [sameUpto_succ HY.out, ← Bool.and_assoc, HSB.out, freeOrSame_fr HFR.out]; rfl, g0', g1', g10', hb46, hB6⟩
              case measure => simp [intOf]; omega
            | false =>
              obtain ⟨r, hr⟩ : ∃ r, (prj x y g == prj x y h) = r := ⟨_, rfl⟩
              have HRR := Lib.hid hr
              refine wp_region_inv Grows (fun _ _ => True) [Is (.bool true), Is (.bool true), Is (.bool false), Is (.bool false), Is (.pointer (some ⟨w.heap.size, 9, none⟩)), Is (.slice q0 k0 d0), Is (.agg #[.int .u8 x.1, .int .i64 x.2.1, .int .u64 (pl x.2.2 0), .int .u64 (pl x.2.2 1), .int .u64 (pl x.2.2 2), .int .u64 (pl x.2.2 3), .int .u64 (pl x.2.2 4), .int .u64 (pl x.2.2 5), .int .u64 (pl x.2.2 6), .int .u64 (pl x.2.2 7)]), Is (.agg #[.int .u8 y.1, .int .i64 y.2.1, .int .u64 (pl y.2.2 0), .int .u64 (pl y.2.2 1), .int .u64 (pl y.2.2 2), .int .u64 (pl y.2.2 3), .int .u64 (pl y.2.2 4), .int .u64 (pl y.2.2 5), .int .u64 (pl y.2.2 6), .int .u64 (pl y.2.2 7)]), VSA (prj x y g), Is (.pointer (some ⟨w.heap.size + 1, 9, none⟩)), Is (.slice q1 k1 d1), Is (.agg #[.int .u8 x.1, .int .i64 x.2.1, .int .u64 (pl x.2.2 0), .int .u64 (pl x.2.2 1), .int .u64 (pl x.2.2 2), .int .u64 (pl x.2.2 3), .int .u64 (pl x.2.2 4), .int .u64 (pl x.2.2 5), .int .u64 (pl x.2.2 6), .int .u64 (pl x.2.2 7)]), Is (.agg #[.int .u8 y.1, .int .i64 y.2.1, .int .u64 (pl y.2.2 0), .int .u64 (pl y.2.2 1), .int .u64 (pl y.2.2 2), .int .u64 (pl y.2.2 3), .int .u64 (pl y.2.2 4), .int .u64 (pl y.2.2 5), .int .u64 (pl y.2.2 6), .int .u64 (pl y.2.2 7)]), VSA (prj x y h), Is (.bool r), Is (.bool r), Is (.bool r), Is (.bool r)] (by kernel_rfl) (by kernel_rfl) rfl Grows.refl (fun _ _ _ => Grows.trans) (stable_mem ⟨fun _ _ _ h _ => h, fun _ _ _ h _ => h, fun _ _ _ h _ => h, fun _ _ _ h _ => h, fun _ _ _ h _ => h, fun _ _ _ h _ => h, fun _ _ _ h _ => h, fun _ _ _ h _ => h, VSA.stabY, fun _ _ _ h _ => h, fun _ _ _ h _ => h, fun _ _ _ h _ => h, fun _ _ _ h _ => h, VSA.stabY, fun _ _ _ h _ => h, fun _ _ _ h _ => h, fun _ _ _ h _ => h, fun _ _ _ h _ => h, trivial⟩) _ (Below.drew (Below.refl _ _)) trivial ?_
              refine inv_cons ?_ (fun v0 => ?_)
              · intro L w1 hat hb hI hF
                have hc := (Grows.cells hb).1
                try simp [factsI, Region.binds, Is] at hF
                go_simp
                try exact Grows.refl _
              refine inv_cons ?_ (fun v1 => ?_)
              · intro L w1 hat hb hI hF
                have hc := (Grows.cells hb).1
                try simp [factsI, Region.binds, Is] at hF
                go_simp
                try exact Grows.refl _
              refine inv_cons ?_ (fun v2 => ?_)
              · intro L w1 hat hb hI hF
                have hc := (Grows.cells hb).1
                try simp [factsI, Region.binds, Is] at hF
                go_simp
                try exact Grows.refl _
              refine inv_cons ?_ (fun v3 => ?_)
              · intro L w1 hat hb hI hF
                have hc := (Grows.cells hb).1
                try simp [factsI, Region.binds, Is] at hF
                go_simp
                try exact Grows.refl _
              refine inv_cons ?_ (fun v4 => ?_)
              · intro L w1 hat hb hI hF
                have hc := (Grows.cells hb).1
                try simp [factsI, Region.binds, Is] at hF
                go_simp
                try exact Grows.refl _
              refine inv_cons ?_ (fun v5 => ?_)
              · intro L w1 hat hb hI hF
                have hc := (Grows.cells hb).1
                try simp [factsI, Region.binds, Is] at hF
                go_simp
                try exact Grows.refl _
              refine inv_cons ?_ (fun v6 => ?_)
              · intro L w1 hat hb hI hF
                have hc := (Grows.cells hb).1
                try simp [factsI, Region.binds, Is] at hF
                go_simp
                try exact Grows.refl _
              refine inv_cons ?_ (fun v7 => ?_)
              · intro L w1 hat hb hI hF
                have hc := (Grows.cells hb).1
                try simp [factsI, Region.binds, Is] at hF
                go_simp
                try exact Grows.refl _
              refine inv_cons ?_ (fun v8 => ?_)
              · intro L w1 hat hb hI hF
                have hc := (Grows.cells hb).1
                try simp [factsI, Region.binds, Is] at hF
                go_simp
                refine (H44g.out x y _ (bel_trans hB5 hb)).mono ?_
                rintro e w' ⟨u, rfl, hO, hB⟩
                exact ⟨u, rfl, hB, by unfold VSA; exact OwnA.sl hO⟩
              refine inv_cons ?_ (fun v9 => ?_)
              · intro L w1 hat hb hI hF
                have hc := (Grows.cells hb).1
                try simp [factsI, Region.binds, Is] at hF
                go_simp
                try exact Grows.refl _
              refine inv_cons ?_ (fun v10 => ?_)
              · intro L w1 hat hb hI hF
                have hc := (Grows.cells hb).1
                try simp [factsI, Region.binds, Is] at hF
                go_simp
                try exact Grows.refl _
              refine inv_cons ?_ (fun v11 => ?_)
              · intro L w1 hat hb hI hF
                have hc := (Grows.cells hb).1
                try simp [factsI, Region.binds, Is] at hF
                go_simp
                try exact Grows.refl _
              refine inv_cons ?_ (fun v12 => ?_)
              · intro L w1 hat hb hI hF
                have hc := (Grows.cells hb).1
                try simp [factsI, Region.binds, Is] at hF
                go_simp
                try exact Grows.refl _
              refine inv_cons ?_ (fun v13 => ?_)
              · intro L w1 hat hb hI hF
                have hc := (Grows.cells hb).1
                try simp [factsI, Region.binds, Is] at hF
                go_simp
                refine (H44h.out x y _ (bel_trans hB5 hb)).mono ?_
                rintro e w' ⟨u, rfl, hO, hB⟩
                exact ⟨u, rfl, hB, by unfold VSA; exact OwnA.sl hO⟩
              refine inv_cons ?_ (fun v14 => ?_)
              · intro L w1 hat hb hI hF
                have hc := (Grows.cells hb).1
                try simp [factsI, Region.binds, Is] at hF
                have h8 := hF.1
                have h13 := hF.2.1
                have h3 := hF.2.2
                unfold VSA at h8 h13
                have HH := Lib.hid (And.intro h8 h13)
                clear h8 h13 hF
                go_simp
                refine (EqualAc_spec _ _ _ _ w1 HH.out.1 HH.out.2).mono ?_
                rintro e w' ⟨rfl, hB⟩
                exact ⟨by rw [HRR.out], hB⟩
              refine inv_cons ?_ (fun v15 => ?_)
              · intro L w1 hat hb hI hF
                have hc := (Grows.cells hb).1
                try simp [factsI, Region.binds, Is] at hF
                go_simp
                try exact Grows.refl _
              refine inv_cons ?_ (fun v16 => ?_)
              · intro L w1 hat hb hI hF
                have hc := (Grows.cells hb).1
                try simp [factsI, Region.binds, Is] at hF
                go_simp
                try exact Grows.refl _
              refine inv_cons ?_ (fun v17 => ?_)
              · intro L w1 hat hb hI hF
                have hc := (Grows.cells hb).1
                try simp [factsI, Region.binds, Is] at hF
                go_simp
                try exact Grows.refl _
              refine inv_nil ?_
              intro w1 hb hI hF
              simp [Is, Nat.forall_lt_succ_right] at hF
              have e0 := hF.1.1.1.1.1.1.1.1.1.1.1.1.1.1.1.1.1
              have e1 := hF.1.1.1.1.1.1.1.1.1.1.1.1.1.1.1.1.2
              have e2 := hF.1.1.1.1.1.1.1.1.1.1.1.1.1.1.1.2
              have e3 := hF.1.1.1.1.1.1.1.1.1.1.1.1.1.1.2
              have e4 := hF.1.1.1.1.1.1.1.1.1.1.1.1.1.2
              have e5 := hF.1.1.1.1.1.1.1.1.1.1.1.1.2
              have e6 := hF.1.1.1.1.1.1.1.1.1.1.1.2
              have e7 := hF.1.1.1.1.1.1.1.1.1.1.2
              have e8 := hF.1.1.1.1.1.1.1.1.1.2
              have e9 := hF.1.1.1.1.1.1.1.1.2
              have e10 := hF.1.1.1.1.1.1.1.2
              have e11 := hF.1.1.1.1.1.1.2
              have e12 := hF.1.1.1.1.1.2
              have e13 := hF.1.1.1.1.2
              have e14 := hF.1.1.1.2
              have e15 := hF.1.1.2
              have e16 := hF.1.2
              have e17 := hF.2
              clear hF
              simp only [Act.put, List.setIfInBounds_toArray, List.set_cons_succ, List.set_cons_zero, e0, e1, e2, e3, e4, e5, e6, e7, e9, e10, e11, e12, e14, e15, e16, e17]
              clear e0 e1 e2 e3 e4 e5 e6 e7 e9 e10 e11 e12 e14 e15 e16 e17
              clear e8 e13
              have hB6 := bel_trans hB5 hb
              have hb46 := hb45.trans (hb.mono hb45.size)
              have g0' := g0.grow hb
              have g1' := g1.grow hb
              have g10' := g10.grow hb
              clear g0 g1 g10 g12 hb hI
              go_wp2_with fail
              go_roundw
              case rel => exact ⟨j + 1, by omega, by go_num, by rw [sameUpto_succ HY.out, ← Bool.and_assoc, HSB.out, freeOrSame_ap HFR.out, HRR.out]; simp, g0', g1', g10', hb46, hB6⟩
              case measure => simp [intOf]; omega
        · have hjn : j = un := by omega
          subst hjn
          go_wp2_with fail
          go_roundw
          case rel => exact ⟨i + 1, by omega, by go_num, by rw [allUpto_succ HX.out HUN.out, HS.out], g0, g1, hb4, hB4⟩
          case measure => simp [intOf]; omega
    · have hin : i = un := by omega
      subst hin
      rw [← HLAW.out]
      go_wp2_with fail
      refine (HAL.out _ hB4).mono ?_
      rintro e w5 ⟨rfl, hb⟩
      have hB5 := bel_trans hB4 hb
      go_wp2_with fail
      refine bodyPost_ret (v := .bool true) (by simp [results, Tryz.results7, go_sem]) rfl ⟨rfl, hB5⟩
theorem TraceProjected_walk (b0 : Sol) (u0 : Value) (l0 : List Sol) (av0 : Value) (g : List Ac) (b1 : Sol) (u1 : Value) (l1 : List Sol) (av1 : Value) (h : List Ac) (w : World)
    (S0 : SlS w u0 l0) (A0 : SlA w av0 g) (N0 : ∀ n c, av0 = .slice none n c → c = 0) (S1 : SlS w u1 l1) (A1 : SlA w av1 h) (N1 : ∀ n c, av1 = .slice none n c → c = 0) (hT : w.cell? ⟨5, 15, none⟩ = some (.int .u8 4)) :
    Calls Tryz.prog 7 #[.agg #[.int .u64 (pl b0 0), .int .u64 (pl b0 1), .int .u64 (pl b0 2), .int .u64 (pl b0 3), .int .u64 (pl b0 4), .int .u64 (pl b0 5), .int .u64 (pl b0 6), .int .u64 (pl b0 7), u0, av0], .agg #[.int .u64 (pl b1 0), .int .u64 (pl b1 1), .int .u64 (pl b1 2), .int .u64 (pl b1 3), .int .u64 (pl b1 4), .int .u64 (pl b1 5), .int .u64 (pl b1 6), .int .u64 (pl b1 7), u1, av1]] w fun e w' => e = .returned (.bool true) ∧ Below w.heap.size w w' := by
  have HAL := alive_h w hT
  have HNN : Hid (SlN w av0 g ∧ SlN w av1 h) := Lib.hid ⟨⟨A0, N0⟩, ⟨A1, N1⟩⟩
  have T0 := S0
  have T1 := S1
  have X0 := A0
  have X1 := A1
  obtain ⟨p0, c0, rfl, _, _⟩ := T0
  obtain ⟨p1, c1, rfl, _, _⟩ := T1
  obtain ⟨q0, d0, rfl, _, _⟩ := X0
  obtain ⟨q1, d1, rfl, _, _⟩ := X1
  generalize (g.map acL).length = k0 at *
  generalize (h.map acL).length = k1 at *
  generalize (l0.map solL).length = n0 at *
  generalize (l1.map solL).length = n1 at *
  cases hm : (many k0 n0 || many k1 n1) with
  | true => exact TraceProjected_many b0 b1 p0 p1 q0 q1 n0 n1 c0 c1 k0 k1 d0 d1 w hm HAL
  | false =>
    have P1 := Lib.hid fun w' (hb : Below w.heap.size w w') => SamePattern_spec b0 b1 _ _ l0 l1 w' (S0.mono hb) (S1.mono hb)
    cases e1 : samePat b0 l0 b1 l1 with
    | false => rw [e1] at P1; exact TraceProjected_other b0 b1 p0 p1 q0 q1 n0 n1 c0 c1 k0 k1 d0 d1 w hm P1 HAL
    | true =>
      rw [e1] at P1
      obtain ⟨rfl, rfl⟩ := samePat_eq e1
      by_cases hb : Bad b1 l1 g ∨ Bad b1 l1 h
      · obtain ⟨z, hz, HM⟩ := both_bad hb
        exact TraceProjected_bad b1 p0 p1 q0 q1 n0 n1 c0 c1 k0 k1 d0 d1 w hm P1 z hz (Lib.hid fun w' hbw => Equal_err b1 b1 _ _ _ _ z hz w' (Lib.hid fun w2 hb2 => HM w2 ((S0.mono hbw).mono hb2) ((A0.mono hbw).mono hb2) ((S1.mono hbw).mono hb2) ((A1.mono hbw).mono hb2))) HAL
      · obtain ⟨s, R⟩ : ∃ t, Runs b1 l1 g t := by rcases bad_or (b := b1) (l := l1) (m := g) with h1 | h1; exact absurd (.inl h1) hb; exact h1
        obtain ⟨t, R2⟩ : ∃ t, Runs b1 l1 h t := by rcases bad_or (b := b1) (l := l1) (m := h) with h1 | h1; exact absurd (.inr h1) hb; exact h1
        exact TraceProjected_main b1 p0 p1 q0 q1 n0 n1 c0 c1 k0 k1 d0 d1 w hm P1 (Lib.hid ⟨R, R2⟩) (Lib.hid ⟨S0, A0⟩) (Lib.hid ⟨S1, A1⟩) (Lib.hid S0) HNN HAL
end Go.Proofs.YtccnkebkgegohaaGreatDoor
end
