import Derived.Test.YtccnkebkgegohaaGreatDoorG09
/-
  Given contracts of functions of the program, and laws for them, one behind the other.
-/
set_option linter.unusedVariables false
set_option linter.unusedSimpArgs false
set_option linter.unusedSectionVars false
section
namespace Go.Proofs.YtccnkebkgegohaaGreatDoor
open Go.RowKit Go.Rel
set_option maxRecDepth 100000
def or3 (x y z : Int) : Int := if x = 0 then (if y = 0 then z else y) else x
set_option maxHeartbeats 4000000 in
theorem Or_spec (g : Nat) (x y z : Int) (w : World) (hg : g < w.heap.size) (c0 : w.cell? ⟨g, 0, none⟩ = some (.int .i64 x)) (c1 : w.cell? ⟨g, 1, none⟩ = some (.int .i64 y)) (c2 : w.cell? ⟨g, 2, none⟩ = some (.int .i64 z)) :
  Calls Tryz.prog 168 #[.slice (some ⟨g, 0, none⟩) 3 3] w fun e w' => e = .returned (.int .i64 (or3 x y z)) ∧ w' = w := by
 unfold or3
 by_cases hx : x = 0
 ·rw [if_pos hx]
  subst hx
  by_cases hy : y = 0
  ·rw [if_pos hy]
   subst hy
   by_cases hz : z = 0
   ·subst hz
    go_enter Tryz.func168, Tryz.ntmps168
    go_wp2_with fail
    refine wp_loop_rounds 4 ?_
    rw [rounds_succ]
    go_wp2_with fail
    rw [rounds_succ]
    go_wp2_with fail
    rw [rounds_succ]
    go_wp2_with fail
    rw [rounds_succ]
    go_wp2_with fail
    go_ret
    exact ⟨rfl, rfl⟩
   ·have hne : (z != 0) = true := by simpa using hz
    clear hz
    go_enter Tryz.func168, Tryz.ntmps168
    go_wp2_with fail
    refine wp_loop_rounds 4 ?_
    rw [rounds_succ]
    go_wp2_with fail
    rw [rounds_succ]
    go_wp2_with fail
    rw [rounds_succ]
    go_wp2_with fail
    go_ret
    exact ⟨rfl, rfl⟩
  ·rw [if_neg hy]
   have hne : (y != 0) = true := by simpa using hy
   clear hy
   go_enter Tryz.func168, Tryz.ntmps168
   go_wp2_with fail
   refine wp_loop_rounds 4 ?_
   rw [rounds_succ]
   go_wp2_with fail
   rw [rounds_succ]
   go_wp2_with fail
   go_ret
   exact ⟨rfl, rfl⟩
 ·rw [if_neg hx]
  have hne : (x != 0) = true := by simpa using hx
  clear hx
  go_enter Tryz.func168, Tryz.ntmps168
  go_wp2_with fail
  refine wp_loop_rounds 4 ?_
  rw [rounds_succ]
  go_wp2_with fail
  go_ret
  exact ⟨rfl, rfl⟩
/-- the planes of a solid -/
def planes (s : Sol) : List Int := [pl s 0, pl s 1, pl s 2, pl s 3, pl s 4, pl s 5, pl s 6, pl s 7]
/-- compare -/
def cmpA (a b : Ac) : Int := or3 (cmpI a.1 b.1) (cmpI a.2.1 b.2.1) (cmpL (planes a.2.2) (planes b.2.2))
theorem planes_cells {w : World} {g : Nat} {x y : Value} {s : Sol} {t : TypeId} (h : Blk w g #[x, y, .int .u64 (pl s 0), .int .u64 (pl s 1), .int .u64 (pl s 2), .int .u64 (pl s 3), .int .u64 (pl s 4), .int .u64 (pl s 5), .int .u64 (pl s 6), .int .u64 (pl s 7)] t) : Cells w g 2 1 ((planes s).map u64L) := by
 refine ⟨h.lt, fun i j u hu => ?_⟩
 rw [h.cell]
 have hi : i < 8 := by
  rcases Nat.lt_or_ge i 8 with h | h
  ·exact h
  ·rw [List.getElem?_eq_none (by simpa [planes] using h)] at hu; simp at hu
 obtain rfl | rfl | rfl | rfl | rfl | rfl | rfl | rfl : i = 0 ∨ i = 1 ∨ i = 2 ∨ i = 3 ∨ i = 4 ∨ i = 5 ∨ i = 6 ∨ i = 7 := by omega
 all_goals (
  have hj : j = 0 := by
   rcases Nat.eq_zero_or_pos j with h | h
   ·exact h
   ·simp [planes] at hu
    obtain ⟨j', rfl⟩ : ∃ j', j = j' + 1 := ⟨j - 1, by omega⟩
    simp at hu
  subst hj
  simpa [planes] using hu)
set_option maxHeartbeats 4000000 in
theorem compare_spec (a b : Ac) (w : World) : Calls Tryz.prog 130 #[.agg #[.int .u8 a.1, .int .i64 a.2.1, .int .u64 (pl a.2.2 0), .int .u64 (pl a.2.2 1), .int .u64 (pl a.2.2 2), .int .u64 (pl a.2.2 3), .int .u64 (pl a.2.2 4), .int .u64 (pl a.2.2 5), .int .u64 (pl a.2.2 6), .int .u64 (pl a.2.2 7)], .agg #[.int .u8 b.1, .int .i64 b.2.1, .int .u64 (pl b.2.2 0), .int .u64 (pl b.2.2 1), .int .u64 (pl b.2.2 2), .int .u64 (pl b.2.2 3), .int .u64 (pl b.2.2 4), .int .u64 (pl b.2.2 5), .int .u64 (pl b.2.2 6), .int .u64 (pl b.2.2 7)]] w fun e w' => e = .returned (.int .i64 (cmpA a b)) ∧ Below w.heap.size w w' := by
 have HL := Lib.hid (CompareU · 2 · 2 8 8 8 (planes a.2.2) (planes b.2.2))
 have h4 := fun w => cmp169 a.1 b.1 w
 have h9 := fun w => cmp170 a.2.1 b.2.1 w
 unfold cmpA
 generalize cmpI a.1 b.1 = x at h4 ⊢
 generalize cmpI a.2.1 b.2.1 = y at h9 ⊢
 generalize cmpL (planes a.2.2) (planes b.2.2) = z at HL ⊢
 have H4 := Lib.hid h4; have H9 := Lib.hid h9; clear h4 h9
 go_enter Tryz.func130, Tryz.ntmps130
 go_wp2_with fail
 refine wp_region_grow 17 [Is (.pointer (some ⟨w.heap.size, 0, none⟩)), Is (.int .u8 a.1), Is (.pointer (some ⟨w.heap.size + 1, 0, none⟩)), Is (.int .u8 b.1), Is (.int .i64 x), Is (.pointer (some ⟨w.heap.size, 1, none⟩)), Is (.int .i64 a.2.1), Is (.pointer (some ⟨w.heap.size + 1, 1, none⟩)), Is (.int .i64 b.2.1), Is (.int .i64 y), Is (.pointer (some ⟨w.heap.size, 2, none⟩)), Is (.slice (some ⟨w.heap.size, 2, none⟩) 8 8), Is (.pointer (some ⟨w.heap.size + 1, 2, none⟩)), Is (.slice (some ⟨w.heap.size + 1, 2, none⟩) 8 8), Is (.int .i64 z), fun v W => ∃ g, v = .slice (some ⟨g, 0, none⟩) 3 3 ∧ Blk W g #[.int .i64 x, .int .i64 y, .int .i64 z] 3, Is (.int .i64 (or3 x y z))] (by kernel_rfl) (by kernel_rfl) rfl ⟨fun _ _ _ h _ => h, fun _ _ _ h _ => h, fun _ _ _ h _ => h, fun _ _ _ h _ => h, fun _ _ _ h _ => h, fun _ _ _ h _ => h, fun _ _ _ h _ => h, fun _ _ _ h _ => h, fun _ _ _ h _ => h, fun _ _ _ h _ => h, fun _ _ _ h _ => h, fun _ _ _ h _ => h, fun _ _ _ h _ => h, fun _ _ _ h _ => h, fun _ _ _ h _ => h, (fun _ _ _ h g => h.elim fun b hb => ⟨b, hb.1, hb.2.grow g⟩), fun _ _ _ h _ => h, trivial⟩ ?_
 simp only [List.take_succ_cons, List.take_zero, List.drop_succ_cons, List.drop_zero]
 iterate 4 (refine rel_cons ?_ (fun _ => ?_); · intro w1 hb hF; have hc := (Grows.cells hb).1; have hf := (Grows.cells hb).2; (try simp [facts, Is] at hF); go_simp; exact Grows.refl _)
 refine rel_cons ?_ (fun v4 => ?_)
 ·intro w1 hb hF; have hc := (Grows.cells hb).1; have hf := (Grows.cells hb).2; try simp [facts, Is] at hF
  go_simp
  refine (H4.out _).mono ?_
  rintro e w4 ⟨rfl, rfl⟩
  exact ⟨rfl, Grows.refl _⟩
 iterate 4 (refine rel_cons ?_ (fun _ => ?_); · intro w1 hb hF; have hc := (Grows.cells hb).1; have hf := (Grows.cells hb).2; (try simp [facts, Is] at hF); go_simp; exact Grows.refl _)
 refine rel_cons ?_ (fun v9 => ?_)
 ·intro w1 hb hF; have hc := (Grows.cells hb).1; have hf := (Grows.cells hb).2; try simp [facts, Is] at hF
  go_simp
  refine (H9.out _).mono ?_
  rintro e w4 ⟨rfl, rfl⟩
  exact ⟨rfl, Grows.refl _⟩
 iterate 4 (refine rel_cons ?_ (fun _ => ?_); · intro w1 hb hF; have hc := (Grows.cells hb).1; have hf := (Grows.cells hb).2; (try simp [facts, Is] at hF); go_simp; exact Grows.refl _)
 refine rel_cons ?_ (fun v14 => ?_)
 ·intro w1 hb hF; have hc := (Grows.cells hb).1; have hf := (Grows.cells hb).2; try simp [facts, Is] at hF
  have bA : Blk w1 w.heap.size #[.int .u8 a.1, .int .i64 a.2.1, .int .u64 (pl a.2.2 0), .int .u64 (pl a.2.2 1), .int .u64 (pl a.2.2 2), .int .u64 (pl a.2.2 3), .int .u64 (pl a.2.2 4), .int .u64 (pl a.2.2 5), .int .u64 (pl a.2.2 6), .int .u64 (pl a.2.2 7)] 46 := Blk.grow blk_by hb
  have bB : Blk w1 (w.heap.size + 1) #[.int .u8 b.1, .int .i64 b.2.1, .int .u64 (pl b.2.2 0), .int .u64 (pl b.2.2 1), .int .u64 (pl b.2.2 2), .int .u64 (pl b.2.2 3), .int .u64 (pl b.2.2 4), .int .u64 (pl b.2.2 5), .int .u64 (pl b.2.2 6), .int .u64 (pl b.2.2 7)] 46 := Blk.grow blk_by hb
  have HC := Lib.hid (HL.out w.heap.size (w.heap.size + 1) w1 (planes_cells bA) (planes_cells bB) rfl rfl (by omega))
  clear bA bB
  go_simp
  refine HC.out.mono ?_
  rintro e w4 ⟨rfl, rfl⟩
  exact ⟨rfl, Grows.refl _⟩
 refine rel_cons ?_ (fun v15 => ?_)
 ·intro w1 hb hF; have hc := (Grows.cells hb).1; have hf := (Grows.cells hb).2; try simp [facts, Is] at hF
  go_simp
  exact ⟨bel_alloc (Grows.refl _) _, Blk.at _ _ rfl⟩
 refine rel_cons ?_ (fun v16 => ?_)
 ·intro w1 hb hF; have hc := (Grows.cells hb).1; have hf := (Grows.cells hb).2; try simp [facts, Is] at hF
  refine Exists.elim hF.1 (fun g hg => ?_)
  have hv := hg.1
  subst hv
  have HO := Lib.hid (Or_spec g x y z w1 hg.2.lt (hg.2.cell 0) (hg.2.cell 1) (hg.2.cell 2))
  clear hg hF
  go_simp
  refine HO.out.mono ?_
  rintro e w4 ⟨rfl, rfl⟩
  exact ⟨rfl, Grows.refl _⟩
 refine rel_nil ?_
 intro w1 hb hF
 simp [Is, Nat.forall_lt_succ_right] at hF
 have e0 := hF.1.1.1.1.1.1.1.1.1.1.1.1.1.1.1.1
 have e1 := hF.1.1.1.1.1.1.1.1.1.1.1.1.1.1.1.2
 have e2 := hF.1.1.1.1.1.1.1.1.1.1.1.1.1.1.2
 have e3 := hF.1.1.1.1.1.1.1.1.1.1.1.1.1.2
 have e4 := hF.1.1.1.1.1.1.1.1.1.1.1.1.2
 have e5 := hF.1.1.1.1.1.1.1.1.1.1.1.2
 have e6 := hF.1.1.1.1.1.1.1.1.1.1.2
 have e7 := hF.1.1.1.1.1.1.1.1.1.2
 have e8 := hF.1.1.1.1.1.1.1.1.2
 have e9 := hF.1.1.1.1.1.1.1.2
 have e10 := hF.1.1.1.1.1.1.2
 have e11 := hF.1.1.1.1.1.2
 have e12 := hF.1.1.1.1.2
 have e13 := hF.1.1.1.2
 have e14 := hF.1.1.2
 have e15 := hF.1.2
 have e16 := hF.2
 clear hF
 simp only [Act.put, List.setIfInBounds_toArray, List.set_cons_succ, List.set_cons_zero, e0, e1, e2, e3, e4, e5, e6, e7, e8, e9, e10, e11, e12, e13, e14, e16]
 clear e0 e1 e2 e3 e4 e5 e6 e7 e8 e9 e10 e11 e12 e13 e14 e16
 go_wp2_with fail
 go_ret
 exact ⟨rfl, bel_trans bel_by hb⟩
end Go.Proofs.YtccnkebkgegohaaGreatDoor
end
section
namespace Go.Proofs.YtccnkebkgegohaaGreatDoor
open Go.RowKit Go.Rel
set_option maxRecDepth 100000
set_option maxHeartbeats 4000000 in
theorem least1 {bp : Nat} {blank : Sol} {v av : Value} {l : List Sol} {acts : List Ac} {s : Stn} (w : World) (HP : PastAt bp blank v av l acts s w) (Ha : SlA w av acts) (bt : Nat) (hbt : w.cell? ⟨bt, 0, none⟩ = some (.pointer (some ⟨bp, 0, none⟩))) (j i : Nat) (x y : Ac) (hj : acts[j]? = some x) (hi : acts[i]? = some y) :
  Calls Tryz.prog 147 #[.int .i64 j, .int .i64 i, .pointer (some ⟨bt, 0, none⟩)] w fun e w' => e = .returned (.int .i64 (cmpA x y)) ∧ Below w.heap.size w w' := by
 obtain ⟨dv, hpast, _⟩ := HP.past
 rcases Ha.cases with ⟨hl, _⟩ | ⟨b, off, c, rfl, hc, hm, hpos, hcs⟩
 ·have : acts = [] := by simpa using hl
  subst this
  simp at hj
 have hjl : j < acts.length := (List.getElem?_eq_some_iff.1 hj).1
 have hil : i < acts.length := (List.getElem?_eq_some_iff.1 hi).1
 rw [List.length_map] at *
 obtain ⟨c0, c1, c2, c3, c4, c5, c6, c7, c8, c9⟩ := ac_cells hcs hj
 obtain ⟨d0, d1, d2, d3, d4, d5, d6, d7, d8, d9⟩ := ac_cells hcs hi
 have HH := Lib.hid (compare_spec x y)
 generalize cmpA x y = r at HH ⊢
 generalize acts.length = n at *
 have cp := hpast.cell
 have lp := hpast.lt
 have lb := hcs.1
 have lbt : bt < w.heap.size := block_lt_of_cell hbt
 clear hpast HP Ha hcs hj hi
 go_enter Tryz.func147, Tryz.ntmps147
 go_wp2_with fail
 refine wp_region_grow 15 [Is (.pointer (some ⟨bp, 0, none⟩)), Is (.pointer (some ⟨bp, 0, none⟩)), Is (.pointer (some ⟨bp, 9, none⟩)), Is (.slice (some ⟨b, off, none⟩) n c), Is (.int .i64 j), Is (.pointer (some ⟨b, off + j * 10, none⟩)), Is (.agg #[.int .u8 x.1, .int .i64 x.2.1, .int .u64 (pl x.2.2 0), .int .u64 (pl x.2.2 1), .int .u64 (pl x.2.2 2), .int .u64 (pl x.2.2 3), .int .u64 (pl x.2.2 4), .int .u64 (pl x.2.2 5), .int .u64 (pl x.2.2 6), .int .u64 (pl x.2.2 7)]), Is (.pointer (some ⟨bp, 0, none⟩)), Is (.pointer (some ⟨bp, 0, none⟩)), Is (.pointer (some ⟨bp, 9, none⟩)), Is (.slice (some ⟨b, off, none⟩) n c), Is (.int .i64 i), Is (.pointer (some ⟨b, off + i * 10, none⟩)), Is (.agg #[.int .u8 y.1, .int .i64 y.2.1, .int .u64 (pl y.2.2 0), .int .u64 (pl y.2.2 1), .int .u64 (pl y.2.2 2), .int .u64 (pl y.2.2 3), .int .u64 (pl y.2.2 4), .int .u64 (pl y.2.2 5), .int .u64 (pl y.2.2 6), .int .u64 (pl y.2.2 7)]), Is (.int .i64 r)] (by kernel_rfl) (by kernel_rfl) rfl ⟨fun _ _ _ h _ => h, fun _ _ _ h _ => h, fun _ _ _ h _ => h, fun _ _ _ h _ => h, fun _ _ _ h _ => h, fun _ _ _ h _ => h, fun _ _ _ h _ => h, fun _ _ _ h _ => h, fun _ _ _ h _ => h, fun _ _ _ h _ => h, fun _ _ _ h _ => h, fun _ _ _ h _ => h, fun _ _ _ h _ => h, fun _ _ _ h _ => h, fun _ _ _ h _ => h, trivial⟩ ?_
 simp only [List.take_succ_cons, List.take_zero, List.drop_succ_cons, List.drop_zero]
 iterate 14 (refine rel_cons ?_ (fun _ => ?_); · intro w1 hb hF; have hc := (Grows.cells hb).1; have hf := (Grows.cells hb).2; (try simp [facts, Is] at hF); go_simp; exact Grows.refl _)
 refine rel_cons ?_ (fun v14 => ?_)
 ·intro w1 hb hF; have hc := (Grows.cells hb).1; have hf := (Grows.cells hb).2; try simp [facts, Is] at hF
  go_simp
  refine (HH.out _).mono ?_
  rintro e w4 ⟨rfl, hb4⟩
  exact ⟨rfl, hb4⟩
 refine rel_nil ?_
 intro w1 hb hF
 simp [Is, Nat.forall_lt_succ_right] at hF
 simp only [Act.put, List.setIfInBounds_toArray, List.set_cons_succ, List.set_cons_zero, hF]
 clear hF
 go_wp2_with fail
 go_ret
 exact ⟨rfl, hb⟩
/-- the least by a comparison, the first of the least -/
def minF (f : Int → Int → Int) (m : Int) : List Int → Int
 | [] => m
 | x :: xs => minF f (if f x m < 0 then x else m) xs
theorem minF_at (f : Int → Int → Int) {l : List Int} {k : Nat} {x m : Int} (hx : l[k]? = some x) : minF f m (l.drop k) = minF f (if f x m < 0 then x else m) (l.drop (k + 1)) := by
 rw [List.drop_eq_getElem_cons (List.getElem?_eq_some_iff.1 hx).1, (List.getElem?_eq_some_iff.1 hx).2]; rfl
set_option maxHeartbeats 4000000 in
theorem MinFunc147 (v : Value) (l : List Int) (c0 : Value) (f : Int → Int → Int) (x0 : Int) (w : World) (h : SlI w v l) (h0 : l[0]? = some x0)
  (hf : ∀ w', Below w.heap.size w w' → ∀ x ∈ l, ∀ y ∈ l, Calls Tryz.prog 147 #[.int .i64 x, .int .i64 y, c0] w' fun e w'' => e = .returned (.int .i64 (f x y)) ∧ Below w'.heap.size w' w'') :
  Calls Tryz.prog 146 #[v, .func (.func 147) #[] #[c0]] w fun e w' => e = .returned (.int .i64 (minF f x0 (l.drop 1))) ∧ Below w.heap.size w w' := by
 rcases h.cases with ⟨hl, _⟩ | ⟨b, off, c, rfl, hc, hm, hpos, hcs⟩
 ·have hl' : l = [] := by simpa using hl
  subst hl'
  simp at h0
 rw [List.length_map] at hc hpos ⊢
 have H := Lib.hid hcs
 have HF := Lib.hid hf; clear hf h
 have lb := hcs.1
 have cz : w.cell? ⟨b, off, none⟩ = some (.int .i64 x0) := by simpa using int_cell hcs h0
 clear hcs
 have HM := Lib.hid (List.mem_of_getElem? h0); clear h0
 generalize hn : l.length = n at hc hpos ⊢
 have HN := Lib.hid hn; clear hn
 go_enter Tryz.func146, Tryz.ntmps146
 go_wp2_with fail
 go_loopw [5, 6] (fun m i wr => ∃ k : Nat, ∃ z : Int, k ≤ n ∧ i = .int .i64 k ∧ m = .int .i64 z ∧ Hid (z ∈ l ∧ minF f x0 (l.drop 1) = minF f z (l.drop k)) ∧ Below w.heap.size w wr) (fun _ i _ => n - (intOf i).toNat)
 case atStart => exact ⟨1, x0, by omega, rfl, rfl, Lib.hid ⟨HM.out, rfl⟩, Below.refl _ _⟩
 case round =>
  obtain ⟨k, z, hk, rfl, rfl, HP, hbel⟩ := hrel
  by_cases hlt : k < n
  ·have hx : l[k]? = some (l[k]'(by rw [HN.out]; exact hlt)) := by simp
   have cx := int_cell (H.out.mono hbel H.out.1) hx
   have hmem := List.mem_of_getElem? hx
   generalize l[k]'(by rw [HN.out]; exact hlt) = x at hx cx hmem
   have HX := Lib.hid (minF_at f (m := z) hx); clear hx
   have HMX := Lib.hid hmem; clear hmem
   have hsz := hbel.size
   go_wp2_with fail
   refine (HF.out _ hbel x HMX.out z HP.out.1).mono ?_
   rintro e w2 ⟨rfl, hb2⟩
   have hB : Below w.heap.size w w2 := bel_trans hbel hb2
   have cx2 := (hb2.cell (p := ⟨b, off + k, none⟩) (show b < wr.heap.size by omega)).trans cx
   have hs2 := hb2.size
   clear hb2 cx
   by_cases hr : f x z < 0
   ·rw [if_pos hr] at HX
    go_wp2_with fail
    go_roundw
    case rel => exact ⟨k + 1, x, by omega, by go_num, rfl, ⟨HMX.out, HP.out.2.trans HX.out⟩, hB⟩
    case measure => simp [intOf]; omega
   ·rw [if_neg hr] at HX
    go_wp2_with fail
    go_roundw
    case rel => exact ⟨k + 1, z, by omega, by go_num, rfl, ⟨HP.out.1, HP.out.2.trans HX.out⟩, hB⟩
    case measure => simp [intOf]; omega
  ·have hkn : k = n := by omega
   subst hkn
   have hz : minF f x0 (l.drop 1) = z := by
    rw [HP.out.2, List.drop_of_length_le (by rw [HN.out]; exact Nat.le_refl _)]; rfl
   have HZ := Lib.hid hz; clear hz
   go_wp2_with fail
   go_ret
   exact ⟨ret_int HZ.out.symm, hbel⟩
end Go.Proofs.YtccnkebkgegohaaGreatDoor
end
section
namespace Go.Proofs.YtccnkebkgegohaaGreatDoor
open Go.RowKit Go.Rel
set_option maxRecDepth 100000
theorem run_clear_row {P : Program} (w : World) (t e ty : TypeId) (z : Value) (ht : P.underlying t = some (.slice e)) (hv : ∀ w, (zeroValue e).run P w = .ok z w) (hz : z.cells = #[z]) (h1 : z.oneCell' = true) (g o n c : Nat) (hn : 0 < n)
  (cur : Array Value) (tt : TypeId) (hg : w.heap[g]? = some (.cells cur tt (0, 0))) (hfit : o + n ≤ cur.size) :
  (Builtin.clear_ #[t] ty #[.slice (some ⟨g, o, none⟩) n c]).run P w = .ok (.tuple #[]) (w.setRow g (cur.toList.take o ++ List.replicate n z ++ cur.toList.drop (o + n)).toArray) := by
 have hzc : (Builtin.zeroCells z.cells n).toList = List.replicate n z := by
  rw [hz]
  simp [Builtin.zeroCells]
  apply List.ext_getElem
  ·simp
  ·intro i h1 h2
   simp [Nat.mod_one]
 have hst := run_storeCells_at P g o tt (List.replicate n z) 0 cur w hg (by simpa using hfit) (by intro v hv'; rw [List.eq_of_mem_replicate hv']; exact h1)
 simp only [Nat.add_zero, List.length_replicate] at hst
 obtain ⟨m, rfl⟩ : ∃ m, n = m + 1 := ⟨n - 1, by omega⟩
 simp [Builtin.clear_, run_underlying ht, hv, hzc, hst]
theorem wpList_clear_row {P : Program} {w : World} {ops : Array Oper} {rest : List Oper} {o : Oper} {a : Act} {Q : Exit → Act → World → Prop} (hgd : o.guard = none) (x : Operand) (t e : TypeId)
  (ho : o.op = .call { callee := .builtin .clear, args := #[x], argTypes := #[t] }) (z : Value) (ht : P.underlying t = some (.slice e)) (hv : ∀ w, (zeroValue e).run P w = .ok z w) (hz : z.cells = #[z]) (h1 : z.oneCell' = true) (g of n c : Nat) (hn : 0 < n)
  (cur : Array Value) (tt : TypeId) (hx : a.eval x = .slice (some ⟨g, of, none⟩) n c) (hg : w.heap[g]? = some (.cells cur tt (0, 0))) (hfit : of + n ≤ cur.size)
  (h : wpList P ops Q rest (a.put o.dst (.tuple #[])) (w.setRow g (cur.toList.take of ++ List.replicate n z ++ cur.toList.drop (of + n)).toArray)) : wpList P ops Q (o :: rest) a w :=
 wpList_plain hgd fun _ hK => by
  have hr := run_clear_row (P := P) w t e o.type z ht hv hz h1 g of n c hn cur tt hg hfit
  unfold Oper.wp execOp
  simp only [ho, resolve, invoke, builtin, Sem.run_bind, Sem.run_pure, Result.andThen_ok, List.map_toArray, List.map_cons, List.map_nil, hx, hr]
  exact hK _ _ h
/-- what a round of DeleteFunc knows: i are kept of the first j -/
structure InvDel (base g cap n : Nat) (l : List Int) (p : Int → Bool) (i j : Nat) (w W : World) : Prop where
 mk ::
 blk : ∃ cur : Array Value, Blk W g cur 3 ∧ cur.size = cap ∧ cur.toList.take i = (((l.take j).filter fun x => !p x).map (Value.int .i64)) ∧ ∀ (t : Nat) (x : Int), j ≤ t → l[t]? = some x → cur[t]? = some (.int .i64 x)
 len : ((l.take j).filter fun x => !p x).length = i
 bel : Below base w W
section
variable {base g cap n : Nat} {l : List Int} {p : Int → Bool} {i j : Nat} {w W W' : World}
theorem InvDel.grow (H : InvDel base g cap n l p i j w W) (hb : Below W.heap.size W W') (hbase : base ≤ W.heap.size) : InvDel base g cap n l p i j w W' :=
 ⟨let ⟨cur, h1, h2, h3, h4⟩ := H.blk; ⟨cur, h1.grow hb, h2, h3, h4⟩, H.len, H.bel.trans (hb.mono hbase)⟩
theorem InvDel.gone (H : InvDel base g cap n l p i j w W) {x : Int} (hx : l[j]? = some x) (hp : p x = true) : InvDel base g cap n l p i (j + 1) w W := by
 have e : (l.take (j + 1)).filter (fun x => !p x) = (l.take j).filter fun x => !p x := by
  rw [List.take_add_one, hx]; simp [hp]
 obtain ⟨cur, h1, h2, h3, h4⟩ := H.blk
 exact ⟨⟨cur, h1, h2, by rw [e]; exact h3, fun t y ht => h4 t y (by omega)⟩, by rw [e]; exact H.len, H.bel⟩
theorem InvDel.kept (H : InvDel base g cap n l p i j w W) {x : Int} (hx : l[j]? = some x) (hp : p x = false) (hg : base ≤ g) (hcap : l.length ≤ cap) : InvDel base g cap n l p (i + 1) (j + 1) w (W.setCell ⟨g, i, none⟩ (.int .i64 x)) := by
 have e : (l.take (j + 1)).filter (fun x => !p x) = ((l.take j).filter fun x => !p x) ++ [x] := by
  rw [List.take_add_one, hx]; simp [hp]
 have hj : j < l.length := (List.getElem?_eq_some_iff.1 hx).1
 have hij : i ≤ j := by
  rw [← H.len]; exact Nat.le_trans (List.length_filter_le _ _) (by rw [List.length_take]; omega)
 obtain ⟨cur, h1, h2, h3, h4⟩ := H.blk
 have hi : i < cur.size := by omega
 refine ⟨⟨cur.setIfInBounds i (.int .i64 x), h1.set i _, by simpa using h2, ?_, fun t y ht hy => ?_⟩, by rw [e]; simp [H.len], H.bel.setCell hg _⟩
 ·rw [e, List.map_append, ← h3, Array.toList_setIfInBounds, List.take_add_one, List.take_set_of_le (Nat.le_refl _)]
  simp [hi]
 ·rw [Array.getElem?_setIfInBounds_ne (by omega)]
  exact h4 t y (by omega) hy
theorem InvDel.cells (H : InvDel base g cap n l p i j w W) {x : Int} (hx : l[j]? = some x) (hcap : l.length ≤ cap) : W.cell? ⟨g, j, none⟩ = some (.int .i64 x) ∧ W.frozen? ⟨g, i, none⟩ = false ∧ (∃ z, W.cell? ⟨g, i, none⟩ = some z) ∧ g < W.heap.size ∧ i ≤ j := by
 have hj : j < l.length := (List.getElem?_eq_some_iff.1 hx).1
 have hij : i ≤ j := by
  rw [← H.len]; exact Nat.le_trans (List.length_filter_le _ _) (by rw [List.length_take]; omega)
 obtain ⟨cur, h1, h2, h3, h4⟩ := H.blk
 exact ⟨(h1.cell j).trans (h4 j x (Nat.le_refl _) hx), h1.free i, ⟨cur[i]'(by omega), by rw [h1.cell]; simp [show i < cur.size by omega]⟩, h1.lt, hij⟩
end
end Go.Proofs.YtccnkebkgegohaaGreatDoor
end
section
namespace Go.Proofs.YtccnkebkgegohaaGreatDoor
open Go.RowKit Go.Rel
set_option maxRecDepth 100000
theorem idx_cases {α : Type} (p : α → Bool) (l : List α) : (idx p l = -1 ∧ ∀ x ∈ l, p x = false) ∨ ∃ (k : Nat) (x : α), idx p l = (k : Int) ∧ l[k]? = some x ∧ p x = true ∧ ∀ (j : Nat) (y : α), j < k → l[j]? = some y → p y = false := by
 unfold idx
 cases h : l.findIdx? p with
 | none => exact .inl ⟨rfl, fun x hx => by simpa using List.findIdx?_eq_none_iff.1 h x hx⟩
 | some i =>
  obtain ⟨hi, hp, hb⟩ := List.findIdx?_eq_some_iff_getElem.1 h
  refine .inr ⟨i, l[i], rfl, by simp, hp, fun j y hj hy => ?_⟩
  have := hb j hj
  rw [(List.getElem?_eq_some_iff.1 hy).2] at this
  simpa using this
set_option maxHeartbeats 4000000 in
theorem DeleteFunc149 (v c0 : Value) (l : List Int) (p : Int → Bool) (base : Nat) (w : World) (h : OwnI w base v l) (hbase : base ≤ w.heap.size)
  (hf : ∀ w', Below base w w' → ∀ x ∈ l, Calls Tryz.prog 149 #[.int .i64 x, c0] w' fun e w'' => e = .returned (.bool (p x)) ∧ Below w'.heap.size w' w'') :
  Calls Tryz.prog 113 #[v, .func (.func 149) #[] #[c0]] w fun e w' => ∃ u, e = .returned u ∧ OwnI w' base u (l.filter fun x => !p x) ∧ Below base w w' := by
 have hidx := Lib.hid (IndexFunc149 v l c0 p w h.sl (fun w' hw => hf w' (hw.mono hbase)))
 rcases idx_cases p l with ⟨hi, hno⟩ | ⟨k0, x0, hi, hx0, hp0, hbefore⟩
 ·rw [hi] at hidx
  obtain ⟨vp, vc, rfl, _, _⟩ := own_shape' h
  have HO := Lib.hid (And.intro h hno); clear h hf hno
  go_enter Tryz.func113, Tryz.ntmps113
  go_wp2_with fail
  refine hidx.out.mono ?_
  rintro e w1 ⟨rfl, hb⟩
  go_wp2_with fail
  go_ret
  refine ⟨_, rfl, ?_, hb.mono hbase⟩
  rw [List.filter_eq_self.2 (fun x hx => by simp [HO.out.2 x hx])]
  exact own_grow HO.out.1 hb
 ·rw [hi] at hidx
  have hk0 : k0 < l.length := (List.getElem?_eq_some_iff.1 hx0).1
  rcases h.2 with ⟨_, h0⟩ | ⟨g, cap, cur, rfl, hbg, hg, hnc, hcm, hcs, htake⟩
  ·omega
  have HF := Lib.hid hf; clear hf
  have hcm' : cap ≤ 9223372036854775807 := by unfold maxLen at hcm; omega
  have hstart : InvDel base g cap l.length l p k0 k0 w w := by
   have e : (l.take k0).filter (fun x => !p x) = l.take k0 := List.filter_eq_self.2 (fun x hx => by
    obtain ⟨t, ht⟩ := List.mem_iff_getElem?.1 hx
    rw [List.getElem?_take] at ht
    split at ht
    ·rename_i htk; simp [hbefore t x htk ht]
    ·cases ht)
   have key : ∀ (t : Nat) (x : Int), l[t]? = some x → cur[t]? = some (.int .i64 x) := by
    intro t x ht
    have h1 : (l.map (Value.int .i64))[t]? = some (.int .i64 x) := by simp [ht]
    rw [← htake, List.getElem?_take] at h1
    split at h1
    ·simpa using h1
    ·cases h1
   refine ⟨⟨cur, hg, by omega, ?_, fun t x _ ht => key t x ht⟩, by rw [e, List.length_take]; omega, Below.refl _ _⟩
   rw [e, List.map_take, ← htake, List.take_take]
   congr 1
   omega
  have hstart2 := hstart.gone hx0 hp0
  have HS := Lib.hid hstart2; clear hstart hstart2 htake hcs hg h hbefore hx0 hp0
  have hlg : g < w.heap.size := (Classical.choose_spec HS.out.blk).1.lt
  generalize hn : l.length = n at *
  have HN := Lib.hid hn; clear hn
  go_enter Tryz.func113, Tryz.ntmps113
  go_wp2_with fail
  refine hidx.out.mono ?_
  rintro e w1 ⟨rfl, hb1⟩
  have hlg1 : g < w1.heap.size := Nat.lt_of_lt_of_le hlg hb1.size
  have HS1 := Lib.hid (HS.out.grow hb1 hbase)
  clear HS hidx
  have hb1' := hb1.mono hbase
  clear hb1
  go_wp2_with fail
  have hk1 : ((k0 : Int) == -1) = false := by simp
  simp only [hk1]
  clear hk1
  go_loopw [5, 6] (fun iv jv wr => ∃ i j : Nat, j ≤ n ∧ iv = .int .i64 i ∧ jv = .int .i64 j ∧ i < j ∧ base ≤ wr.heap.size ∧ InvDel base g cap n l p i j w wr) (fun _ jv _ => n - (intOf jv).toNat)
  case atStart => exact ⟨k0, k0 + 1, by omega, rfl, by go_num, by omega, by have := hb1'.size; omega, HS1.out⟩
  case round =>
   obtain ⟨i, j, hj, rfl, rfl, hij, hbw, hinv⟩ := hrel
   have HI := Lib.hid hinv; clear hinv HS1
   by_cases hlt : j < n
   ·have hx : l[j]? = some (l[j]'(by rw [HN.out]; exact hlt)) := by simp
    generalize l[j]'(by rw [HN.out]; exact hlt) = x at hx
    have hcells := HI.out.cells hx (by rw [HN.out]; exact hnc)
    have c1 := hcells.1
    have lg := hcells.2.2.2.1
    clear hcells
    have HX := Lib.hid (And.intro hx (List.mem_of_getElem? hx)); clear hx
    go_wp2_with fail
    refine (HF.out _ HI.out.bel x HX.out.2).mono ?_
    rintro e w2 ⟨rfl, hb2⟩
    have HI2 := Lib.hid (HI.out.grow hb2 hbw)
    have hs2 := hb2.size
    have hbw2 : base ≤ w2.heap.size := by omega
    clear hb2
    cases hp : p x with
    | true =>
     go_wp2_with fail
     go_roundw
     case rel => exact ⟨i, j + 1, by omega, rfl, by go_num, by omega, hbw2, HI2.out.gone HX.out.1 hp⟩
     case measure => simp [intOf]; omega
    | false =>
     have hcells := HI2.out.cells HX.out.1 (by rw [HN.out]; exact hnc)
     have f1 := hcells.2.1
     have cz := Classical.choose_spec hcells.2.2.1
     generalize Classical.choose hcells.2.2.1 = z at cz
     clear hcells
     have HK := Lib.hid (HI2.out.kept HX.out.1 hp hbg (by rw [HN.out]; exact hnc))
     go_wp2_with fail
     go_roundw
     case rel => exact ⟨i + 1, j + 1, by omega, by go_num, by go_num, by omega, by simpa using hbw2, HK.out⟩
     case measure => simp [intOf]; omega
   ·have hjn : j = n := by omega
    subst hjn
    have hblk := HI.out.blk
    refine Veil.out ?_
    obtain ⟨cur2, q1, q2, q3, q4⟩ := hblk
    refine Veil.on ?_
    have HQ := Lib.hid (And.intro q1 q3); clear q1 q3 q4
    have hr := run_clear_row (P := Tryz.prog) wr 104 3 0 (.int .i64 0) Tryz.underlying104 (fun _ => Tryz.zeroValue3 _) rfl rfl g i (j - i) (cap - i) (by omega) cur2 3 HQ.out.1 (by omega)
    go_wp2_with fail
    go_ret
    refine ⟨_, rfl, ?_, HI.out.bel.trans (blw_row (Below.refl _ _) hbg _)⟩
    have hlen := HI.out.len
    have hq := HQ.out.2
    have htl : l.take j = l := List.take_of_length_le (by rw [HN.out]; exact Nat.le_refl _)
    rw [htl] at hlen hq
    unfold OwnI
    rw [hlen]
    refine ⟨by simp [hlen], .inr ⟨g, cap, _, rfl, hbg, HQ.out.1.rowS _, by omega, hcm, ?_, ?_⟩⟩
    ·simp only [List.size_toArray, List.length_append, List.length_take, List.length_drop, List.length_replicate, Array.length_toList]
     omega
    ·rw [← hq, Nat.mul_one]
     simp only [List.append_assoc]
     rw [List.take_append_of_le_length (by simp; omega), List.take_take, Nat.min_self]
end Go.Proofs.YtccnkebkgegohaaGreatDoor
end
section
namespace Go.Proofs.YtccnkebkgegohaaGreatDoor
open Go.RowKit Go.Rel
set_option maxRecDepth 100000
set_option maxHeartbeats 2000000 in
theorem without1 (bt : Nat) (g : Value) (gl : List Int) (w : World) (hbt : w.cell? ⟨bt, 0, none⟩ = some g) (hg : SlI w g gl) (x : Int) :
  Calls Tryz.prog 149 #[.int .i64 x, .pointer (some ⟨bt, 0, none⟩)] w fun e w' => e = .returned (.bool (gl.contains x)) ∧ Below w.heap.size w w' := by
 have lbt := block_lt_of_cell hbt
 have HC := Lib.hid (ContainsInt_spec g gl x w hg)
 obtain ⟨a, c, rfl, _, _, _⟩ := hg
 simp only [List.length_map] at HC hbt
 go_enter Tryz.func149, Tryz.ntmps149
 go_wp2_with fail
 refine HC.out.mono ?_
 rintro e w1 ⟨rfl, rfl⟩
 go_wp2_with fail
 go_ret
 exact ⟨ret_bool (by simp), Below.refl _ _⟩
set_option maxHeartbeats 2000000 in
theorem without_spec (v g : Value) (l gl : List Int) (w : World) (hv : SlI w v l) (hg : SlI w g gl) (hm : l.length ≤ 1048576) :
  Calls Tryz.prog 94 #[v, g] w fun e w' => ∃ u, e = .returned u ∧ OwnI w' w.heap.size u (l.filter fun x => !gl.contains x) ∧ Below w.heap.size w w' := by
 have H1 := Lib.hid fun w' (hb : Below w.heap.size w w') => CloneInt_spec v l w' (hv.mono hb) hm
 have HG := Lib.hid hg
 obtain ⟨a, c, rfl, _, _, _⟩ := hg
 have hmf' := hmf
 go_enter Tryz.func94, Tryz.ntmps94
 go_wp2_with fail
 refine (H1.out _ bel_by).mono ?_
 rintro e w1 ⟨u, rfl, hO, hb⟩
 have hB : Below w.heap.size w w1 := bel_trans bel_by hb
 have hbox : w1.cell? ⟨w.heap.size, 0, none⟩ = some (.slice a (gl.map intL).length c) := by
  refine (hb.cell (p := ⟨w.heap.size, 0, none⟩) (by simp)).trans ?_
  simp [go_sem]
 have hsz := hb.size
 simp only [World.size_alloc] at hsz
 have hd := DeleteFunc149 u (.pointer (some ⟨w.heap.size, 0, none⟩)) l (fun x => gl.contains x) (w.heap.size + 1) w1 (own_weak hO (by simp)) hsz (fun w' hw' x _ => without1 w.heap.size _ gl w' ((hw'.cell (p := ⟨w.heap.size, 0, none⟩) (by simp)).trans hbox) (HG.out.mono (hB.trans (hw'.mono (by omega)))) x)
 have HD := Lib.hid hd; clear hd hO hbox hb
 go_wp2_with fail
 refine HD.out.mono ?_
 rintro e w2 ⟨u2, rfl, hO2, hB2⟩
 have HO := Lib.hid (And.intro hO2 hB2); clear hO2 hB2
 go_wp2_with fail
 go_ret
 exact ⟨_, rfl, own_weak HO.out.1 (by omega), hB.trans (HO.out.2.mono (by omega))⟩
end Go.Proofs.YtccnkebkgegohaaGreatDoor
end
section
namespace Go.Proofs.YtccnkebkgegohaaGreatDoor
open Go.RowKit Go.Rel
set_option maxRecDepth 100000
/-- the acts of a row in the order of the least list: again and again the least that can be first -/
def leastI (dep : Int → Int → Bool) (f : Int → Int → Int) : Nat → List Int → List Int
 | 0, _ => []
 | n + 1, left => match freeUpto dep left left.length with
  | [] => []
  | x :: xs => minF f x xs :: leastI dep f n (left.filter fun y => !([minF f x xs].contains y))
theorem minF_mem (f : Int → Int → Int) : ∀ (xs : List Int) (m : Int), minF f m xs = m ∨ minF f m xs ∈ xs
 | [], m => .inl rfl
 | x :: xs, m => by
  unfold minF
  rcases minF_mem f xs (if f x m < 0 then x else m) with h | h
  ·rw [h]
   split
   ·exact .inr (by simp)
   ·exact .inl rfl
  ·exact .inr (by simp [h])
theorem freeUpto_mem (dep : Int → Int → Bool) (left : List Int) : ∀ (k : Nat), k ≤ left.length → ∀ x ∈ freeUpto dep left k, x ∈ left
 | 0, _, x, h => by simp [freeUpto] at h
 | k + 1, hk, x, h => by
  unfold freeUpto at h
  have hget : left.getD k 0 ∈ left := by
   have : left[k]? = some (left[k]'(by omega)) := by simp
   rw [List.getD_eq_getElem?_getD, this]; exact List.getElem_mem _
  split at h
  ·rcases List.mem_append.1 h with h | h
   ·exact freeUpto_mem dep left k (by omega) x h
   ·simp at h; rw [h]; simpa [List.getD_eq_getElem?_getD] using hget
  ·exact freeUpto_mem dep left k (by omega) x h
theorem freeUpto_ne (dep : Int → Int → Bool) (left : List Int) : ∀ (k : Nat), 0 < k → freeUpto dep left k ≠ []
 | 0, h => by omega
 | k + 1, _ => by
  unfold freeUpto
  rcases Nat.eq_zero_or_pos k with rfl | hk
  ·simp [freeAt]
  ·split
   ·simp
   ·exact freeUpto_ne dep left k hk
theorem filter_lt {left : List Int} {i : Int} (h : i ∈ left) : (left.filter fun y => !([i].contains y)).length < left.length := by
 induction left with
 | nil => cases h
 | cons a l ih =>
  by_cases e : a = i
  ·subst e
   simp
   exact Nat.lt_succ_of_le (List.length_filter_le _ _)
  ·have h' : i ∈ l := by
    rcases List.mem_cons.1 h with h | h
    ·exact absurd h.symm e
    ·exact h
   have := ih h'
   simp [e] at this ⊢
   exact this
def sliceLen : Value → Nat
 | .slice _ n _ => n
 | _ => 0
/-- the order of acts by their numbers -/
def cmpN (acts : List Ac) (i j : Int) : Int := cmpA (acts.getD i.toNat (0, 0, 0)) (acts.getD j.toNat (0, 0, 0))
abbrev actsAt (acts : List Ac) (is : List Int) : List Ac := is.map fun i => acts.getD i.toNat (0, 0, 0)
end Go.Proofs.YtccnkebkgegohaaGreatDoor
end
