import Derived.Test.YtkcpnhigekopaaaDoorHS7
import Derived.Deep.Cut
/-
  Given contracts of functions of the program, and laws for them, one behind the other.
-/
set_option linter.unusedVariables false
set_option linter.unusedSimpArgs false
set_option linter.unusedSectionVars false
section
namespace Go.Proofs.YtkcpnhigekopaaaDoor
open Go.RowKit Go.Rel Go.Draw Go.Solid
set_option maxRecDepth 100000
/-! Moved: no cells -/
set_option maxHeartbeats 2000000 in
theorem moved_zero (s : Sol) (hs : s = 0) (dx dy dz : Int) (w : World) : Calls Tryd.prog 6 #[solV s, .int .i64 dx, .int .i64 dy, .int .i64 dz] w fun e w' => e = .returned (.tuple #[solV s, .int .i64 0]) ∧ Below w.heap.size w w' := by
 have e0 : (s == 0#512) = true := by rw [beq_iff_eq]; exact hs
 clear hs
 go_enter Tryd.func6, Tryd.ntmps6
 go_wp2_with fail
 exact bodyPost_ret (v := .tuple #[solV s, .int .i64 0]) (by simp [results, Tryd.results6, go_sem]) rfl ⟨rfl, (by repeat (first | with_reducible exact bel_refl _ | with_reducible assumption | with_reducible refine bel_drewN ?_ _ | with_reducible refine bel_drew ?_ | with_reducible refine bel_alloc ?_ _ | with_reducible refine bel_row ?_ ?_ _ | with_reducible refine bel_set ?_ ?_ _ | refine bel_trans ?_ (by with_reducible assumption) | (simp; done) | (simp; omega)))⟩
set_option maxHeartbeats 2000000 in
theorem moved_far0 (s : Sol) (hs : s ≠ 0) {dx dy dz : Int} (h0 : (decide (-7 ≤ dx) && decide (dx ≤ 7)) = false) (w : World) : Calls Tryd.prog 6 #[solV s, .int .i64 dx, .int .i64 dy, .int .i64 dz] w fun e w' => e = .returned (.tuple #[.agg #[.int .u64 0, .int .u64 0, .int .u64 0, .int .u64 0, .int .u64 0, .int .u64 0, .int .u64 0, .int .u64 0], .int .i64 20]) ∧ Below w.heap.size w w' := by
 have e0 : (s == 0#512) = false := by rw [beq_eq_false_iff_ne]; exact hs
 have I0 : Hid (∀ W, Calls Tryd.prog 17 #[.int .i64 dx, .int .i64 (-7), .int .i64 7] W fun e w' => e = .returned (.bool false) ∧ w' = W) := Lib.hid (fun W => by
  refine (in_spec dx (-7) 7 W).mono ?_
  rintro e w' ⟨rfl, rfl⟩
  exact ⟨by rw [h0], rfl⟩)
 clear h0 hs
 go_enter Tryd.func6, Tryd.ntmps6
 go_wp2_with fail
 refine (I0.out _).mono ?_
 rintro e w0 ⟨rfl, rfl⟩
 go_wp2_with fail
 exact bodyPost_ret (v := .tuple #[.agg #[.int .u64 0, .int .u64 0, .int .u64 0, .int .u64 0, .int .u64 0, .int .u64 0, .int .u64 0, .int .u64 0], .int .i64 20]) (by simp [results, Tryd.results6, go_sem]) rfl ⟨rfl, (by repeat (first | with_reducible exact bel_refl _ | with_reducible assumption | with_reducible refine bel_drewN ?_ _ | with_reducible refine bel_drew ?_ | with_reducible refine bel_alloc ?_ _ | with_reducible refine bel_row ?_ ?_ _ | with_reducible refine bel_set ?_ ?_ _ | refine bel_trans ?_ (by with_reducible assumption) | (simp; done) | (simp; omega)))⟩
set_option maxHeartbeats 2000000 in
theorem moved_far1 (s : Sol) (hs : s ≠ 0) {dx dy dz : Int} (h0 : (decide (-7 ≤ dx) && decide (dx ≤ 7)) = true) (h1 : (decide (-7 ≤ dy) && decide (dy ≤ 7)) = false) (w : World) : Calls Tryd.prog 6 #[solV s, .int .i64 dx, .int .i64 dy, .int .i64 dz] w fun e w' => e = .returned (.tuple #[.agg #[.int .u64 0, .int .u64 0, .int .u64 0, .int .u64 0, .int .u64 0, .int .u64 0, .int .u64 0, .int .u64 0], .int .i64 20]) ∧ Below w.heap.size w w' := by
 have e0 : (s == 0#512) = false := by rw [beq_eq_false_iff_ne]; exact hs
 have I0 : Hid (∀ W, Calls Tryd.prog 17 #[.int .i64 dx, .int .i64 (-7), .int .i64 7] W fun e w' => e = .returned (.bool true) ∧ w' = W) := Lib.hid (fun W => by
  refine (in_spec dx (-7) 7 W).mono ?_
  rintro e w' ⟨rfl, rfl⟩
  exact ⟨by rw [h0], rfl⟩)
 have I1 : Hid (∀ W, Calls Tryd.prog 17 #[.int .i64 dy, .int .i64 (-7), .int .i64 7] W fun e w' => e = .returned (.bool false) ∧ w' = W) := Lib.hid (fun W => by
  refine (in_spec dy (-7) 7 W).mono ?_
  rintro e w' ⟨rfl, rfl⟩
  exact ⟨by rw [h1], rfl⟩)
 clear h0 h1 hs
 go_enter Tryd.func6, Tryd.ntmps6
 go_wp2_with fail
 refine (I0.out _).mono ?_
 rintro e w0 ⟨rfl, rfl⟩
 go_wp2_with fail
 refine (I1.out _).mono ?_
 rintro e w0 ⟨rfl, rfl⟩
 go_wp2_with fail
 exact bodyPost_ret (v := .tuple #[.agg #[.int .u64 0, .int .u64 0, .int .u64 0, .int .u64 0, .int .u64 0, .int .u64 0, .int .u64 0, .int .u64 0], .int .i64 20]) (by simp [results, Tryd.results6, go_sem]) rfl ⟨rfl, (by repeat (first | with_reducible exact bel_refl _ | with_reducible assumption | with_reducible refine bel_drewN ?_ _ | with_reducible refine bel_drew ?_ | with_reducible refine bel_alloc ?_ _ | with_reducible refine bel_row ?_ ?_ _ | with_reducible refine bel_set ?_ ?_ _ | refine bel_trans ?_ (by with_reducible assumption) | (simp; done) | (simp; omega)))⟩
set_option maxHeartbeats 2000000 in
theorem moved_far2 (s : Sol) (hs : s ≠ 0) {dx dy dz : Int} (h0 : (decide (-7 ≤ dx) && decide (dx ≤ 7)) = true) (h1 : (decide (-7 ≤ dy) && decide (dy ≤ 7)) = true) (h2 : (decide (-7 ≤ dz) && decide (dz ≤ 7)) = false) (w : World) : Calls Tryd.prog 6 #[solV s, .int .i64 dx, .int .i64 dy, .int .i64 dz] w fun e w' => e = .returned (.tuple #[.agg #[.int .u64 0, .int .u64 0, .int .u64 0, .int .u64 0, .int .u64 0, .int .u64 0, .int .u64 0, .int .u64 0], .int .i64 20]) ∧ Below w.heap.size w w' := by
 have e0 : (s == 0#512) = false := by rw [beq_eq_false_iff_ne]; exact hs
 have I0 : Hid (∀ W, Calls Tryd.prog 17 #[.int .i64 dx, .int .i64 (-7), .int .i64 7] W fun e w' => e = .returned (.bool true) ∧ w' = W) := Lib.hid (fun W => by
  refine (in_spec dx (-7) 7 W).mono ?_
  rintro e w' ⟨rfl, rfl⟩
  exact ⟨by rw [h0], rfl⟩)
 have I1 : Hid (∀ W, Calls Tryd.prog 17 #[.int .i64 dy, .int .i64 (-7), .int .i64 7] W fun e w' => e = .returned (.bool true) ∧ w' = W) := Lib.hid (fun W => by
  refine (in_spec dy (-7) 7 W).mono ?_
  rintro e w' ⟨rfl, rfl⟩
  exact ⟨by rw [h1], rfl⟩)
 have I2 : Hid (∀ W, Calls Tryd.prog 17 #[.int .i64 dz, .int .i64 (-7), .int .i64 7] W fun e w' => e = .returned (.bool false) ∧ w' = W) := Lib.hid (fun W => by
  refine (in_spec dz (-7) 7 W).mono ?_
  rintro e w' ⟨rfl, rfl⟩
  exact ⟨by rw [h2], rfl⟩)
 clear h0 h1 h2 hs
 go_enter Tryd.func6, Tryd.ntmps6
 go_wp2_with fail
 refine (I0.out _).mono ?_
 rintro e w0 ⟨rfl, rfl⟩
 go_wp2_with fail
 refine (I1.out _).mono ?_
 rintro e w0 ⟨rfl, rfl⟩
 go_wp2_with fail
 refine (I2.out _).mono ?_
 rintro e w0 ⟨rfl, rfl⟩
 go_wp2_with fail
 exact bodyPost_ret (v := .tuple #[.agg #[.int .u64 0, .int .u64 0, .int .u64 0, .int .u64 0, .int .u64 0, .int .u64 0, .int .u64 0, .int .u64 0], .int .i64 20]) (by simp [results, Tryd.results6, go_sem]) rfl ⟨rfl, (by repeat (first | with_reducible exact bel_refl _ | with_reducible assumption | with_reducible refine bel_drewN ?_ _ | with_reducible refine bel_drew ?_ | with_reducible refine bel_alloc ?_ _ | with_reducible refine bel_row ?_ ?_ _ | with_reducible refine bel_set ?_ ?_ _ | refine bel_trans ?_ (by with_reducible assumption) | (simp; done) | (simp; omega)))⟩
end Go.Proofs.YtkcpnhigekopaaaDoor
end
section
namespace Go.Proofs.YtkcpnhigekopaaaDoor
open Go.RowKit Go.Rel Go.Draw Go.Solid
set_option maxRecDepth 100000
/-! Turned, Mirrored, Moved, Placed: whatever the numbers -/
abbrev zeroV : Value := .agg #[.int .u64 0, .int .u64 0, .int .u64 0, .int .u64 0, .int .u64 0, .int .u64 0, .int .u64 0, .int .u64 0]
theorem zeroV_eq : zeroV = solV 0 := by simp only [solV, pl_zero]
theorem in_is {n a b : Int} {r : Bool} (h : inB n a b = r) (W : World) : Calls Tryd.prog 17 #[.int .i64 n, .int .i64 a, .int .i64 b] W fun e w' => e = .returned (.bool r) ∧ w' = W := by
 refine (in_spec n a b W).mono ?_
 rintro e w' ⟨rfl, rfl⟩
 exact ⟨by rw [← h]; rfl, rfl⟩
def mirroredM (s : Sol) (a : Int) : Sol × Int := if inB a 0 2 then (imgS (mirC a.toNat) s, 0) else (0, 1)
theorem moved_n (s : Sol) (d : Go.Solid.Cl) (w : World) (hT : Tab w) : Calls Tryd.prog 6 #[solV s, .int .i64 d.1, .int .i64 d.2.1, .int .i64 d.2.2] w fun e w' => e = .returned (.tuple #[solV (movedM s d).1, .int .i64 (movedM s d).2]) ∧ Below w.heap.size w w' := by
 obtain ⟨x, y, z⟩ := d
 unfold movedM
 by_cases hs : s = 0
 ·rw [if_pos hs]
  have := moved_zero s hs x y z w
  rw [hs] at this ⊢; exact this
 ·rw [if_neg hs]
  by_cases hx : inB x (-7) 7 = true
  ·by_cases hy : inB y (-7) 7 = true
   ·by_cases hz : inB z (-7) 7 = true
    ·rw [if_pos (show shortB (x, y, z) = true by unfold shortB; rw [hx, hy, hz]; rfl)]
     by_cases hst : stays (movC (x, y, z)) s = true
     ·rw [if_pos hst]; exact moved_ok s hs (inB_iff.1 hx) (inB_iff.1 hy) (inB_iff.1 hz) hst w hT
     ·rw [if_neg hst]; exact moved_off s hs (inB_iff.1 hx) (inB_iff.1 hy) (inB_iff.1 hz) (Bool.eq_false_iff.2 hst) w hT
    ·rw [if_neg (show ¬ shortB (x, y, z) = true by unfold shortB; simp [hz])]
     have := moved_far2 s hs hx hy (Bool.eq_false_iff.2 hz) w
     rw [show (.agg #[.int .u64 0, .int .u64 0, .int .u64 0, .int .u64 0, .int .u64 0, .int .u64 0, .int .u64 0, .int .u64 0] : Value) = solV 0 from zeroV_eq] at this
     exact this
   ·rw [if_neg (show ¬ shortB (x, y, z) = true by unfold shortB; simp [hy])]
    have := moved_far1 s hs (dz := z) hx (Bool.eq_false_iff.2 hy) w
    rw [show (.agg #[.int .u64 0, .int .u64 0, .int .u64 0, .int .u64 0, .int .u64 0, .int .u64 0, .int .u64 0, .int .u64 0] : Value) = solV 0 from zeroV_eq] at this
    exact this
  ·rw [if_neg (show ¬ shortB (x, y, z) = true by unfold shortB; simp [hx])]
   have := moved_far0 s hs (dy := y) (dz := z) (Bool.eq_false_iff.2 hx) w
   rw [show (.agg #[.int .u64 0, .int .u64 0, .int .u64 0, .int .u64 0, .int .u64 0, .int .u64 0, .int .u64 0, .int .u64 0] : Value) = solV 0 from zeroV_eq] at this
   exact this
abbrev motV (t : Int) (d : Go.Solid.Cl) : Value := .agg #[.int .i64 t, .int .i64 d.1, .int .i64 d.2.1, .int .i64 d.2.2]
end Go.Proofs.YtkcpnhigekopaaaDoor
end
section
namespace Go.Proofs.YtkcpnhigekopaaaDoor
open Go.RowKit Go.Rel Go.Draw
set_option maxRecDepth 100000
/-! DrawRounds -/
theorem contains_intsL (l : List Nat) {x : Int} (hx : 0 ≤ x) : (intsL l).contains x = l.contains x.toNat := by
 unfold intsL
 rw [Bool.eq_iff_iff, List.contains_iff_mem, List.contains_iff_mem, List.mem_map]
 constructor
 ·rintro ⟨a, ha, rfl⟩; simpa using ha
 ·intro h; exact ⟨x.toNat, h, Int.toNat_of_nonneg hx⟩
theorem countP_take {α : Type} (p : α → Bool) {l : List α} {k : Nat} {x : α} (hx : l[k]? = some x) : (l.take (k + 1)).countP p = (l.take k).countP p + if p x then 1 else 0 := by
 rw [List.take_add_one, hx, List.countP_append]
 congr 1
 simp [List.countP_cons]
theorem sll_cell {w : World} {v : Value} {ls : List (List Int)} (h : SlLL w v ls) : ∃ b c, v = .slice b ls.length c ∧ ls.length ≤ 9223372036854775807 ∧ ∀ (k : Nat) (x : List Int), ls[k]? = some x → ∃ ib io u, b = some ⟨ib, io, none⟩ ∧ ib < w.heap.size ∧ w.cell? ⟨ib, io + k, none⟩ = some u ∧ SlI w u x := by
 obtain ⟨us, h1, h2, h3⟩ := h
 rcases h1.cases with ⟨hz, a, c, rfl, hc⟩ | ⟨ib, io, c, hv, hq1, hq2, _, hcs⟩
 ·have hu : us = [] := by simpa using hz
  have hl : ls = [] := List.eq_nil_of_length_eq_zero (by rw [← h2, hu]; rfl)
  subst hl
  exact ⟨_, _, rfl, by simp, fun k x hx => by simp at hx⟩
 ·rw [List.length_map] at hv
  have hq1 : us.length ≤ c := by simpa using hq1
  refine ⟨_, _, by rw [hv, h2], by omega, fun k x hx => ?_⟩
  obtain ⟨hk, _⟩ := List.getElem?_eq_some_iff.1 hx
  have hu : us[k]? = some (us[k]'(by omega)) := List.getElem?_eq_getElem _
  refine ⟨ib, io, us[k]'(by omega), rfl, hcs.1, ?_, h3 k _ x hu hx⟩
  have := hcs.2 k 0 (us[k]'(by omega)) (by rw [List.getElem?_map, hu]; rfl)
  simpa using this
theorem few_bad {n : Nat} {most : Int} (h : ¬ ((n : Int) ≤ most ∨ 12 < n ∧ n ≤ 15)) : (decide ((n : Int) ≤ most) || (decide (12 < n) && decide (n ≤ 15))) = false := by
 simp only [Bool.or_eq_false_iff, Bool.and_eq_false_iff, decide_eq_false_iff_not]
 omega
theorem few_ok {n : Nat} {most : Int} (h : (n : Int) ≤ most ∨ 12 < n ∧ n ≤ 15) : (decide ((n : Int) ≤ most) || (decide (12 < n) && decide (n ≤ 15))) = true := by
 simp only [Bool.or_eq_true, Bool.and_eq_true, decide_eq_true_eq]
 exact h
end Go.Proofs.YtkcpnhigekopaaaDoor
end
section
namespace Go.Proofs.YtkcpnhigekopaaaDoor
open Go.RowKit Go.Rel Go.Draw
set_option maxRecDepth 100000
/-! sets and their lists of numbers -/
theorem intsL_inj {l r : List Nat} (h : intsL l = intsL r) : l = r := by
 unfold intsL at h
 exact List.map_inj_right (fun a b e => Int.ofNat.inj e) |>.1 h
theorem contains_listU (A : U) (i : Nat) : (intsL (listU A)).contains (i : Int) = A.getLsbD i := by
 rw [contains_intsL _ (by omega), Int.toNat_natCast, Bool.eq_iff_iff, List.contains_iff_mem, listU_mem]
theorem listU_top {s : U} {x : Nat} (h : ∀ i : Nat, s.getLsbD i = true → i < x) (hx : x < 64) : listU (s ||| bit x) = listU s ++ [x] := by
 have e : List.range 64 = List.range' 0 x ++ (x :: List.range' (x + 1) (63 - x)) := by
  rw [show x :: List.range' (x + 1) (63 - x) = List.range' x (64 - x) by
   rw [show 64 - x = (63 - x) + 1 by omega, List.range'_succ], List.range_eq_range']
  have := List.range'_append_1 (s := 0) (m := x) (n := 64 - x)
  rw [Nat.zero_add] at this
  rw [this, show x + (64 - x) = 64 by omega]
 unfold listU
 rw [e, List.filter_append, List.filter_append, List.filter_cons, List.filter_cons, or_bit _ _ _ hx]
 have h1 : (List.range' 0 x).filter (fun i => (s ||| bit x).getLsbD i) = (List.range' 0 x).filter fun i => s.getLsbD i := by
  apply List.filter_congr
  intro i hi
  have : i < x := by have := List.mem_range'_1.1 hi; omega
  rw [or_bit _ _ _ hx]; simp; omega
 have h2 : (List.range' (x + 1) (63 - x)).filter (fun i => (s ||| bit x).getLsbD i) = [] := by
  rw [List.filter_eq_nil_iff]
  intro i hi hb
  have hi2 : x < i := by have := List.mem_range'_1.1 hi; omega
  rw [or_bit _ _ _ hx, Bool.or_eq_true] at hb
  rcases hb with hb | hb
  ·have := h i hb; omega
  ·simp at hb; omega
 have h3 : (List.range' (x + 1) (63 - x)).filter (fun i => s.getLsbD i) = [] := by
  rw [List.filter_eq_nil_iff]
  intro i hi hb
  have hi2 : x < i := by have := List.mem_range'_1.1 hi; omega
  have := h i hb; omega
 have h4 : s.getLsbD x = false := by
  cases hb : s.getLsbD x
  ·rfl
  ·have := h x hb; omega
 rw [h1, h2, h3, h4]; simp
theorem setG_list {n : Nat} (hn : n ≤ 12) : ∀ (l : List Int) (pr : Option Int) (s G : U), (∀ i : Nat, s.getLsbD i = true → ∃ y, pr = some y ∧ (i : Int) ≤ y) → setG n pr s l = some G → intsL (listU G) = intsL (listU s) ++ l
 | [], pr, s, G, _, h => by unfold setG at h; cases h; simp
 | x :: l, pr, s, G, hs, h => by
  unfold setG at h
  split at h
  ·rename_i hx
   have hx64 : x.toNat < 64 := by omega
   have htop : ∀ i : Nat, s.getLsbD i = true → i < x.toNat := fun i hi => by
    obtain ⟨y, hy, hle⟩ := hs i hi
    have := hx.2.2 y hy; omega
   rw [setG_list hn l (some x) _ G (fun i hi => ⟨x, rfl, by
    rw [or_bit _ _ _ hx64, Bool.or_eq_true] at hi
    rcases hi with hi | hi
    ·have := htop i hi; omega
    ·simp at hi; omega⟩) h, listU_top htop hx64]
   unfold intsL
   rw [List.map_append, List.append_assoc]
   congr 1
   simp; omega
  ·cases h
theorem setI_list {n : Nat} (hn : n ≤ 12) {l : List Int} {G : U} (h : setI n l = some G) : l = intsL (listU G) := by
 have := setG_list hn l none 0 G (fun i hi => by simp at hi) h
 rw [listU_zero] at this
 exact this.symm
theorem setG_some {n : Nat} : ∀ (l : List Int) (pr : Option Int) (s : U), l.Pairwise (· < ·) → (∀ x ∈ l, 0 ≤ x ∧ x < n) → (∀ y, pr = some y → ∀ x ∈ l, y < x) → (setG n pr s l).isSome = true
 | [], _, _, _, _, _ => rfl
 | x :: l, pr, s, hp, hb, hy => by
  have hpc := List.pairwise_cons.1 hp
  unfold setG
  rw [if_pos ⟨(hb x (by simp)).1, (hb x (by simp)).2, fun y e => hy y e x (by simp)⟩]
  exact setG_some l _ _ hpc.2 (fun z hz => hb z (by simp [hz])) (fun y e z hz => by cases e; exact hpc.1 z hz)
theorem setI_of {n : Nat} (hn : n ≤ 12) {G : U} (hG : Sub G (allU n)) : setI n (intsL (listU G)) = some G := by
 have hsome : (setI n (intsL (listU G))).isSome = true := by
  refine setG_some _ _ _ ?_ (fun x hx => ?_) (fun y e => by cases e)
  ·unfold intsL listU
   rw [List.pairwise_map]
   refine (List.Pairwise.filter _ (List.pairwise_lt_range)).imp fun h => ?_
   exact Int.ofNat_lt.2 h
  ·unfold intsL at hx
   obtain ⟨i, hi, rfl⟩ := List.mem_map.1 hx
   have := hG i ((listU_mem _ _).1 hi)
   rw [allU_bit _ _ (by omega)] at this
   simp at this
   exact ⟨Int.natCast_nonneg i, Int.ofNat_lt.2 this⟩
 obtain ⟨G', h⟩ := Option.isSome_iff_exists.1 hsome
 have := setI_list hn h
 rw [h, listU_inj (intsL_inj this)]
theorem listU_small {A : U} (hA : Sub A (allU 12)) : listU A = (List.range 12).filter fun i => A.getLsbD i := by
 unfold listU
 rw [show List.range 64 = List.range 12 ++ List.range' 12 52 by decide, List.filter_append]
 have : (List.range' 12 52).filter (fun i => A.getLsbD i) = [] := by
  rw [List.filter_eq_nil_iff]
  intro i hi hb
  have h1 := hA i hb
  rw [allU_bit _ _ (by omega)] at h1
  have := List.mem_range'_1.1 hi
  simp at h1; omega
 rw [this, List.append_nil]
theorem sub_all {n : Nat} (hn : n ≤ 12) {A : U} (h : Sub A (allU n)) : Sub A (allU 12) := fun i hi => by
 have := h i hi
 rw [allU_bit _ _ (by omega)] at this ⊢
 simp at this ⊢; omega
theorem unionF_sets {A B : U} (hA : Sub A (allU 12)) (hB : Sub B (allU 12)) : unionF (intsL (listU A)) (intsL (listU B)) 12 = listU (A ||| B) := by
 rw [listU_small (or_sub.2 ⟨hA, hB⟩)]
 unfold unionF
 apply List.filter_congr
 intro i _
 rw [contains_listU, contains_listU, BitVec.getLsbD_or]
theorem all_subB (A s : U) : ((intsL (listU s)).all fun x => (intsL (listU A)).contains x) = subB s A := by
 rw [Bool.eq_iff_iff, List.all_eq_true, subB_iff]
 constructor
 ·intro h i hi
  have := h (i : Int) (by unfold intsL; exact List.mem_map.2 ⟨i, (listU_mem _ _).2 hi, rfl⟩)
  rwa [contains_listU] at this
 ·intro h x hx
  unfold intsL at hx
  obtain ⟨i, hi, rfl⟩ := List.mem_map.1 hx
  show (intsL (listU A)).contains (i : Int) = true
  rw [contains_listU]
  exact h i ((listU_mem _ _).1 hi)
theorem intsL_beq (A B : U) : (intsL (listU A) == intsL (listU B)) = (A == B) := by
 rw [Bool.eq_iff_iff, beq_iff_eq, beq_iff_eq]
 exact ⟨fun h => listU_inj (intsL_inj h), fun h => by rw [h]⟩
end Go.Proofs.YtkcpnhigekopaaaDoor
end
section
namespace Go.Proofs.YtkcpnhigekopaaaDoor
open Go.RowKit Go.Rel Go.Draw
set_option maxRecDepth 100000
/-! Index, Contains, IndexFunc, ContainsFunc on lists of numbers -/
theorem ints_op {w : World} {v : Value} {l : List Int} (h : SlI w v l) : ∃ b nn cc, v = .slice b nn cc ∧ nn = l.length ∧ l.length ≤ 9223372036854775807 ∧ ∀ (k : Nat) (x : Int), l[k]? = some x → ∃ ib io, b = some ⟨ib, io, none⟩ ∧ ib < w.heap.size ∧ ∀ (j : Nat) (y : Int), l[j]? = some y → w.cell? ⟨ib, io + j, none⟩ = some (.int .i64 y) := by
 rcases h.cases with ⟨hz, a, c, rfl, hc⟩ | ⟨ib, io, c, hv, hq1, hq2, _, hcs⟩
 ·have : l = [] := by simpa using hz
  subst this
  exact ⟨_, _, _, rfl, rfl, by simp, fun k x hx => by simp at hx⟩
 ·subst hv
  exact ⟨_, _, _, rfl, List.length_map _, by simp at hq1 hq2; omega, fun k x hx => ⟨ib, io, rfl, hcs.1, fun j y hy => int_cell hcs hy⟩⟩
theorem drop_int {l : List Int} {k : Nat} {x : Int} (hx : l[k]? = some x) : l.drop k = x :: l.drop (k + 1) := by
 obtain ⟨h1, h2⟩ := List.getElem?_eq_some_iff.1 hx
 rw [← h2]; exact List.drop_eq_getElem_cons h1
set_option maxHeartbeats 8000000 in
theorem index_at {v : Value} {l : List Int} {z : Int} {w : World} (h : SlI w v l) :
  Calls Tryd.prog 23 #[v, .int .i64 z] w fun e w' => w' = w ∧ ∃ i : Int, e = .returned (.int .i64 i) ∧ (0 ≤ i ↔ l.contains z = true) := by
 obtain ⟨b, nn, cc, rfl, hnn, hmx, hH⟩ := ints_op h
 subst hnn
 have HH := Lib.hid hH
 clear hH h
 go_enter Tryd.func23, Tryd.ntmps23
 go_wp2_with fail
 go_loopw [8] (fun iv wx => ∃ (k : Nat), k ≤ l.length ∧ iv = .int .i64 k ∧ Hid (l.contains z = (l.drop k).contains z) ∧ wx = w) (fun iv _ => l.length - (intOf iv).toNat)
 case atStart => exact ⟨0, Nat.zero_le _, rfl, Lib.hid rfl, rfl⟩
 case round =>
  obtain ⟨k, hk, rfl, HI, hwr⟩ := hrel
  subst hwr
  by_cases hlt : k < l.length
  ·obtain ⟨x, hx⟩ : ∃ x, l[k]? = some x := ⟨_, List.getElem?_eq_getElem hlt⟩
   obtain ⟨ib, io, rfl, lib, hc⟩ := HH.out k x hx
   have hck := hc k x hx
   have HX := Lib.hid (drop_int hx)
   clear hx hc
   by_cases he : z = x
   ·subst he
    go_wp2_with fail
    go_ret
    refine ⟨rfl, _, rfl, ?_⟩
    rw [HI.out, HX.out, List.contains_cons]
    simp
   ·have HE := Lib.hid he
    go_wp2_with fail
    refine ⟨⟨k + 1, by omega, by simp, Lib.hid ?_, trivial⟩, by simp [intOf]; omega⟩
    rw [HI.out, HX.out, List.contains_cons, beq_eq_false_iff_ne.2 HE.out, Bool.false_or]
  ·obtain rfl : k = l.length := by omega
   go_wp2_with fail
   go_ret
   refine ⟨rfl, _, rfl, ?_⟩
   rw [HI.out, List.drop_length]
   simp
set_option maxHeartbeats 8000000 in
theorem contains_at {v : Value} {l : List Int} {z : Int} {w : World} (h : SlI w v l) :
  Calls Tryd.prog 9 #[v, .int .i64 z] w fun e w' => e = .returned (.bool (l.contains z)) ∧ w' = w := by
 have HI := Lib.hid (index_at (z := z) h)
 clear h
 go_enter Tryd.func9, Tryd.ntmps9
 go_wp2_with fail
 refine HI.out.mono ?_
 rintro e w2 ⟨hw, i, rfl, hi⟩
 have hw3 := hw.symm
 subst hw3
 have HX := Lib.hid hi
 clear hw hi
 go_wp2_with fail
 go_ret
 refine ⟨ret_bool ?_, rfl⟩
 rw [Bool.eq_iff_iff, decide_eq_true_eq]
 exact HX.out
set_option maxHeartbeats 8000000 in
theorem lifted1_spec (x : Int) {W : World} {bv : Nat} {u : Value} {l : List Int} (Bv : Blk W bv #[u] 34) (hl : SlI W u l) :
  Calls Tryd.prog 12 #[.int .i64 x, .pointer (some ⟨bv, 0, none⟩)] W fun e w' => e = .returned (.bool (!l.contains x)) ∧ w' = W := by
 have cv := Bv.cell; have lv := Bv.lt
 have HC := Lib.hid (contains_at (z := x) hl)
 clear Bv hl
 go_enter Tryd.func12, Tryd.ntmps12
 go_wp2_with fail
 refine HC.out.mono ?_
 rintro e w2 ⟨rfl, hw⟩
 have hw3 := hw.symm
 subst hw3
 clear hw
 go_wp2_with fail
 go_ret
 exact ⟨ret_bool (by simp), rfl⟩
set_option maxHeartbeats 8000000 in
theorem indexF_ints {v : Value} {l : List Int} {c0 : Value} {p : Int → Bool} {w : World} (h : SlI w v l)
  (hf : ∀ x ∈ l, Calls Tryd.prog 12 #[.int .i64 x, c0] w fun e w' => e = .returned (.bool (p x)) ∧ w' = w) :
  Calls Tryd.prog 27 #[v, .func (.func 12) #[] #[c0]] w fun e w' => w' = w ∧ ∃ i : Int, e = .returned (.int .i64 i) ∧ (0 ≤ i ↔ l.any p = true) := by
 obtain ⟨b, nn, cc, rfl, hnn, hmx, hH⟩ : ∃ b nn cc, v = .slice b nn cc ∧ nn = l.length ∧ l.length ≤ 9223372036854775807 ∧ ∀ (k : Nat) (x : Int), l[k]? = some x → ∃ ib io, b = some ⟨ib, io, none⟩ ∧ ib < w.heap.size ∧ ∀ (j : Nat) (y : Int), l[j]? = some y → w.cell? ⟨ib, io + j, none⟩ = some (.int .i64 y) := by
  rcases h.cases with ⟨hz, a, c, rfl, hc⟩ | ⟨ib, io, c, hv, hq1, hq2, _, hcs⟩
  ·have : l = [] := by simpa using hz
   subst this
   exact ⟨_, _, _, rfl, rfl, by simp, fun k x hx => by simp at hx⟩
  ·subst hv
   exact ⟨_, _, _, rfl, List.length_map _, by simp at hq1 hq2; omega, fun k x hx => ⟨ib, io, rfl, hcs.1, fun j y hy => int_cell hcs hy⟩⟩
 subst hnn
 have HH := Lib.hid (And.intro hH hf)
 clear hH h hf
 go_enter Tryd.func27, Tryd.ntmps27
 go_wp2_with fail
 go_loopw [8] (fun iv wx => ∃ (k : Nat), k ≤ l.length ∧ iv = .int .i64 k ∧ Hid (l.any p = (l.drop k).any p) ∧ wx = w) (fun iv _ => l.length - (intOf iv).toNat)
 case atStart => exact ⟨0, Nat.zero_le _, rfl, Lib.hid rfl, rfl⟩
 case round =>
  obtain ⟨k, hk, rfl, HI, hwr⟩ := hrel
  subst hwr
  by_cases hlt : k < l.length
  ·obtain ⟨x, hx⟩ : ∃ x, l[k]? = some x := ⟨_, List.getElem?_eq_getElem hlt⟩
   have hdrop : l.drop k = x :: l.drop (k + 1) := by
    obtain ⟨h1, h2⟩ := List.getElem?_eq_some_iff.1 hx
    rw [← h2]; exact List.drop_eq_getElem_cons h1
   obtain ⟨ib, io, rfl, lib, hc⟩ := HH.out.1 k x hx
   have hck := hc k x hx
   have HF := Lib.hid (HH.out.2 x (List.mem_of_getElem? hx))
   have HX := Lib.hid hdrop
   clear hdrop hx hc
   go_wp2_with fail
   refine HF.out.mono ?_
   rintro e w2 ⟨rfl, hw2⟩
   have hw3 := hw2.symm
   subst hw3
   clear hw2
   cases hp : p x
   ·have HP := Lib.hid hp; clear hp
    go_wp2_with fail
    refine ⟨⟨k + 1, by omega, by simp, Lib.hid ?_, trivial⟩, by simp [intOf]; omega⟩
    rw [HI.out, HX.out, List.any_cons, HP.out, Bool.false_or]
   ·have HP := Lib.hid hp; clear hp
    go_wp2_with fail
    go_ret
    refine ⟨rfl, _, rfl, ?_⟩
    rw [HI.out, HX.out, List.any_cons, HP.out]
    simp
  ·obtain rfl : k = l.length := by omega
   go_wp2_with fail
   go_ret
   refine ⟨rfl, _, rfl, ?_⟩
   rw [HI.out, List.drop_length]
   simp
set_option maxHeartbeats 8000000 in
theorem containsF_ints {v : Value} {l : List Int} {c0 : Value} {p : Int → Bool} {w : World} (h : SlI w v l)
  (hf : ∀ x ∈ l, Calls Tryd.prog 12 #[.int .i64 x, c0] w fun e w' => e = .returned (.bool (p x)) ∧ w' = w) :
  Calls Tryd.prog 11 #[v, .func (.func 12) #[] #[c0]] w fun e w' => e = .returned (.bool (l.any p)) ∧ w' = w := by
 have HI := Lib.hid (indexF_ints h hf)
 clear h hf
 go_enter Tryd.func11, Tryd.ntmps11
 go_wp2_with fail
 refine HI.out.mono ?_
 rintro e w2 ⟨hw, i, rfl, hi⟩
 have hw3 := hw.symm
 subst hw3
 have HX := Lib.hid hi
 clear hw hi
 go_wp2_with fail
 go_ret
 refine ⟨ret_bool ?_, rfl⟩
 rw [Bool.eq_iff_iff, decide_eq_true_eq]
 exact HX.out
end Go.Proofs.YtkcpnhigekopaaaDoor
end
section
namespace Go.Proofs.YtkcpnhigekopaaaDoor
open Go.RowKit Go.Rel Go.Draw
set_option maxRecDepth 100000
/-! lists of moves that are equal (wpStill_yes) -/
set_option maxHeartbeats 4000000 in
theorem equalMv_spec {w : World} {v u : Value} {l r : List MvI} (h : SlX w v l) (hr : SlX w u r) : Calls Tryd.prog 16 #[v, u] w fun e w' => e = .returned (.bool (l == r)) ∧ Below w.heap.size w w' := by
 obtain ⟨b, cc, rfl, hmx, hH⟩ := mvs_open h
 obtain ⟨b2, cc2, rfl, hmx2, hH2⟩ := mvs_open hr
 have HH := Lib.hid (And.intro hH hH2)
 clear hH hH2 h hr
 by_cases hlen : l.length = r.length
 ·obtain ⟨n, hn⟩ : ∃ n, n = r.length := ⟨_, rfl⟩
  rw [hlen, ← hn]
  have HL := Lib.hid (And.intro hlen hn)
  rw [hlen, ← hn] at hmx
  clear hlen hn hmx2
  go_enter Tryd.func16, Tryd.ntmps16
  go_wp2_with fail
  go_loopw [13] (fun iv wx => ∃ (k : Nat), k ≤ n ∧ iv = .int .i64 k ∧ Hid ((l == r) = (l.drop k == r.drop k)) ∧ Below w.heap.size w wx) (fun iv _ => n - (intOf iv).toNat)
  case atStart => exact ⟨0, Nat.zero_le _, rfl, Lib.hid rfl, Below.refl _ _⟩
  case round =>
   obtain ⟨k, hk, rfl, HI, hbel⟩ := hrel
   by_cases hlt : k < n
   ·obtain ⟨x, hx⟩ : ∃ x, l[k]? = some x := ⟨_, List.getElem?_eq_getElem (by have := HL.out; omega)⟩
    obtain ⟨y, hy⟩ : ∃ y, r[k]? = some y := ⟨_, List.getElem?_eq_getElem (by have := HL.out; omega)⟩
    obtain ⟨ib, io, rfl, lib, hc1, hc2, hc3⟩ := HH.out.1 k x hx
    obtain ⟨ib2, io2, rfl, lib2, hd1, hd2, hd3⟩ := HH.out.2 k y hy
    have HX := Lib.hid (sameX_drop hx hy)
    have c1 := ((bcell hbel).1 ib _ lib).trans hc1
    have c2 := ((bcell hbel).1 ib _ lib).trans hc2
    have c3 := ((bcell hbel).1 ib _ lib).trans hc3
    have d1 := ((bcell hbel).1 ib2 _ lib2).trans hd1
    have d2 := ((bcell hbel).1 ib2 _ lib2).trans hd2
    have d3 := ((bcell hbel).1 ib2 _ lib2).trans hd3
    obtain ⟨xa, xb, xc⟩ := x
    obtain ⟨ya, yb, yc⟩ := y
    have hsz := hbel.size
    have lb := Nat.lt_of_lt_of_le lib hsz
    have lb2 := Nat.lt_of_lt_of_le lib2 hsz
    clear hx hy hc1 hc2 hc3 hd1 hd2 hd3
    go_wp2_with fail
    refine Go.Rel.region_still_tail 8 (by kernel_rfl) (by kernel_rfl) ?_
    simp only [List.take_succ_cons, List.take_zero, List.drop_succ_cons, List.drop_zero]
    iterate 8 (with_reducible refine wpStill_yes (by kernel_rfl) (fun K hK => ?_); go_simp; refine hK _ ?_; clear hK K)
    by_cases h1 : xa = ya
    ·by_cases h2 : xb = yb
     ·by_cases h3 : xc = yc
      ·subst h1 h2 h3
       refine wpStill_nil ?_
       clear c1 c2 c3 d1 d2 d3 lib lib2 lb lb2 hsz
       go_wp2_with fail
       refine ⟨⟨k + 1, by omega, by simp, Lib.hid ?_, bel_drew hbel⟩, by simp [intOf]; omega⟩
       rw [HI.out, HX.out]; simp
      ·have HE : Hid (((xa, xb, xc) == (ya, yb, yc)) = false) := Lib.hid (by rw [beq_eq_false_iff_ne]; intro e; simp only [Prod.mk.injEq] at e; exact h3 e.2.2)
       refine wpStill_nil ?_
       clear c1 c2 c3 d1 d2 d3 lib lib2 lb lb2 hsz
       go_wp2_with fail
       go_ret
       refine ⟨ret_bool ?_, bel_drew hbel⟩
       rw [HI.out, HX.out, HE.out]; rfl
     ·have HE : Hid (((xa, xb, xc) == (ya, yb, yc)) = false) := Lib.hid (by rw [beq_eq_false_iff_ne]; intro e; simp only [Prod.mk.injEq] at e; exact h2 e.2.1)
      refine wpStill_nil ?_
      clear c1 c2 c3 d1 d2 d3 lib lib2 lb lb2 hsz
      go_wp2_with fail
      go_ret
      refine ⟨ret_bool ?_, bel_drew hbel⟩
      rw [HI.out, HX.out, HE.out]; rfl
    ·have HE : Hid (((xa, xb, xc) == (ya, yb, yc)) = false) := Lib.hid (by rw [beq_eq_false_iff_ne]; intro e; simp only [Prod.mk.injEq] at e; exact h1 e.1)
     refine wpStill_nil ?_
     clear c1 c2 c3 d1 d2 d3 lib lib2 lb lb2 hsz
     go_wp2_with fail
     go_ret
     refine ⟨ret_bool ?_, bel_drew hbel⟩
     rw [HI.out, HX.out, HE.out]; rfl
   ·obtain rfl : k = n := by omega
    go_wp2_with fail
    go_ret
    refine ⟨ret_bool ?_, hbel⟩
    rw [HI.out, List.drop_eq_nil_of_le (by have := HL.out; omega), List.drop_eq_nil_of_le (by have := HL.out; omega)]; rfl
 ·have hl2 : ¬ ((l.length : Int) = r.length) := fun e => hlen (Int.ofNat.inj e)
  have HL := Lib.hid hlen
  clear hlen
  go_enter Tryd.func16, Tryd.ntmps16
  go_wp2_with fail
  go_ret
  refine ⟨ret_bool ?_, Below.refl _ _⟩
  symm
  rw [beq_eq_false_iff_ne]
  intro e; exact HL.out (by rw [e])
end Go.Proofs.YtkcpnhigekopaaaDoor
end
section
namespace Go.Proofs.YtkcpnhigekopaaaDoor
open Go.RowKit Go.Rel Go.Draw Go.Solid
set_option maxRecDepth 100000
/-! the mould of the law's example, lifted -/
theorem upMould_n {w : World} {v : Value} {m : List Sol} (H : SlS w v m) : Calls Tryd.prog 4 #[v] w fun e w' => e = .returned (.int .i64 (errM m)) ∧ Below w.heap.size w w' := by
 have HM := Lib.hid (moulded_x H)
 clear H
 go_enter Tryd.func4, Tryd.ntmps4
 go_wp2_with fail
 refine HM.out.mono ?_
 rintro e w1 ⟨hb, p, rfl, -, -⟩
 have HB := Lib.hid hb; clear hb
 go_wp2_with fail
 go_ret
 exact ⟨rfl, HB.out⟩
abbrev OwnZ (W : World) (base : Nat) (v : Value) (l : List Sol) : Prop := W.ownsRow base 29 8 v l.length (l.map solL).flatten
theorem OwnZ.sl {W : World} {base : Nat} {v : Value} {l : List Sol} (h : OwnZ W base v l) : SlS W v l :=
 own_sl (fun r hr => by obtain ⟨i, _, rfl⟩ := List.mem_map.1 hr; rfl) rfl (by rw [List.length_map]; exact h)
theorem solz_open {w : World} {v : Value} {l : List Sol} (h : SlS w v l) : ∃ b cc, v = .slice b l.length cc ∧ ∀ (k : Nat) (s : Sol), l[k]? = some s → ∃ ib io, b = some ⟨ib, io, none⟩ ∧ ib < w.heap.size ∧ Cells w ib io 8 (l.map solL) := by
 rcases h.cases with ⟨hz, a, c, rfl, hc⟩ | ⟨ib, io, c, hv, hq1, hq2, _, hcs⟩
 ·have : l = [] := by simpa using hz
  subst this
  exact ⟨_, _, rfl, fun k s hk => by simp at hk⟩
 ·rw [List.length_map] at hv
  exact ⟨_, _, hv, fun k s _ => ⟨ib, io, rfl, hcs.1, hcs⟩⟩
theorem own_snocZ {W : World} {base : Nat} {v : Value} {l : List Sol} {x : Sol} (h : W.ownsRow base 29 8 v (l.length + 1) ((l.map solL).flatten ++ solL x)) : OwnZ W base v (l ++ [x]) := by
 unfold OwnZ
 rw [List.length_append, List.map_append, List.flatten_append]
 simpa using h
theorem moved_is {s : Sol} {k j : Nat} (hs : s ≠ 0) (hk : k ≤ 7) (hj : j = 512 - 64 * k) (h : (s >>> j == 0) = true) : movedM s (0, 0, (k : Int)) = (s <<< (64 * k), 0) := by
 rw [beq_iff_eq] at h
 subst hj
 have hst : stays (movC (0, 0, (k : Int))) s = true := by
  rw [stays_iff]
  intro c hc
  have hg : inG c = true := by unfold hasS at hc; rw [Bool.and_eq_true] at hc; exact hc.1
  have hb : s.getLsbD (bitN c) = true := by unfold hasS at hc; rw [Bool.and_eq_true] at hc; exact hc.2
  have hgi := inG_iff.1 hg
  have hlt : bitN c < 512 - 64 * k := by
   rcases Nat.lt_or_ge (bitN c) (512 - 64 * k) with h1 | h1
   ·exact h1
   ·have h2 := congrArg (fun x => x.getLsbD (bitN c - (512 - 64 * k))) h
    simp only [BitVec.getLsbD_ushiftRight] at h2
    rw [show 512 - 64 * k + (bitN c - (512 - 64 * k)) = bitN c by omega, hb] at h2
    simp at h2
  obtain ⟨a, b, z⟩ := c
  rw [inG_iff]
  unfold bitN at hlt
  unfold movC addC
  simp only at *
  omega
 have h1 : movedM s (0, 0, (k : Int)) = (imgS (movC (0, 0, (k : Int))) s, 0) := movedM_ok.2 (.inr ⟨hs, hst, rfl⟩)
 rw [h1, (moved_sh hs h1).1]
def mH : List Sol := [rowS 3 2 4, rowS 4 2 4 ||| rowS 5 2 4, rowS 3 5 5]
def upZ (k : Nat) (s : Sol) : Sol := (movedM s (0, 0, (k : Int))).1
theorem hook_each : (mH.all fun s => s != 0 && s >>> 384 == 0) = true := by decide +kernel
theorem hook_is {s : Sol} (hs : s ∈ mH) : movedM s (0, 0, ((2 : Nat) : Int)) = (s <<< (64 * 2), 0) := by
 have h := List.all_eq_true.1 hook_each s hs
 rw [Bool.and_eq_true] at h
 exact moved_is (by simpa using h.1) (by decide) (by decide) h.2
theorem hook_ok : ∀ s ∈ mH, (movedM s (0, 0, ((2 : Nat) : Int))).2 = 0 := fun s hs => by rw [hook_is hs]
theorem hook_shl : mH.map (fun s : Sol => s <<< 128) = mA := by decide +kernel
theorem hook_up : mH.map (upZ 2) = mA := by
 rw [← hook_shl]
 exact List.map_congr_left fun s hs => by
  unfold upZ
  rw [hook_is hs]
theorem hook_good : goodM mH = true := by decide +kernel
theorem hook_err : errM mH = 0 := errM_zero.2 ⟨by decide, hook_good⟩
theorem hook_none : orderM mH (allU 3) = none := by decide +kernel
theorem mA_err : errM mA = 0 := errM_zero.2 ⟨by decide, exA_good.1⟩
theorem hook_planes : (mH.map fun s => (List.range 8).map fun k => Value.int .u64 ((plv s k).toNat : Int)).flatten = [.int .u64 0, .int .u64 0, .int .u64 0, .int .u64 28, .int .u64 0, .int .u64 0, .int .u64 0, .int .u64 0, .int .u64 0, .int .u64 0, .int .u64 0, .int .u64 0, .int .u64 28, .int .u64 28, .int .u64 0, .int .u64 0, .int .u64 0, .int .u64 0, .int .u64 0, .int .u64 32, .int .u64 0, .int .u64 0, .int .u64 0, .int .u64 0] := by kernel_rfl
theorem hook_sols : (mH.map solL).flatten = [.int .u64 0, .int .u64 0, .int .u64 0, .int .u64 28, .int .u64 0, .int .u64 0, .int .u64 0, .int .u64 0, .int .u64 0, .int .u64 0, .int .u64 0, .int .u64 0, .int .u64 28, .int .u64 28, .int .u64 0, .int .u64 0, .int .u64 0, .int .u64 0, .int .u64 0, .int .u64 32, .int .u64 0, .int .u64 0, .int .u64 0, .int .u64 0] := by
 have h : ∀ s : Sol, solL s = (List.range 8).map fun k => Value.int .u64 ((plv s k).toNat : Int) := by
  intro s
  have e : ∀ k, pl s k = ((plv s k).toNat : Int) := fun k => by unfold pl; rfl
  simp only [solL, e]
  rfl
 rw [List.map_congr_left (fun s _ => h s)]
 exact hook_planes
set_option maxHeartbeats 1000000 in
theorem hook_spec (w : World) : Calls Tryd.prog 14 #[] w fun e w' => ∃ p, e = .returned (.slice p 3 3) ∧ SlS w' (.slice p 3 3) mH ∧ Below w.heap.size w w' := by
 go_enter Tryd.func14, Tryd.ntmps14
 go_wp2_with fail
 go_ret
 refine ⟨_, rfl, ?_, ?_⟩
 ·exact sl_block (ls := mH.map solL) (t := 29) (cur := #[.int .u64 0, .int .u64 0, .int .u64 0, .int .u64 28, .int .u64 0, .int .u64 0, .int .u64 0, .int .u64 0, .int .u64 0, .int .u64 0, .int .u64 0, .int .u64 0, .int .u64 28, .int .u64 28, .int .u64 0, .int .u64 0, .int .u64 0, .int .u64 0, .int .u64 0, .int .u64 32, .int .u64 0, .int .u64 0, .int .u64 0, .int .u64 0]) (by repeat (first | with_reducible assumption | (refine Blk.at _ _ ?_; (simp; done)) | with_reducible refine Blk.alloc ?_ _ | with_reducible refine Blk.drew ?_ | with_reducible refine Blk.rowS ?_ _ | with_reducible refine Blk.rowO ?_ _ (by simp))) (fun r hr => by obtain ⟨s, _, rfl⟩ := List.mem_map.1 hr; rfl) (by rw [hook_sols]) (by simp [mH])
 ·repeat first | exact bel_refl _ | refine bel_alloc ?_ _ | refine bel_set ?_ (by simp; try omega) _ | refine bel_drew ?_
theorem moved_up {s x : Sol} {k : Nat} {err : Int} (h : movedM s (0, 0, (k : Int)) = (x, err)) (w : World) (hT : Tab w) : Calls Tryd.prog 6 #[solV s, .int .i64 0, .int .i64 0, .int .i64 (k : Int)] w fun e w' => e = .returned (.tuple #[solV x, .int .i64 err]) ∧ Below w.heap.size w w' := by
 have := moved_n s (0, 0, (k : Int)) w hT
 rw [h] at this
 exact this
theorem drawA' {w : World} {v : Value} (H : SlS w v mA) (hT : Tab w) : Calls Tryd.prog 15 #[v] w fun e w' => Below w.heap.size w w' ∧ ∃ u, e = .returned (.tuple #[u, .bool true, .int .i64 0]) ∧ SlX w' u [(1, 0, 0), (0, 0, 0), (2, 3, 1)] := by
 refine (Draw_spec H hT).mono ?_
 rintro e w' ⟨hb, u, b, rfl, h1⟩
 rw [mA_err]
 rcases h1 mA_err with ⟨L, h2, rfl, h3⟩ | ⟨h2, _⟩
 ·have := Option.some.inj (h2.symm.trans exA_order)
  subst this
  exact ⟨hb, u, rfl, h3.sl⟩
 ·rw [show orderM mA (allU mA.length) = _ from exA_order] at h2; cases h2
theorem drawH {w : World} {v : Value} (H : SlS w v mH) (hT : Tab w) : Calls Tryd.prog 15 #[v] w fun e w' => Below w.heap.size w w' ∧ ∃ u, e = .returned (.tuple #[u, .bool false, .int .i64 0]) := by
 refine (Draw_spec H hT).mono ?_
 rintro e w' ⟨hb, u, b, rfl, h1⟩
 rw [hook_err]
 rcases h1 hook_err with ⟨L, h2, rfl, h3⟩ | ⟨h2, rfl⟩
 ·rw [show orderM mH (allU mH.length) = _ from hook_none] at h2; cases h2
 ·exact ⟨hb, u, rfl⟩
end Go.Proofs.YtkcpnhigekopaaaDoor
end
