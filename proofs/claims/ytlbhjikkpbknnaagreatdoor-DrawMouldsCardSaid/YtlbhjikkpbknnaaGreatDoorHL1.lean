import Derived.Test.YtlbhjikkpbknnaaGreatDoorG21
/-
  Given contracts of functions of the program, and laws for them, one behind the other.
-/
set_option linter.unusedVariables false
set_option linter.unusedSimpArgs false
set_option linter.unusedSectionVars false
section
namespace Go.Proofs.YtlbhjikkpbknnaaGreatDoor
open Go.RowKit Go.Rel Go.Draw
set_option maxRecDepth 100000
/-! DrawRounds -/
theorem contains_intsL (l : List Nat) {x : Int} (hx : 0 ≤ x) : (intsL l).contains x = l.contains x.toNat := by
 unfold intsL
 rw [Bool.eq_iff_iff, List.contains_iff_mem, List.contains_iff_mem, List.mem_map]
 constructor
 ·rintro ⟨a, ha, rfl⟩; simpa using ha
 ·intro h; exact ⟨x.toNat, h, Int.toNat_of_nonneg hx⟩
theorem countP_take {α : Type} (p : α → Bool) {l : List α} {k : Nat} {x : α} (hx : l[k]? = some x) : (l.take (k + 1)).countP p = (l.take k).countP p + if p x then 1 else 0 := by
 rw [List.take_add_one, hx, List.countP_append]
 congr 1
 simp [List.countP_cons]
theorem sll_cell {w : World} {v : Value} {ls : List (List Int)} (h : SlLL w v ls) : ∃ b c, v = .slice b ls.length c ∧ ls.length ≤ 9223372036854775807 ∧ ∀ (k : Nat) (x : List Int), ls[k]? = some x → ∃ ib io u, b = some ⟨ib, io, none⟩ ∧ ib < w.heap.size ∧ w.cell? ⟨ib, io + k, none⟩ = some u ∧ SlI w u x := by
 obtain ⟨us, h1, h2, h3⟩ := h
 rcases h1.cases with ⟨hz, a, c, rfl, hc⟩ | ⟨ib, io, c, hv, hq1, hq2, _, hcs⟩
 ·have hu : us = [] := by simpa using hz
  have hl : ls = [] := List.eq_nil_of_length_eq_zero (by rw [← h2, hu]; rfl)
  subst hl
  exact ⟨_, _, rfl, by simp, fun k x hx => by simp at hx⟩
 ·rw [List.length_map] at hv
  have hq1 : us.length ≤ c := by simpa using hq1
  refine ⟨_, _, by rw [hv, h2], by omega, fun k x hx => ?_⟩
  obtain ⟨hk, _⟩ := List.getElem?_eq_some_iff.1 hx
  have hu : us[k]? = some (us[k]'(by omega)) := List.getElem?_eq_getElem _
  refine ⟨ib, io, us[k]'(by omega), rfl, hcs.1, ?_, h3 k _ x hu hx⟩
  have := hcs.2 k 0 (us[k]'(by omega)) (by rw [List.getElem?_map, hu]; rfl)
  simpa using this
theorem few_bad {n : Nat} {most : Int} (h : ¬ ((n : Int) ≤ most ∨ 12 < n ∧ n ≤ 15)) : (decide ((n : Int) ≤ most) || (decide (12 < n) && decide (n ≤ 15))) = false := by
 simp only [Bool.or_eq_false_iff, Bool.and_eq_false_iff, decide_eq_false_iff_not]
 omega
theorem few_ok {n : Nat} {most : Int} (h : (n : Int) ≤ most ∨ 12 < n ∧ n ≤ 15) : (decide ((n : Int) ≤ most) || (decide (12 < n) && decide (n ≤ 15))) = true := by
 simp only [Bool.or_eq_true, Bool.and_eq_true, decide_eq_true_eq]
 exact h
end Go.Proofs.YtlbhjikkpbknnaaGreatDoor
end
section
namespace Go.Proofs.YtlbhjikkpbknnaaGreatDoor
open Go.RowKit Go.Rel Go.Draw
set_option maxRecDepth 100000
/-! sets and their lists of numbers -/
theorem intsL_inj {l r : List Nat} (h : intsL l = intsL r) : l = r := by
 unfold intsL at h
 exact List.map_inj_right (fun a b e => Int.ofNat.inj e) |>.1 h
theorem contains_listU (A : U) (i : Nat) : (intsL (listU A)).contains (i : Int) = A.getLsbD i := by
 rw [contains_intsL _ (by omega), Int.toNat_natCast, Bool.eq_iff_iff, List.contains_iff_mem, listU_mem]
theorem listU_top {s : U} {x : Nat} (h : ∀ i : Nat, s.getLsbD i = true → i < x) (hx : x < 64) : listU (s ||| bit x) = listU s ++ [x] := by
 have e : List.range 64 = List.range' 0 x ++ (x :: List.range' (x + 1) (63 - x)) := by
  rw [show x :: List.range' (x + 1) (63 - x) = List.range' x (64 - x) by
   rw [show 64 - x = (63 - x) + 1 by omega, List.range'_succ], List.range_eq_range']
  have := List.range'_append_1 (s := 0) (m := x) (n := 64 - x)
  rw [Nat.zero_add] at this
  rw [this, show x + (64 - x) = 64 by omega]
 unfold listU
 rw [e, List.filter_append, List.filter_append, List.filter_cons, List.filter_cons, or_bit _ _ _ hx]
 have h1 : (List.range' 0 x).filter (fun i => (s ||| bit x).getLsbD i) = (List.range' 0 x).filter fun i => s.getLsbD i := by
  apply List.filter_congr
  intro i hi
  have : i < x := by have := List.mem_range'_1.1 hi; omega
  rw [or_bit _ _ _ hx]; simp; omega
 have h2 : (List.range' (x + 1) (63 - x)).filter (fun i => (s ||| bit x).getLsbD i) = [] := by
  rw [List.filter_eq_nil_iff]
  intro i hi hb
  have hi2 : x < i := by have := List.mem_range'_1.1 hi; omega
  rw [or_bit _ _ _ hx, Bool.or_eq_true] at hb
  rcases hb with hb | hb
  ·have := h i hb; omega
  ·simp at hb; omega
 have h3 : (List.range' (x + 1) (63 - x)).filter (fun i => s.getLsbD i) = [] := by
  rw [List.filter_eq_nil_iff]
  intro i hi hb
  have hi2 : x < i := by have := List.mem_range'_1.1 hi; omega
  have := h i hb; omega
 have h4 : s.getLsbD x = false := by
  cases hb : s.getLsbD x
  ·rfl
  ·have := h x hb; omega
 rw [h1, h2, h3, h4]; simp
theorem setG_list {n : Nat} (hn : n ≤ 12) : ∀ (l : List Int) (pr : Option Int) (s G : U), (∀ i : Nat, s.getLsbD i = true → ∃ y, pr = some y ∧ (i : Int) ≤ y) → setG n pr s l = some G → intsL (listU G) = intsL (listU s) ++ l
 | [], pr, s, G, _, h => by unfold setG at h; cases h; simp
 | x :: l, pr, s, G, hs, h => by
  unfold setG at h
  split at h
  ·rename_i hx
   have hx64 : x.toNat < 64 := by omega
   have htop : ∀ i : Nat, s.getLsbD i = true → i < x.toNat := fun i hi => by
    obtain ⟨y, hy, hle⟩ := hs i hi
    have := hx.2.2 y hy; omega
   rw [setG_list hn l (some x) _ G (fun i hi => ⟨x, rfl, by
    rw [or_bit _ _ _ hx64, Bool.or_eq_true] at hi
    rcases hi with hi | hi
    ·have := htop i hi; omega
    ·simp at hi; omega⟩) h, listU_top htop hx64]
   unfold intsL
   rw [List.map_append, List.append_assoc]
   congr 1
   simp; omega
  ·cases h
theorem setI_list {n : Nat} (hn : n ≤ 12) {l : List Int} {G : U} (h : setI n l = some G) : l = intsL (listU G) := by
 have := setG_list hn l none 0 G (fun i hi => by simp at hi) h
 rw [listU_zero] at this
 exact this.symm
theorem setG_some {n : Nat} : ∀ (l : List Int) (pr : Option Int) (s : U), l.Pairwise (· < ·) → (∀ x ∈ l, 0 ≤ x ∧ x < n) → (∀ y, pr = some y → ∀ x ∈ l, y < x) → (setG n pr s l).isSome = true
 | [], _, _, _, _, _ => rfl
 | x :: l, pr, s, hp, hb, hy => by
  have hpc := List.pairwise_cons.1 hp
  unfold setG
  rw [if_pos ⟨(hb x (by simp)).1, (hb x (by simp)).2, fun y e => hy y e x (by simp)⟩]
  exact setG_some l _ _ hpc.2 (fun z hz => hb z (by simp [hz])) (fun y e z hz => by cases e; exact hpc.1 z hz)
theorem setI_of {n : Nat} (hn : n ≤ 12) {G : U} (hG : Sub G (allU n)) : setI n (intsL (listU G)) = some G := by
 have hsome : (setI n (intsL (listU G))).isSome = true := by
  refine setG_some _ _ _ ?_ (fun x hx => ?_) (fun y e => by cases e)
  ·unfold intsL listU
   rw [List.pairwise_map]
   refine (List.Pairwise.filter _ (List.pairwise_lt_range)).imp fun h => ?_
   exact Int.ofNat_lt.2 h
  ·unfold intsL at hx
   obtain ⟨i, hi, rfl⟩ := List.mem_map.1 hx
   have := hG i ((listU_mem _ _).1 hi)
   rw [allU_bit _ _ (by omega)] at this
   simp at this
   exact ⟨Int.natCast_nonneg i, Int.ofNat_lt.2 this⟩
 obtain ⟨G', h⟩ := Option.isSome_iff_exists.1 hsome
 have := setI_list hn h
 rw [h, listU_inj (intsL_inj this)]
theorem listU_small {A : U} (hA : Sub A (allU 12)) : listU A = (List.range 12).filter fun i => A.getLsbD i := by
 unfold listU
 rw [show List.range 64 = List.range 12 ++ List.range' 12 52 by decide, List.filter_append]
 have : (List.range' 12 52).filter (fun i => A.getLsbD i) = [] := by
  rw [List.filter_eq_nil_iff]
  intro i hi hb
  have h1 := hA i hb
  rw [allU_bit _ _ (by omega)] at h1
  have := List.mem_range'_1.1 hi
  simp at h1; omega
 rw [this, List.append_nil]
theorem sub_all {n : Nat} (hn : n ≤ 12) {A : U} (h : Sub A (allU n)) : Sub A (allU 12) := fun i hi => by
 have := h i hi
 rw [allU_bit _ _ (by omega)] at this ⊢
 simp at this ⊢; omega
theorem unionF_sets {A B : U} (hA : Sub A (allU 12)) (hB : Sub B (allU 12)) : unionF (intsL (listU A)) (intsL (listU B)) 12 = listU (A ||| B) := by
 rw [listU_small (or_sub.2 ⟨hA, hB⟩)]
 unfold unionF
 apply List.filter_congr
 intro i _
 rw [contains_listU, contains_listU, BitVec.getLsbD_or]
theorem all_subB (A s : U) : ((intsL (listU s)).all fun x => (intsL (listU A)).contains x) = subB s A := by
 rw [Bool.eq_iff_iff, List.all_eq_true, subB_iff]
 constructor
 ·intro h i hi
  have := h (i : Int) (by unfold intsL; exact List.mem_map.2 ⟨i, (listU_mem _ _).2 hi, rfl⟩)
  rwa [contains_listU] at this
 ·intro h x hx
  unfold intsL at hx
  obtain ⟨i, hi, rfl⟩ := List.mem_map.1 hx
  show (intsL (listU A)).contains (i : Int) = true
  rw [contains_listU]
  exact h i ((listU_mem _ _).1 hi)
theorem intsL_beq (A B : U) : (intsL (listU A) == intsL (listU B)) = (A == B) := by
 rw [Bool.eq_iff_iff, beq_iff_eq, beq_iff_eq]
 exact ⟨fun h => listU_inj (intsL_inj h), fun h => by rw [h]⟩
end Go.Proofs.YtlbhjikkpbknnaaGreatDoor
end
section
namespace Go.Proofs.YtlbhjikkpbknnaaGreatDoor
open Go.RowKit Go.Rel Go.Draw
set_option maxRecDepth 100000
attribute [local go_sem] Oper.semAt_some
/-! Undercut -/
theorem sl_one {W : World} {b : Nat} {s : Sol} {t : TypeId} (h : Blk W b #[.int .u64 (pl s 0), .int .u64 (pl s 1), .int .u64 (pl s 2), .int .u64 (pl s 3), .int .u64 (pl s 4), .int .u64 (pl s 5), .int .u64 (pl s 6), .int .u64 (pl s 7)] t) : SlS W (.slice (some ⟨b, 0, none⟩) 1 1) [s] := by
 have := sl_block (ls := [solL s]) h (by intro r hr; simp at hr; subst hr; rfl) (by simp [solL]) (by simp)
 exact this
def underF (s : Sol) (out : Sol) (y : Sol × Bool) : Sol := out ||| (y.1 &&& ~~~s)
def uf (s : Sol) (pre : List (Sol × Bool)) : Sol := pre.foldl (underF s) 0
theorem uf_nil (s : Sol) : uf s [] = 0 := rfl
theorem uf_snoc (s : Sol) (pre : List (Sol × Bool)) (y : Sol × Bool) : uf s (pre ++ [y]) = uf s pre ||| (y.1 &&& ~~~s) := by unfold uf; rw [List.foldl_append]; rfl
theorem under_fold (s : Sol) : uf s (wayL 0 0 s) = undercutM s := rfl
theorem mouldX_get (v : Value) (f : Nat → Int) (mb : Nat) {k : Nat} (hk : k < 8) : (mouldX v f mb)[1 + k]? = some (.int .u64 (f k)) := by
 obtain rfl | rfl | rfl | rfl | rfl | rfl | rfl | rfl : k = 0 ∨ k = 1 ∨ k = 2 ∨ k = 3 ∨ k = 4 ∨ k = 5 ∨ k = 6 ∨ k = 7 := by omega
 all_goals rfl
/-- the words of out, z of them done -/
def mixU (A B : Sol) (z : Nat) : Array Value := mixA fun i => if i < z then pl B i else pl A i
theorem mixU_get (A B : Sol) {z : Nat} (hz : z < 8) : (mixU A B z)[z]? = some (.int .u64 (pl A z)) := by unfold mixU; rw [mixA_get _ hz]; simp
theorem mixU_set (A B : Sol) {z : Nat} (hz : z < 8) : (mixU A B z).setIfInBounds z (.int .u64 (pl B z)) = mixU A B (z + 1) := by
 unfold mixU
 rw [mixA_set _ hz]
 refine mixA_eq fun i _ => ?_
 by_cases e : i = z
 ·subst e; simp
 ·simp only [e, if_false]
  by_cases h : i < z
  ·rw [if_pos h, if_pos (by omega)]
  ·rw [if_neg h, if_neg (by omega)]
theorem mixU_zero (A B : Sol) : mixU A B 0 = #[.int .u64 (pl A 0), .int .u64 (pl A 1), .int .u64 (pl A 2), .int .u64 (pl A 3), .int .u64 (pl A 4), .int .u64 (pl A 5), .int .u64 (pl A 6), .int .u64 (pl A 7)] := by unfold mixU; simp
theorem mixU_end (A B : Sol) : mixU A B 8 = #[.int .u64 (pl B 0), .int .u64 (pl B 1), .int .u64 (pl B 2), .int .u64 (pl B 3), .int .u64 (pl B 4), .int .u64 (pl B 5), .int .u64 (pl B 6), .int .u64 (pl B 7)] := by unfold mixU; exact mixA_eq (g := fun i => pl B i) (fun i hi => by simp [hi])
def I10w (N : Nat) (A B : Sol) (z : Nat) (a15 : Bool) (W : World) : Prop := (a15 = false → Blk W N (mixU A B z) 93) ∧ (a15 = true → Blk W N (mixU A B (z + 1)) 93)
set_option maxHeartbeats 8000000 in
theorem Undercut_spec {w : World} {s : Sol} (hT : Tab w) : Calls Tryz.prog 57 #[solV s] w fun e w' => Below w.heap.size w w' ∧ ∃ o, e = .returned (.tuple #[solV o, .int .i64 (errM [s])]) ∧ (errM [s] = 0 → o = undercutM s) ∧ (errM [s] ≠ 0 → o = 0) := by
 have HT := Lib.hid hT
 clear hT
 refine (callsIn_wide (n := 9)).1 ?_
 refine callsIn_of_wp_marks Tryz.func57 rfl trivial ?_ rfl
 simp only [Tryz.ntmps57, List.size_toArray, List.length_cons, List.length_nil, Nat.reduceAdd, Nat.reduceSub, Array.replicate_succ, Array.replicate_zero, List.push_toArray, List.append_toArray, List.nil_append, List.cons_append]
 refine wpIn_wide.2 ?_
 go_wp2_with fail
 obtain ⟨W0, hW0⟩ : ∃ W0, W0 = ((w.alloc (.cells #[.int .u64 (pl s 0), .int .u64 (pl s 1), .int .u64 (pl s 2), .int .u64 (pl s 3), .int .u64 (pl s 4), .int .u64 (pl s 5), .int .u64 (pl s 6), .int .u64 (pl s 7)] 64)).alloc (.cells #[.int .u64 0, .int .u64 0, .int .u64 0, .int .u64 0, .int .u64 0, .int .u64 0, .int .u64 0, .int .u64 0] 64)).alloc (.cells #[.int .u64 (pl s 0), .int .u64 (pl s 1), .int .u64 (pl s 2), .int .u64 (pl s 3), .int .u64 (pl s 4), .int .u64 (pl s 5), .int .u64 (pl s 6), .int .u64 (pl s 7)] 64) := ⟨_, rfl⟩
 have b1 : Blk W0 w.heap.size #[.int .u64 (pl s 0), .int .u64 (pl s 1), .int .u64 (pl s 2), .int .u64 (pl s 3), .int .u64 (pl s 4), .int .u64 (pl s 5), .int .u64 (pl s 6), .int .u64 (pl s 7)] 64 := by subst hW0; exact (by repeat (first | with_reducible assumption | (refine Blk.at _ _ ?_; (simp; done)) | with_reducible refine Blk.alloc ?_ _ | with_reducible refine Blk.drew ?_ | with_reducible refine Blk.rowS ?_ _ | with_reducible refine Blk.rowO ?_ _ (by simp)))
 have b2 : Blk W0 (w.heap.size + 1) #[.int .u64 0, .int .u64 0, .int .u64 0, .int .u64 0, .int .u64 0, .int .u64 0, .int .u64 0, .int .u64 0] 64 := by subst hW0; exact (by repeat (first | with_reducible assumption | (refine Blk.at _ _ ?_; (simp; done)) | with_reducible refine Blk.alloc ?_ _ | with_reducible refine Blk.drew ?_ | with_reducible refine Blk.rowS ?_ _ | with_reducible refine Blk.rowO ?_ _ (by simp)))
 have b3 : Blk W0 (w.heap.size + 1 + 1) #[.int .u64 (pl s 0), .int .u64 (pl s 1), .int .u64 (pl s 2), .int .u64 (pl s 3), .int .u64 (pl s 4), .int .u64 (pl s 5), .int .u64 (pl s 6), .int .u64 (pl s 7)] 64 := by subst hW0; exact Blk.at _ _ (by simp)
 have hbel : Below w.heap.size w W0 := by subst hW0; exact (by repeat (first | with_reducible exact bel_refl _ | with_reducible assumption | with_reducible refine bel_drewN ?_ _ | with_reducible refine bel_drew ?_ | with_reducible refine bel_alloc ?_ _ | with_reducible refine bel_row ?_ ?_ _ | with_reducible refine bel_set ?_ ?_ _ | refine bel_trans ?_ (by with_reducible assumption) | (simp; done) | (simp; omega)))
 have hsz : W0.heap.size = w.heap.size + 1 + 1 + 1 := by subst hW0; simp
 rw [← hW0]
 clear hW0
 refine (moulded_x (sl_one b3)).mono ?_
 rintro e wM ⟨hb1, p, rfl, hx, hn⟩
 have hbw := bel_trans hbel hb1
 have B1 := b1.grow hb1
 have B2 := b2.grow hb1
 have hs1 := hb1.size
 rw [hsz] at hs1
 by_cases hE : errM [s] = 0
 ·obtain ⟨hl, g, mb, rfl, hg, hmb, hM⟩ := hx hE
  rw [hE]
  rw [hsz] at hg hmb
  have HB := Lib.hid (And.intro B1 (And.intro B2 (And.intro hbw (And.intro hM (And.intro hE (And.intro hg (And.intro hmb hs1)))))))
  clear hx hn hb1 b1 b2 b3 hbel hsz hbw B1 B2 hM hE hl hg hmb hs1
  go_wp2_with fail
  refine (way_spec _ g (0, 0, 0)).mono ?_
  rintro e w3 ⟨rfl, hw3⟩
  simp only [World.size_alloc] at hw3 ⊢
  have hb3 : Below wM.heap.size wM w3 := by subst hw3; exact (by repeat (first | with_reducible exact bel_refl _ | with_reducible assumption | with_reducible refine bel_drewN ?_ _ | with_reducible refine bel_drew ?_ | with_reducible refine bel_alloc ?_ _ | with_reducible refine bel_row ?_ ?_ _ | with_reducible refine bel_set ?_ ?_ _ | refine bel_trans ?_ (by with_reducible assumption) | (simp; done) | (simp; omega)))
  have b4 : Blk w3 wM.heap.size #[.pointer (some ⟨g, 0, none⟩)] 80 := by subst hw3; exact (by repeat (first | with_reducible assumption | (refine Blk.at _ _ ?_; (simp; done)) | with_reducible refine Blk.alloc ?_ _ | with_reducible refine Blk.drew ?_ | with_reducible refine Blk.rowS ?_ _ | with_reducible refine Blk.rowO ?_ _ (by simp)))
  have b6 : Blk w3 (wM.heap.size + 1) #[.int .u64 0, .int .u64 0, .int .u64 0, .int .u64 0, .int .u64 0, .int .u64 0, .int .u64 0, .int .u64 0] 93 := by subst hw3; exact (by repeat (first | with_reducible assumption | (refine Blk.at _ _ ?_; (simp; done)) | with_reducible refine Blk.alloc ?_ _ | with_reducible refine Blk.drew ?_ | with_reducible refine Blk.rowS ?_ _ | with_reducible refine Blk.rowO ?_ _ (by simp)))
  have bm : Blk w3 (wM.heap.size + 1 + 1) #[.pointer (some ⟨g, 0, none⟩)] 80 := by subst hw3; exact (by repeat (first | with_reducible assumption | (refine Blk.at _ _ ?_; (simp; done)) | with_reducible refine Blk.alloc ?_ _ | with_reducible refine Blk.drew ?_ | with_reducible refine Blk.rowS ?_ _ | with_reducible refine Blk.rowO ?_ _ (by simp)))
  have bx : Blk w3 (wM.heap.size + 1 + 1 + 1) #[.int .i64 ((0 : Nat) : Int), .int .i64 ((0 : Nat) : Int), .int .i64 ((0 : Nat) : Int)] 25 := by subst hw3; exact Blk.at _ _ (by simp)
  have hsz3 : w3.heap.size = wM.heap.size + 1 + 1 + 1 + 1 := by subst hw3; simp
  have H3 := Lib.hid (And.intro b4 (And.intro b6 (And.intro bm (And.intro bx (And.intro hsz3 (And.intro (HB.out.1.grow hb3) (And.intro (HB.out.2.1.grow hb3) (And.intro (HB.out.2.2.2.1.grow hb3) (bel_trans HB.out.2.2.1 hb3)))))))))
  have hgl := HB.out.2.2.2.1.lt
  have hml := HB.out.2.2.2.1.ways.lt
  have hbs := HB.out.2.2.2.2.2.2.2
  clear hw3 hb3 b4 b6 bm bx hsz3
  go_wp2_with fail
  refine (wpIn_wide (n := 9)).1 ?_
  refine wpIn_rangeFunc_C (α := Sol × Bool) rfl (by omega) (gf := 121) (lb := #[.pointer (some ⟨wM.heap.size + 1 + 1, 0, none⟩), .pointer (some ⟨wM.heap.size + 1 + 1 + 1, 0, none⟩)]) rfl trivial (enters_of Tryz.func121 (by kernel_rfl) rfl) (wr := fun k => k = wM.heap.size + 1) 1
   (fun W hbW _ => way_seq (n := 9 - 1) (by omega) (H3.out.2.2.2.2.2.2.2.1.grow hbW) (x := (0, 0, 0)) (s := s) rfl ((mem_allMv _).2 (by decide)) (H3.out.2.2.1.grow hbW) (H3.out.2.2.2.1.grow hbW) (by omega)) (fun r h1 h2 => by have := H3.out.2.2.2.2.1; omega) (fun _ => rfl)
   (fun pre W => Blk W (wM.heap.size + 1) #[.int .u64 (pl (uf s pre) 0), .int .u64 (pl (uf s pre) 1), .int .u64 (pl (uf s pre) 2), .int .u64 (pl (uf s pre) 3), .int .u64 (pl (uf s pre) 4), .int .u64 (pl (uf s pre) 5), .int .u64 (pl (uf s pre) 6), .int .u64 (pl (uf s pre) 7)] 93 ∧ w3.grownBy W (some (wM.heap.size + 1))) (fun _ _ _ => False)
   (AbidesC.and (abides_blk (f := fun pre : List (Sol × Bool) => #[.int .u64 (pl (uf s pre) 0), .int .u64 (pl (uf s pre) 1), .int .u64 (pl (uf s pre) 2), .int .u64 (pl (uf s pre) 3), .int .u64 (pl (uf s pre) 4), .int .u64 (pl (uf s pre) 5), .int .u64 (pl (uf s pre) 6), .int .u64 (pl (uf s pre) 7)]) (by have := H3.out.2.2.2.2.1; omega)) (abides_gb (Nat.le_refl _))) (fun _ => fun _ _ _ _ h _ _ => h) ⟨(by have := H3.out.2.1; simpa [show ∀ k, pl (0#512) k = 0 from pl_zero, uf_nil] using this), gb_refl _ _⟩
   (fun z a' W => ∃ B7, w3.heap.size + 1 + 1 + 1 ≤ B7 ∧ Blk W B7 #[.int .u64 (pl z.1 0), .int .u64 (pl z.1 1), .int .u64 (pl z.1 2), .int .u64 (pl z.1 3), .int .u64 (pl z.1 4), .int .u64 (pl z.1 5), .int .u64 (pl z.1 6), .int .u64 (pl z.1 7)] 93 ∧ a' = { tmps := #[solV s, .pointer (some ⟨w.heap.size, 0, none⟩), .pointer (some ⟨w.heap.size + 1, 0, none⟩), .int .i64 0, .pointer (some ⟨wM.heap.size, 0, none⟩), .int .i64 0, .pointer (some ⟨wM.heap.size + 1, 0, none⟩), .pointer (some ⟨B7, 0, none⟩), undef, .tuple #[.pointer (some ⟨g, 0, none⟩), .int .i64 0], .agg #[.int .u64 (pl s 0), .int .u64 (pl s 1), .int .u64 (pl s 2), .int .u64 (pl s 3), .int .u64 (pl s 4), .int .u64 (pl s 5), .int .u64 (pl s 6), .int .u64 (pl s 7)], .slice (some ⟨w.heap.size + 1 + 1, 0, none⟩) 1 1, .tuple #[.pointer (some ⟨g, 0, none⟩), .int .i64 0], .pointer (some ⟨g, 0, none⟩), .int .i64 0, .int .i64 0, .bool false, undef, undef, .pointer (some ⟨g, 0, none⟩), .agg #[.int .i64 0, .int .i64 0, .int .i64 0], .func (.func 121) #[] #[.pointer (some ⟨wM.heap.size + 1 + 1, 0, none⟩), .pointer (some ⟨wM.heap.size + 1 + 1 + 1, 0, none⟩)], solV z.1, .bool z.2, undef, undef, undef, undef, undef, undef, undef, undef, undef, undef, undef, undef, undef, undef, undef, undef, undef, undef, undef, undef], defers := [] })
   (fun z a' _ X Y row hs hg hr => by obtain ⟨B7, e1, e2, e3⟩ := hs; exact ⟨B7, e1, e2.gb hg (fun e => by have := hr _ e.symm; omega), e3⟩)
   ?assign ?body ?done ?stop
  case assign =>
   rintro lp pre z W K ⟨h7, hgb⟩ hsz hK
   have HI := Lib.hid (And.intro h7 hgb); clear h7 hgb
   have hK' := fun a' W' => hK a' W'
   clear hK
   gi_wp2_with fail
   refine hK' _ _ (KeepsBut.alloc _ _ _) ⟨HI.out.1.alloc _, gb_alloc HI.out.2 _⟩ ⟨W.heap.size, hsz, Blk.new _ _ _, rfl⟩
  case body =>
   rintro lp pre ⟨z1, z2⟩ a' W hsz ⟨h7, hgb⟩ ⟨B7, hB7, bB, rfl⟩ hlen
   obtain ⟨pa, pc, hBg, -⟩ := H3.out.2.2.2.2.2.2.2.1.blk
   rw [sand_one] at hBg
   have H3s := H3.out.2.2.2.2.1
   obtain ⟨A, hA⟩ : ∃ A, A = uf s pre := ⟨_, rfl⟩
   obtain ⟨B, hB⟩ : ∃ B, B = A ||| (z1 &&& ~~~s) := ⟨_, rfl⟩
   rw [← hA, ← mixU_zero A B] at h7
   have HI := Lib.hid (And.intro h7 (And.intro bB (And.intro (H3.out.1.gb hgb (by first | omega | (simp; omega) | simp)) (And.intro (hBg.gb hgb (by first | omega | (simp; omega) | simp)) (And.intro hgb (And.intro hA hB))))))
   have hmg : g < wM.heap.size := hgl
   clear h7 bB hBg hgb hA hB
   gi_wp2_with fail
   obtain ⟨wb, hwb⟩ : ∃ wb, wb = W := ⟨_, rfl⟩
   gi_loopw [24] (fun iv wx => ∃ z : Nat, z ≤ 8 ∧ iv = .int .i64 z ∧ Hid (Blk wx (wM.heap.size + 1) (mixU A B z) 93 ∧ W.grownBy wx (some (wM.heap.size + 1)))) (fun iv _ => 8 - (intOf iv).toNat)
   case atStart => exact ⟨0, by omega, rfl, Lib.hid ⟨HI.out.1, gb_refl _ _⟩⟩
   case round =>
    obtain ⟨z, hz, rfl, HM⟩ := hrel
    by_cases hz8 : z < 8
    ·have HJ := Lib.hid (And.intro HM.out.1 (And.intro (HI.out.2.1.gb HM.out.2 (by first | omega | (simp; omega) | simp)) (And.intro (HI.out.2.2.1.gb HM.out.2 (by first | omega | (simp; omega) | simp)) (HI.out.2.2.2.1.gb HM.out.2 (by first | omega | (simp; omega) | simp)))))
     have ea := bits_and_pl z1 (~~~s) z
     have eo := (bits_or_pl A (z1 &&& ~~~s) z).trans (by rw [← HI.out.2.2.2.2.2.2])
     gi_wp2_with fail
     refine wpIn_region_val (GbN (wM.heap.size + 1)) (fun L vs W => I10w (wM.heap.size + 1) A B z (L 15) W) [Is (.int .i64 (z : Int)), Is (.pointer (some ⟨wM.heap.size + 1, z, none⟩)), Is (.int .u64 (pl A z)), Is (.int .i64 (z : Int)), Is (.pointer (some ⟨B7, z, none⟩)), Is (.int .u64 (pl z1 z)), Is (.pointer (some ⟨g, 0, none⟩)), Is (.int .i64 (z : Int)), Is (.pointer (some ⟨g, 0, none⟩)), Is (.pointer (some ⟨g, 1, none⟩)), Is (.pointer (some ⟨g, 1 + z, none⟩)), Is (.int .u64 (pl (~~~s) z)), Is (.int .u64 (pl (z1 &&& ~~~s) z)), Is (.int .u64 (pl B z)), Is (.pointer (some ⟨wM.heap.size + 1, z, none⟩)), AnyV] (by kernel_rfl) (by kernel_rfl) (by kernel_rfl) rfl (fun W => gb_refl W _) (GbN.trans (wM.heap.size + 1)) (stable_mem ⟨fun _ _ _ h _ => h, fun _ _ _ h _ => h, fun _ _ _ h _ => h, fun _ _ _ h _ => h, fun _ _ _ h _ => h, fun _ _ _ h _ => h, fun _ _ _ h _ => h, fun _ _ _ h _ => h, fun _ _ _ h _ => h, fun _ _ _ h _ => h, fun _ _ _ h _ => h, fun _ _ _ h _ => h, fun _ _ _ h _ => h, fun _ _ _ h _ => h, fun _ _ _ h _ => h, fun _ _ _ h _ => h, trivial⟩) wr (gb_drew (gb_refl _ _)) (⟨fun _ => HJ.out.1, fun e => (by cases e)⟩) ?_
     refine val_cons ?_ (fun v0 => ?_)
     ·intro L vs w1 hvs hat hb hI hF; try simp [factsI, Region.binds, Is] at hF
      have HI2 := Lib.hid hI; clear hI
      go_simp
      first | exact ⟨gb_refl _ _, HI2.out⟩ | exact HI2.out | exact ⟨HI2.out, trivial⟩
     refine val_cons ?_ (fun v1 => ?_)
     ·intro L vs w1 hvs hat hb hI hF; try simp [factsI, Region.binds, Is] at hF
      have HI2 := Lib.hid hI; clear hI
      go_simp
      first | exact ⟨gb_refl _ _, HI2.out⟩ | exact HI2.out | exact ⟨HI2.out, trivial⟩
     refine val_cons ?_ (fun v2 => ?_)
     ·intro L vs w1 hvs hat hb hI hF; try simp [factsI, Region.binds, Is] at hF
      have h15 := hat.later 16 15 (by kernel_rfl)
      have c6 := ((hI.1 h15).cell z).trans (mixU_get A B hz8)
      have l6 := (hI.1 h15).lt
      clear h15
      have HI2 := Lib.hid hI; clear hI
      go_simp
      first | exact ⟨gb_refl _ _, HI2.out⟩ | exact HI2.out | exact ⟨HI2.out, trivial⟩
     refine val_cons ?_ (fun v3 => ?_)
     ·intro L vs w1 hvs hat hb hI hF; try simp [factsI, Region.binds, Is] at hF
      have HI2 := Lib.hid hI; clear hI
      go_simp
      first | exact ⟨gb_refl _ _, HI2.out⟩ | exact HI2.out | exact ⟨HI2.out, trivial⟩
     refine val_cons ?_ (fun v4 => ?_)
     ·intro L vs w1 hvs hat hb hI hF; try simp [factsI, Region.binds, Is] at hF
      have HI2 := Lib.hid hI; clear hI
      go_simp
      first | exact ⟨gb_refl _ _, HI2.out⟩ | exact HI2.out | exact ⟨HI2.out, trivial⟩
     refine val_cons ?_ (fun v5 => ?_)
     ·intro L vs w1 hvs hat hb hI hF; try simp [factsI, Region.binds, Is] at hF
      have c7 := ((HJ.out.2.1.gb hb (by first | omega | (simp; omega) | simp)).cell z).trans (mixA_get (fun i => pl z1 i) hz8)
      have l7 := (HJ.out.2.1.gb hb (by first | omega | (simp; omega) | simp)).lt
      have HI2 := Lib.hid hI; clear hI
      go_simp
      first | exact ⟨gb_refl _ _, HI2.out⟩ | exact HI2.out | exact ⟨HI2.out, trivial⟩
     refine val_cons ?_ (fun v6 => ?_)
     ·intro L vs w1 hvs hat hb hI hF; try simp [factsI, Region.binds, Is] at hF
      have c4 := (HJ.out.2.2.1.gb hb (by first | omega | (simp; omega) | simp)).cell 0
      have l4 := (HJ.out.2.2.1.gb hb (by first | omega | (simp; omega) | simp)).lt
      have HI2 := Lib.hid hI; clear hI
      go_simp
      first | exact ⟨gb_refl _ _, HI2.out⟩ | exact HI2.out | exact ⟨HI2.out, trivial⟩
     refine val_cons ?_ (fun v7 => ?_)
     ·intro L vs w1 hvs hat hb hI hF; try simp [factsI, Region.binds, Is] at hF
      have HI2 := Lib.hid hI; clear hI
      go_simp
      first | exact ⟨gb_refl _ _, HI2.out⟩ | exact HI2.out | exact ⟨HI2.out, trivial⟩
     refine val_cons ?_ (fun v8 => ?_)
     ·intro L vs w1 hvs hat hb hI hF; try simp [factsI, Region.binds, Is] at hF
      have HI2 := Lib.hid hI; clear hI
      go_simp
      first | exact ⟨gb_refl _ _, HI2.out⟩ | exact HI2.out | exact ⟨HI2.out, trivial⟩
     refine val_cons ?_ (fun v9 => ?_)
     ·intro L vs w1 hvs hat hb hI hF; try simp [factsI, Region.binds, Is] at hF
      have HI2 := Lib.hid hI; clear hI
      go_simp
      first | exact ⟨gb_refl _ _, HI2.out⟩ | exact HI2.out | exact ⟨HI2.out, trivial⟩
     refine val_cons ?_ (fun v10 => ?_)
     ·intro L vs w1 hvs hat hb hI hF; try simp [factsI, Region.binds, Is] at hF
      have HI2 := Lib.hid hI; clear hI
      go_simp
      first | exact ⟨gb_refl _ _, HI2.out⟩ | exact HI2.out | exact ⟨HI2.out, trivial⟩
     refine val_cons ?_ (fun v11 => ?_)
     ·intro L vs w1 hvs hat hb hI hF; try simp [factsI, Region.binds, Is] at hF
      have cg := ((HJ.out.2.2.2.gb hb (by first | omega | (simp; omega) | simp)).cell (1 + z)).trans (mouldX_get _ (fun i => pl (~~~s) i) mb hz8)
      have lg := (HJ.out.2.2.2.gb hb (by first | omega | (simp; omega) | simp)).lt
      have HI2 := Lib.hid hI; clear hI
      go_simp
      first | exact ⟨gb_refl _ _, HI2.out⟩ | exact HI2.out | exact ⟨HI2.out, trivial⟩
     refine val_cons ?_ (fun v12 => ?_)
     ·intro L vs w1 hvs hat hb hI hF; try simp [factsI, Region.binds, Is] at hF
      have HI2 := Lib.hid hI; clear hI
      go_simp
      first | exact ⟨gb_refl _ _, HI2.out⟩ | exact HI2.out | exact ⟨HI2.out, trivial⟩
     refine val_cons ?_ (fun v13 => ?_)
     ·intro L vs w1 hvs hat hb hI hF; try simp [factsI, Region.binds, Is] at hF
      have HI2 := Lib.hid hI; clear hI
      go_simp
      first | exact ⟨gb_refl _ _, HI2.out⟩ | exact HI2.out | exact ⟨HI2.out, trivial⟩
     refine val_cons ?_ (fun v14 => ?_)
     ·intro L vs w1 hvs hat hb hI hF; try simp [factsI, Region.binds, Is] at hF
      have HI2 := Lib.hid hI; clear hI
      go_simp
      first | exact ⟨gb_refl _ _, HI2.out⟩ | exact HI2.out | exact ⟨HI2.out, trivial⟩
     refine val_cons ?_ (fun v15 => ?_)
     ·intro L vs w1 hvs hat hb hI hF; try simp [factsI, Region.binds, Is] at hF
      have h15 := Lib.hid hat.self
      have hB := hI.1 h15.out
      have l6 := hB.lt
      have f6 := hB.free z
      have e6 := ((hB.cell z).trans (mixU_get A B hz8))
      have HW := Lib.hid hB
      clear hI hB
      go_simp
      refine ⟨gb_set (gb_refl _ _) _ rfl _, ⟨fun e => (by cases e), fun _ => ?_⟩, trivial⟩
      have := HW.out.set z (.int .u64 (pl B z))
      rw [mixU_set A B hz8] at this
      exact this
     refine val_nil ?_
     intro vs w1 hvs hb hI hF
     simp [Is, Nat.forall_lt_succ_right] at hF
     have e0 := hF.1.1.1.1.1.1.1.1.1.1.1.1.1.1.1
     have e1 := hF.1.1.1.1.1.1.1.1.1.1.1.1.1.1.2
     have e2 := hF.1.1.1.1.1.1.1.1.1.1.1.1.1.2
     have e3 := hF.1.1.1.1.1.1.1.1.1.1.1.1.2
     have e4 := hF.1.1.1.1.1.1.1.1.1.1.1.2
     have e5 := hF.1.1.1.1.1.1.1.1.1.1.2
     have e6 := hF.1.1.1.1.1.1.1.1.1.2
     have e7 := hF.1.1.1.1.1.1.1.1.2
     have e8 := hF.1.1.1.1.1.1.1.2
     have e9 := hF.1.1.1.1.1.1.2
     have e10 := hF.1.1.1.1.1.2
     have e11 := hF.1.1.1.1.2
     have e12 := hF.1.1.1.2
     have e13 := hF.1.1.2
     have e14 := hF.1.2
     have e15 := hF.2
     clear hF
     simp only [Act.put, List.setIfInBounds_toArray, List.set_cons_succ, List.set_cons_zero, e0, e1, e2, e3, e4, e5, e6, e7, e8, e9, e10, e11, e12, e13, e14]
     clear e0 e1 e2 e3 e4 e5 e6 e7 e8 e9 e10 e11 e12 e13 e14
     have hB7 := hI.2 rfl
     have hgW : W.grownBy w1 (some (wM.heap.size + 1)) := HM.out.2.trans hb
     have HC := Lib.hid (And.intro hB7 hgW)
     clear hI hb hB7 hgW hvs
     gi_wp2_with fail
     go_roundw
     case rel => exact ⟨z + 1, by omega, by go_num, HC⟩
     case measure => simp [intOf]; omega
    ·obtain rfl : z = 8 := by omega
     gi_wp2_with fail
     refine ⟨.gb HM.out.2 (fun r e => (by cases e; rfl)), ?_, HI.out.2.2.2.2.1.trans HM.out.2⟩
     rw [uf_snoc, ← HI.out.2.2.2.2.2.1, ← HI.out.2.2.2.2.2.2, ← mixU_end A B]
     exact HM.out.1
  case done =>
   rintro D xs W hD rfl ⟨h7, hgb⟩ hK
   rw [under_fold] at h7
   have H3s := H3.out.2.2.2.2.1
   have b2 := H3.out.2.2.2.2.2.2.1.gb hgb (by first | omega | (simp; omega) | simp)
   have hbW : Below w.heap.size w W := H3.out.2.2.2.2.2.2.2.2.grown hgb (by omega) (fun j e => by cases e; omega)
   have c6 := (h7.rowO (g := w.heap.size + 1) #[.int .u64 0, .int .u64 0, .int .u64 0, .int .u64 0, .int .u64 0, .int .u64 0, .int .u64 0, .int .u64 0] (by omega)).cell; have l6 := h7.lt
   have r2 := b2.row; have l2 := b2.lt
   have HZ := Lib.hid (And.intro h7 (And.intro b2 (And.intro hbW (And.intro hK hD))))
   rw [← b2.rw]
   clear h7 hgb b2 hbW hK hD
   go_wp2_with fail
   have hWR : (W.setRow (w.heap.size + 1) #[.int .u64 (pl (undercutM s) 0), .int .u64 (pl (undercutM s) 1), .int .u64 (pl (undercutM s) 2), .int .u64 (pl (undercutM s) 3), .int .u64 (pl (undercutM s) 4), .int .u64 (pl (undercutM s) 5), .int .u64 (pl (undercutM s) 6), .int .u64 (pl (undercutM s) 7)]).heap[D]? = some (.deferred (some [])) := (setRow_other _ _ _ _ (by have := HZ.out.2.2.2.2; omega)).trans HZ.out.2.2.2.1
   refine ⟨by simp, .inl ⟨_, _, rfl, run_takeDeferred hWR, ?_⟩⟩
   have hfin : ((W.setRow (w.heap.size + 1) #[.int .u64 (pl (undercutM s) 0), .int .u64 (pl (undercutM s) 1), .int .u64 (pl (undercutM s) 2), .int .u64 (pl (undercutM s) 3), .int .u64 (pl (undercutM s) 4), .int .u64 (pl (undercutM s) 5), .int .u64 (pl (undercutM s) 6), .int .u64 (pl (undercutM s) 7)]).putObj D (.deferred none)).heap[w.heap.size + 1]? = some (.cells #[.int .u64 (pl (undercutM s) 0), .int .u64 (pl (undercutM s) 1), .int .u64 (pl (undercutM s) 2), .int .u64 (pl (undercutM s) 3), .int .u64 (pl (undercutM s) 4), .int .u64 (pl (undercutM s) 5), .int .u64 (pl (undercutM s) 6), .int .u64 (pl (undercutM s) 7)] 64 (0, 0)) := (World.putObj_heap_other (by have := HZ.out.2.2.2.2; omega)).trans (HZ.out.2.1.rowS _)
   have hbP : Below w.heap.size w ((W.setRow (w.heap.size + 1) #[.int .u64 (pl (undercutM s) 0), .int .u64 (pl (undercutM s) 1), .int .u64 (pl (undercutM s) 2), .int .u64 (pl (undercutM s) 3), .int .u64 (pl (undercutM s) 4), .int .u64 (pl (undercutM s) 5), .int .u64 (pl (undercutM s) 6), .int .u64 (pl (undercutM s) 7)]).putObj D (.deferred none)) := (blw_row HZ.out.2.2.1 (by omega) _).grown (grownBy_putObj' _ D _) (by rw [setRow_size]; exact HZ.out.2.2.1.size) (fun j e => by have := HZ.out.2.2.2.2; cases e; omega)
   have cP := Blk.cell (show Blk _ _ _ _ from hfin)
   refine ⟨.tuple #[solV (undercutM s), .int .i64 0], by simp [results, Tryz.results57, go_sem, cP], hbP, undercutM s, by rw [HB.out.2.2.2.2.1], fun _ => rfl, fun h => absurd HB.out.2.2.2.2.1 h⟩
  case stop =>
   rintro D c pre W _ _ h _
   exact h.elim
 ·have hp := hn hE
  subst hp
  have e0 : (errM [s] != 0) = true := by simpa using hE
  have HB := Lib.hid (And.intro B2 (And.intro hbw hE))
  have r2 := B2.row
  have l2 := B2.lt
  obtain ⟨x, hx⟩ : ∃ x, x = errM [s] := ⟨_, rfl⟩
  rw [← hx] at e0 ⊢
  have HX := Lib.hid hx
  rw [← B2.rw]
  clear hx hn hb1 b1 b2 b3 hbel hsz hbw B1 B2 hE hs1
  go_wp2_with fail
  have hfin := (HB.out.1.rowS #[.int .u64 0, .int .u64 0, .int .u64 0, .int .u64 0, .int .u64 0, .int .u64 0, .int .u64 0, .int .u64 0]).alloc (.cells #[.pointer none] 80)
  have hbl := blw_row HB.out.2.1 (show w.heap.size ≤ w.heap.size + 1 by omega) #[.int .u64 0, .int .u64 0, .int .u64 0, .int .u64 0, .int .u64 0, .int .u64 0, .int .u64 0, .int .u64 0]
  have cP := Blk.cell (show Blk _ _ _ _ from hfin)
  refine ⟨.tuple #[.agg #[.int .u64 0, .int .u64 0, .int .u64 0, .int .u64 0, .int .u64 0, .int .u64 0, .int .u64 0, .int .u64 0], .int .i64 x], by simp [results, Tryz.results57, go_sem, cP], bel_alloc hbl _, 0, by rw [← HX.out]; simp [show ∀ k, pl (0#512) k = 0 from pl_zero], (fun h => absurd h HB.out.2.2), fun _ => rfl⟩
end Go.Proofs.YtlbhjikkpbknnaaGreatDoor
end
section
namespace Go.Proofs.YtlbhjikkpbknnaaGreatDoor
open Go.RowKit Go.Rel Go.ChangeShapes Go.WideShapes Go.Draw
set_option maxRecDepth 100000
/-! DrawStraight -/
section
variable {H : Type} {enc : TypeId × Value → H} {W : World} {base : Nat} {sp : Nat → Bool} {held : Bool} {r : Reach} {b0 : Nat} {v : Value} {d : DataW H} {p : List MemPlace}
theorem open_sol (hv : Value.okWide Tryz.prog W r b0 64 v) (h : DataW.Trod enc Tryz.prog W base sp held 64 v d p) : ∃ s : Sol, v = solV s := by
 simp only [Value.okWide, Tryz.underlying64] at hv
 obtain ⟨cs, rfl, h2, _⟩ := hv
 obtain ⟨fuel, hf⟩ := h
 obtain ⟨s, hs⟩ := trod_sol hf
 refine ⟨s, ?_⟩
 have e : cs.toList = solL s := hs
 have e2 : cs = (solL s).toArray := by rw [← e]
 rw [e2]
theorem open_bo (hv : Value.okWide Tryz.prog W r b0 4 v) (h : DataW.Trod enc Tryz.prog W base sp held 4 v d p) : ∃ b : Bool, v = .bool b := by
 obtain ⟨b, rfl, _, _⟩ := open_bool Tryz.underlying4 hv h
 exact ⟨b, rfl⟩
end
theorem moved_one (s : Sol) : movedE [s] [] (0, 0, 0) = errM [s] := by
 unfold movedE
 by_cases h : errM [s] = 0
 ·have h1 : setI ([s] : List Sol).length [] = some 0 := rfl
  have h2 : (([0] : List Int).any (askF ([s] : List Sol).length 0)) = false := by show (([0] : List Int).any (askF 1 0)) = false; decide
  have h3 : askE [s] [] [0] = 0 := by
   unfold askE
   rw [if_neg (by simpa using h), h1]
   show (if (([0] : List Int).any (askF ([s] : List Sol).length 0)) = true then (1 : Int) else 0) = 0
   rw [h2]; rfl
  have h4 : (askE [s] [] [((0, 0, 0) : MvI).1]) = 0 := h3
  rw [h4, if_neg (by simp), h]; rfl
 ·have h3 : askE [s] [] [((0, 0, 0) : MvI).1] = errM [s] := by unfold askE; rw [if_pos h]
  rw [h3, if_pos h]
end Go.Proofs.YtlbhjikkpbknnaaGreatDoor
end
section
namespace Go.Proofs.YtlbhjikkpbknnaaGreatDoor
open Go.RowKit Go.Rel Go.Draw
set_option maxRecDepth 100000
/-! turned -/
def turnK (mr : Bool) (s : Sol) (k : Nat) : Sol := (List.range k).foldl (fun out n => if s.getLsbD n then out ||| (1#512 <<< tau mr n) else out) 0
theorem turnK_succ (mr : Bool) (s : Sol) (k : Nat) : turnK mr s (k + 1) = if s.getLsbD k then turnK mr s k ||| (1#512 <<< tau mr k) else turnK mr s k := by
 unfold turnK; rw [List.range_succ, List.foldl_append]; rfl
theorem turnK_all (mr : Bool) (s : Sol) : turnK mr s 512 = turnS mr s := rfl
theorem turnK_zero (mr : Bool) (s : Sol) : turnK mr s 0 = 0 := rfl
theorem plv_one {z j k : Nat} (hz : z < 8) (hj : j < 64) (hk : k < 8) : plv (1#512 <<< (64 * z + j)) k = if k = z then bit j else 0#64 := by
 apply BitVec.eq_of_getLsbD_eq
 intro i hi
 unfold plv
 rw [BitVec.getLsbD_extractLsb', one_bit _ _ (by omega)]
 by_cases e : k = z
 ·subst e
  rw [if_pos rfl, bit_bit _ _ hj]
  simp [hi]
 ·rw [if_neg e]
  simp [show ¬ (64 * k + i = 64 * z + j) by omega]
theorem plv_bit (s : Sol) (z n : Nat) (hn : n < 64) : (plv s z).getLsbD n = s.getLsbD (64 * z + n) := by
 unfold plv; rw [BitVec.getLsbD_extractLsb']; simp [hn]
theorem word_or (T : Sol) {z j : Nat} (hz : z < 8) (hj : j < 64) : bits .or .u64 (pl T z) (uI (bit j)) = pl (T ||| 1#512 <<< (64 * z + j)) z := by
 rw [pl_uI, pl_uI, bits_or_u, plv_or, plv_one hz hj hz, if_pos rfl]
theorem word_else (T : Sol) {z j k : Nat} (hz : z < 8) (hj : j < 64) (hk : k < 8) (h : k ≠ z) : pl (T ||| 1#512 <<< (64 * z + j)) k = pl T k := by
 rw [pl_uI, pl_uI, plv_or, plv_one hz hj hk, if_neg h]
 congr 1
 simp
theorem word_set (T : Sol) {z j : Nat} (hz : z < 8) (hj : j < 64) : (mixA fun i => pl T i).setIfInBounds z (.int .u64 (pl (T ||| 1#512 <<< (64 * z + j)) z)) = mixA fun i => pl (T ||| 1#512 <<< (64 * z + j)) i := by
 rw [mixA_set _ hz]
 refine mixA_eq fun i hi => ?_
 by_cases e : i = z
 ·subst e; simp
 ·simp only [e, if_false]
  rw [word_else T hz hj hi e]
theorem word_test (s : Sol) (z n : Nat) (hn : n < 64) : (bits .and .u64 (pl s z / (2 : Int) ^ n) 1 == 0) = !s.getLsbD (64 * z + n) := by
 rw [pl_uI, bitAt_u, plv_bit _ _ _ hn]
def tauJ (mr : Bool) (n : Nat) : Nat := if mr then 8 * (n / 8) + 7 - n % 8 else 8 * (n % 8) + 7 - n / 8
theorem tauJ_lt (mr : Bool) {n : Nat} (hn : n < 64) : tauJ mr n < 64 := by unfold tauJ; split <;> omega
theorem tau_J (mr : Bool) {z n : Nat} (hn : n < 64) : tau mr (64 * z + n) = 64 * z + tauJ mr n := by
 unfold tau tauJ
 have e1 : (64 * z + n) / 64 = z := by omega
 have e2 : (64 * z + n) / 8 % 8 = n / 8 := by omega
 have e3 : (64 * z + n) % 8 = n % 8 := by omega
 rw [e1, e2, e3]
 split <;> omega
theorem wrapJ {x y j : Nat} (hx : x ≤ 7) (hy : y ≤ 7) (h : (8 : Int) * (x : Int) + 7 - (y : Int) = (j : Int)) : IntKind.i64.wrap (IntKind.i64.wrap (IntKind.i64.wrap (8 * (x : Int)) + 7) - (y : Int)) = (j : Int) := by
 have e1 : IntKind.i64.wrap (8 * (x : Int)) = 8 * (x : Int) := (Go.IntWalk.i64_left _).trans (Go.IntWalk.wrap64_in _ (by omega))
 have e2 : IntKind.i64.wrap (8 * (x : Int) + 7) = 8 * (x : Int) + 7 := (Go.IntWalk.i64_left _).trans (Go.IntWalk.wrap64_in _ (by omega))
 have e3 : IntKind.i64.wrap (8 * (x : Int) + 7 - (y : Int)) = 8 * (x : Int) + 7 - (y : Int) := (Go.IntWalk.i64_left _).trans (Go.IntWalk.wrap64_in _ (by omega))
 rw [e1, e2, e3, h]
end Go.Proofs.YtlbhjikkpbknnaaGreatDoor
end
section
namespace Go.Proofs.YtlbhjikkpbknnaaGreatDoor
open Go.RowKit Go.Rel Go.Draw
set_option maxRecDepth 100000
/-! DrawTurned -/
abbrev OwnS (W : World) (base : Nat) (v : Value) (l : List Sol) : Prop := W.ownsRow base 64 8 v l.length (l.map solL).flatten
theorem OwnS.sl {W : World} {base : Nat} {v : Value} {l : List Sol} (h : OwnS W base v l) : SlS W v l :=
 own_sl (fun r hr => by obtain ⟨i, _, rfl⟩ := List.mem_map.1 hr; rfl) rfl (by rw [List.length_map]; exact h)
theorem sols_open {w : World} {v : Value} {l : List Sol} (h : SlS w v l) : ∃ b cc, v = .slice b l.length cc ∧ ∀ (k : Nat) (s : Sol), l[k]? = some s → ∃ ib io, b = some ⟨ib, io, none⟩ ∧ ib < w.heap.size ∧ Cells w ib io 8 (l.map solL) := by
 rcases h.cases with ⟨hz, a, c, rfl, hc⟩ | ⟨ib, io, c, hv, hq1, hq2, _, hcs⟩
 ·have : l = [] := by simpa using hz
  subst this
  exact ⟨_, _, rfl, fun k s hk => by simp at hk⟩
 ·rw [List.length_map] at hv
  exact ⟨_, _, hv, fun k s _ => ⟨ib, io, rfl, hcs.1, hcs⟩⟩
theorem turn_errM (mr : Bool) (m : List Sol) : errM (m.map (turnS mr)) = errM m := by unfold errM; rw [List.length_map, turn_good]
theorem turn_askE (mr : Bool) (m : List Sol) (set : List Int) : askE (m.map (turnS mr)) set [] = askE m set [] := by
 unfold askE; rw [turn_errM, List.length_map]
theorem own_snocS {W : World} {base : Nat} {v : Value} {l : List Sol} {x : Sol} (h : W.ownsRow base 64 8 v (l.length + 1) ((l.map solL).flatten ++ solL x)) : OwnS W base v (l ++ [x]) := by
 unfold OwnS
 rw [List.length_append, List.map_append, List.flatten_append]
 simpa using h
end Go.Proofs.YtlbhjikkpbknnaaGreatDoor
end
