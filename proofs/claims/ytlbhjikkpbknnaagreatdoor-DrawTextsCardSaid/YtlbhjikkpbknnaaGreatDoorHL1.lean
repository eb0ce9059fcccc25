import Derived.Test.YtlbhjikkpbknnaaGreatDoorG21
/-
  Given contracts of functions of the program, and laws for them, one behind the other.
-/
set_option linter.unusedVariables false
set_option linter.unusedSimpArgs false
set_option linter.unusedSectionVars false
section
namespace Go.Proofs.YtlbhjikkpbknnaaGreatDoor
open Go.RowKit Go.Rel Go.Draw
set_option maxRecDepth 100000
/-! DrawRounds -/
theorem contains_intsL (l : List Nat) {x : Int} (hx : 0 ≤ x) : (intsL l).contains x = l.contains x.toNat := by
 unfold intsL
 rw [Bool.eq_iff_iff, List.contains_iff_mem, List.contains_iff_mem, List.mem_map]
 constructor
 ·rintro ⟨a, ha, rfl⟩; simpa using ha
 ·intro h; exact ⟨x.toNat, h, Int.toNat_of_nonneg hx⟩
theorem countP_take {α : Type} (p : α → Bool) {l : List α} {k : Nat} {x : α} (hx : l[k]? = some x) : (l.take (k + 1)).countP p = (l.take k).countP p + if p x then 1 else 0 := by
 rw [List.take_add_one, hx, List.countP_append]
 congr 1
 simp [List.countP_cons]
theorem sll_cell {w : World} {v : Value} {ls : List (List Int)} (h : SlLL w v ls) : ∃ b c, v = .slice b ls.length c ∧ ls.length ≤ 9223372036854775807 ∧ ∀ (k : Nat) (x : List Int), ls[k]? = some x → ∃ ib io u, b = some ⟨ib, io, none⟩ ∧ ib < w.heap.size ∧ w.cell? ⟨ib, io + k, none⟩ = some u ∧ SlI w u x := by
 obtain ⟨us, h1, h2, h3⟩ := h
 rcases h1.cases with ⟨hz, a, c, rfl, hc⟩ | ⟨ib, io, c, hv, hq1, hq2, _, hcs⟩
 ·have hu : us = [] := by simpa using hz
  have hl : ls = [] := List.eq_nil_of_length_eq_zero (by rw [← h2, hu]; rfl)
  subst hl
  exact ⟨_, _, rfl, by simp, fun k x hx => by simp at hx⟩
 ·rw [List.length_map] at hv
  have hq1 : us.length ≤ c := by simpa using hq1
  refine ⟨_, _, by rw [hv, h2], by omega, fun k x hx => ?_⟩
  obtain ⟨hk, _⟩ := List.getElem?_eq_some_iff.1 hx
  have hu : us[k]? = some (us[k]'(by omega)) := List.getElem?_eq_getElem _
  refine ⟨ib, io, us[k]'(by omega), rfl, hcs.1, ?_, h3 k _ x hu hx⟩
  have := hcs.2 k 0 (us[k]'(by omega)) (by rw [List.getElem?_map, hu]; rfl)
  simpa using this
theorem few_bad {n : Nat} {most : Int} (h : ¬ ((n : Int) ≤ most ∨ 12 < n ∧ n ≤ 15)) : (decide ((n : Int) ≤ most) || (decide (12 < n) && decide (n ≤ 15))) = false := by
 simp only [Bool.or_eq_false_iff, Bool.and_eq_false_iff, decide_eq_false_iff_not]
 omega
theorem few_ok {n : Nat} {most : Int} (h : (n : Int) ≤ most ∨ 12 < n ∧ n ≤ 15) : (decide ((n : Int) ≤ most) || (decide (12 < n) && decide (n ≤ 15))) = true := by
 simp only [Bool.or_eq_true, Bool.and_eq_true, decide_eq_true_eq]
 exact h
end Go.Proofs.YtlbhjikkpbknnaaGreatDoor
end
section
namespace Go.Proofs.YtlbhjikkpbknnaaGreatDoor
open Go.RowKit Go.Rel Go.Draw
set_option maxRecDepth 100000
/-! sets and their lists of numbers -/
theorem intsL_inj {l r : List Nat} (h : intsL l = intsL r) : l = r := by
 unfold intsL at h
 exact List.map_inj_right (fun a b e => Int.ofNat.inj e) |>.1 h
theorem contains_listU (A : U) (i : Nat) : (intsL (listU A)).contains (i : Int) = A.getLsbD i := by
 rw [contains_intsL _ (by omega), Int.toNat_natCast, Bool.eq_iff_iff, List.contains_iff_mem, listU_mem]
theorem listU_top {s : U} {x : Nat} (h : ∀ i : Nat, s.getLsbD i = true → i < x) (hx : x < 64) : listU (s ||| bit x) = listU s ++ [x] := by
 have e : List.range 64 = List.range' 0 x ++ (x :: List.range' (x + 1) (63 - x)) := by
  rw [show x :: List.range' (x + 1) (63 - x) = List.range' x (64 - x) by
   rw [show 64 - x = (63 - x) + 1 by omega, List.range'_succ], List.range_eq_range']
  have := List.range'_append_1 (s := 0) (m := x) (n := 64 - x)
  rw [Nat.zero_add] at this
  rw [this, show x + (64 - x) = 64 by omega]
 unfold listU
 rw [e, List.filter_append, List.filter_append, List.filter_cons, List.filter_cons, or_bit _ _ _ hx]
 have h1 : (List.range' 0 x).filter (fun i => (s ||| bit x).getLsbD i) = (List.range' 0 x).filter fun i => s.getLsbD i := by
  apply List.filter_congr
  intro i hi
  have : i < x := by have := List.mem_range'_1.1 hi; omega
  rw [or_bit _ _ _ hx]; simp; omega
 have h2 : (List.range' (x + 1) (63 - x)).filter (fun i => (s ||| bit x).getLsbD i) = [] := by
  rw [List.filter_eq_nil_iff]
  intro i hi hb
  have hi2 : x < i := by have := List.mem_range'_1.1 hi; omega
  rw [or_bit _ _ _ hx, Bool.or_eq_true] at hb
  rcases hb with hb | hb
  ·have := h i hb; omega
  ·simp at hb; omega
 have h3 : (List.range' (x + 1) (63 - x)).filter (fun i => s.getLsbD i) = [] := by
  rw [List.filter_eq_nil_iff]
  intro i hi hb
  have hi2 : x < i := by have := List.mem_range'_1.1 hi; omega
  have := h i hb; omega
 have h4 : s.getLsbD x = false := by
  cases hb : s.getLsbD x
  ·rfl
  ·have := h x hb; omega
 rw [h1, h2, h3, h4]; simp
theorem setG_list {n : Nat} (hn : n ≤ 12) : ∀ (l : List Int) (pr : Option Int) (s G : U), (∀ i : Nat, s.getLsbD i = true → ∃ y, pr = some y ∧ (i : Int) ≤ y) → setG n pr s l = some G → intsL (listU G) = intsL (listU s) ++ l
 | [], pr, s, G, _, h => by unfold setG at h; cases h; simp
 | x :: l, pr, s, G, hs, h => by
  unfold setG at h
  split at h
  ·rename_i hx
   have hx64 : x.toNat < 64 := by omega
   have htop : ∀ i : Nat, s.getLsbD i = true → i < x.toNat := fun i hi => by
    obtain ⟨y, hy, hle⟩ := hs i hi
    have := hx.2.2 y hy; omega
   rw [setG_list hn l (some x) _ G (fun i hi => ⟨x, rfl, by
    rw [or_bit _ _ _ hx64, Bool.or_eq_true] at hi
    rcases hi with hi | hi
    ·have := htop i hi; omega
    ·simp at hi; omega⟩) h, listU_top htop hx64]
   unfold intsL
   rw [List.map_append, List.append_assoc]
   congr 1
   simp; omega
  ·cases h
theorem setI_list {n : Nat} (hn : n ≤ 12) {l : List Int} {G : U} (h : setI n l = some G) : l = intsL (listU G) := by
 have := setG_list hn l none 0 G (fun i hi => by simp at hi) h
 rw [listU_zero] at this
 exact this.symm
theorem setG_some {n : Nat} : ∀ (l : List Int) (pr : Option Int) (s : U), l.Pairwise (· < ·) → (∀ x ∈ l, 0 ≤ x ∧ x < n) → (∀ y, pr = some y → ∀ x ∈ l, y < x) → (setG n pr s l).isSome = true
 | [], _, _, _, _, _ => rfl
 | x :: l, pr, s, hp, hb, hy => by
  have hpc := List.pairwise_cons.1 hp
  unfold setG
  rw [if_pos ⟨(hb x (by simp)).1, (hb x (by simp)).2, fun y e => hy y e x (by simp)⟩]
  exact setG_some l _ _ hpc.2 (fun z hz => hb z (by simp [hz])) (fun y e z hz => by cases e; exact hpc.1 z hz)
theorem setI_of {n : Nat} (hn : n ≤ 12) {G : U} (hG : Sub G (allU n)) : setI n (intsL (listU G)) = some G := by
 have hsome : (setI n (intsL (listU G))).isSome = true := by
  refine setG_some _ _ _ ?_ (fun x hx => ?_) (fun y e => by cases e)
  ·unfold intsL listU
   rw [List.pairwise_map]
   refine (List.Pairwise.filter _ (List.pairwise_lt_range)).imp fun h => ?_
   exact Int.ofNat_lt.2 h
  ·unfold intsL at hx
   obtain ⟨i, hi, rfl⟩ := List.mem_map.1 hx
   have := hG i ((listU_mem _ _).1 hi)
   rw [allU_bit _ _ (by omega)] at this
   simp at this
   exact ⟨Int.natCast_nonneg i, Int.ofNat_lt.2 this⟩
 obtain ⟨G', h⟩ := Option.isSome_iff_exists.1 hsome
 have := setI_list hn h
 rw [h, listU_inj (intsL_inj this)]
theorem listU_small {A : U} (hA : Sub A (allU 12)) : listU A = (List.range 12).filter fun i => A.getLsbD i := by
 unfold listU
 rw [show List.range 64 = List.range 12 ++ List.range' 12 52 by decide, List.filter_append]
 have : (List.range' 12 52).filter (fun i => A.getLsbD i) = [] := by
  rw [List.filter_eq_nil_iff]
  intro i hi hb
  have h1 := hA i hb
  rw [allU_bit _ _ (by omega)] at h1
  have := List.mem_range'_1.1 hi
  simp at h1; omega
 rw [this, List.append_nil]
theorem sub_all {n : Nat} (hn : n ≤ 12) {A : U} (h : Sub A (allU n)) : Sub A (allU 12) := fun i hi => by
 have := h i hi
 rw [allU_bit _ _ (by omega)] at this ⊢
 simp at this ⊢; omega
theorem unionF_sets {A B : U} (hA : Sub A (allU 12)) (hB : Sub B (allU 12)) : unionF (intsL (listU A)) (intsL (listU B)) 12 = listU (A ||| B) := by
 rw [listU_small (or_sub.2 ⟨hA, hB⟩)]
 unfold unionF
 apply List.filter_congr
 intro i _
 rw [contains_listU, contains_listU, BitVec.getLsbD_or]
theorem all_subB (A s : U) : ((intsL (listU s)).all fun x => (intsL (listU A)).contains x) = subB s A := by
 rw [Bool.eq_iff_iff, List.all_eq_true, subB_iff]
 constructor
 ·intro h i hi
  have := h (i : Int) (by unfold intsL; exact List.mem_map.2 ⟨i, (listU_mem _ _).2 hi, rfl⟩)
  rwa [contains_listU] at this
 ·intro h x hx
  unfold intsL at hx
  obtain ⟨i, hi, rfl⟩ := List.mem_map.1 hx
  show (intsL (listU A)).contains (i : Int) = true
  rw [contains_listU]
  exact h i ((listU_mem _ _).1 hi)
theorem intsL_beq (A B : U) : (intsL (listU A) == intsL (listU B)) = (A == B) := by
 rw [Bool.eq_iff_iff, beq_iff_eq, beq_iff_eq]
 exact ⟨fun h => listU_inj (intsL_inj h), fun h => by rw [h]⟩
end Go.Proofs.YtlbhjikkpbknnaaGreatDoor
end
section
namespace Go.Proofs.YtlbhjikkpbknnaaGreatDoor
open Go.RowKit Go.Rel Go.Draw
set_option maxRecDepth 100000
/-! DrawUnions -/
theorem askE_set {l : List Sol} {s : List Int} (h : askE l s [] = 0) : l.length ≤ 12 ∧ errM l = 0 ∧ ∃ A, setI l.length s = some A ∧ Sub A (allU l.length) ∧ s = intsL (listU A) := by
 unfold askE at h
 split at h
 ·rename_i h1; exact absurd h h1
 ·rename_i h1
  have h1 : errM l = 0 := by simpa using h1
  have hl := (errM_zero.1 h1).1
  refine ⟨hl, h1, ?_⟩
  cases hs : setI l.length s with
  | none => rw [hs] at h; cases h
  | some A => exact ⟨A, rfl, setI_sub hl hs, setI_list hl hs⟩
theorem askE_of {l : List Sol} {A : U} (h1 : errM l = 0) (hA : Sub A (allU l.length)) : askE l (intsL (listU A)) [] = 0 :=
 askE_zero h1 (setI_of (errM_zero.1 h1).1 hA) rfl
theorem askE_one {l : List Sol} {q : Nat} (h1 : errM l = 0) (hq : q < l.length) : askE l [] [(q : Int)] = 0 := by
 refine askE_zero (G := 0) h1 rfl ?_
 simp only [List.any_cons, List.any_nil, Bool.or_false]
 unfold askF
 simp only [Bool.or_eq_false_iff, decide_eq_false_iff_not]
 refine ⟨⟨by omega, by omega⟩, by simp⟩
theorem lit_two {W : World} {b : Nat} {x y : Value} {l r : List Int} {t : TypeId} (h : Blk W b #[x, y] t) (hx : SlI W x l) (hy : SlI W y r) : SlLL W (.slice (some ⟨b, 0, none⟩) 2 2) [l, r] :=
 lit_lists (us := [x, y]) h (by simp) rfl (fun i u z => by
  match i, u, z with
  | 0, _, _ =>
   intro hu hl
   simp at hu hl
   subst hu hl
   exact hx
  | 1, _, _ =>
   intro hu hl
   simp at hu hl
   subst hu hl
   exact hy
  | (i + 2), _, _ =>
   intro hu hl
   simp at hu)
theorem listU_take_sub {A : U} {i q : Nat} (h : (listU A)[i]? = some q) : A.getLsbD q = true := (listU_mem _ _).1 (List.mem_of_getElem? h)
end Go.Proofs.YtlbhjikkpbknnaaGreatDoor
end
section
namespace Go.Proofs.YtlbhjikkpbknnaaGreatDoor
open Go.RowKit Go.Rel Go.Draw
set_option maxRecDepth 100000
/-! turned -/
def turnK (mr : Bool) (s : Sol) (k : Nat) : Sol := (List.range k).foldl (fun out n => if s.getLsbD n then out ||| (1#512 <<< tau mr n) else out) 0
theorem turnK_succ (mr : Bool) (s : Sol) (k : Nat) : turnK mr s (k + 1) = if s.getLsbD k then turnK mr s k ||| (1#512 <<< tau mr k) else turnK mr s k := by
 unfold turnK; rw [List.range_succ, List.foldl_append]; rfl
theorem turnK_all (mr : Bool) (s : Sol) : turnK mr s 512 = turnS mr s := rfl
theorem turnK_zero (mr : Bool) (s : Sol) : turnK mr s 0 = 0 := rfl
theorem plv_one {z j k : Nat} (hz : z < 8) (hj : j < 64) (hk : k < 8) : plv (1#512 <<< (64 * z + j)) k = if k = z then bit j else 0#64 := by
 apply BitVec.eq_of_getLsbD_eq
 intro i hi
 unfold plv
 rw [BitVec.getLsbD_extractLsb', one_bit _ _ (by omega)]
 by_cases e : k = z
 ·subst e
  rw [if_pos rfl, bit_bit _ _ hj]
  simp [hi]
 ·rw [if_neg e]
  simp [show ¬ (64 * k + i = 64 * z + j) by omega]
theorem plv_bit (s : Sol) (z n : Nat) (hn : n < 64) : (plv s z).getLsbD n = s.getLsbD (64 * z + n) := by
 unfold plv; rw [BitVec.getLsbD_extractLsb']; simp [hn]
theorem word_or (T : Sol) {z j : Nat} (hz : z < 8) (hj : j < 64) : bits .or .u64 (pl T z) (uI (bit j)) = pl (T ||| 1#512 <<< (64 * z + j)) z := by
 rw [pl_uI, pl_uI, bits_or_u, plv_or, plv_one hz hj hz, if_pos rfl]
theorem word_else (T : Sol) {z j k : Nat} (hz : z < 8) (hj : j < 64) (hk : k < 8) (h : k ≠ z) : pl (T ||| 1#512 <<< (64 * z + j)) k = pl T k := by
 rw [pl_uI, pl_uI, plv_or, plv_one hz hj hk, if_neg h]
 congr 1
 simp
theorem word_set (T : Sol) {z j : Nat} (hz : z < 8) (hj : j < 64) : (mixA fun i => pl T i).setIfInBounds z (.int .u64 (pl (T ||| 1#512 <<< (64 * z + j)) z)) = mixA fun i => pl (T ||| 1#512 <<< (64 * z + j)) i := by
 rw [mixA_set _ hz]
 refine mixA_eq fun i hi => ?_
 by_cases e : i = z
 ·subst e; simp
 ·simp only [e, if_false]
  rw [word_else T hz hj hi e]
theorem word_test (s : Sol) (z n : Nat) (hn : n < 64) : (bits .and .u64 (pl s z / (2 : Int) ^ n) 1 == 0) = !s.getLsbD (64 * z + n) := by
 rw [pl_uI, bitAt_u, plv_bit _ _ _ hn]
def tauJ (mr : Bool) (n : Nat) : Nat := if mr then 8 * (n / 8) + 7 - n % 8 else 8 * (n % 8) + 7 - n / 8
theorem tauJ_lt (mr : Bool) {n : Nat} (hn : n < 64) : tauJ mr n < 64 := by unfold tauJ; split <;> omega
theorem tau_J (mr : Bool) {z n : Nat} (hn : n < 64) : tau mr (64 * z + n) = 64 * z + tauJ mr n := by
 unfold tau tauJ
 have e1 : (64 * z + n) / 64 = z := by omega
 have e2 : (64 * z + n) / 8 % 8 = n / 8 := by omega
 have e3 : (64 * z + n) % 8 = n % 8 := by omega
 rw [e1, e2, e3]
 split <;> omega
theorem wrapJ {x y j : Nat} (hx : x ≤ 7) (hy : y ≤ 7) (h : (8 : Int) * (x : Int) + 7 - (y : Int) = (j : Int)) : IntKind.i64.wrap (IntKind.i64.wrap (IntKind.i64.wrap (8 * (x : Int)) + 7) - (y : Int)) = (j : Int) := by
 have e1 : IntKind.i64.wrap (8 * (x : Int)) = 8 * (x : Int) := (Go.IntWalk.i64_left _).trans (Go.IntWalk.wrap64_in _ (by omega))
 have e2 : IntKind.i64.wrap (8 * (x : Int) + 7) = 8 * (x : Int) + 7 := (Go.IntWalk.i64_left _).trans (Go.IntWalk.wrap64_in _ (by omega))
 have e3 : IntKind.i64.wrap (8 * (x : Int) + 7 - (y : Int)) = 8 * (x : Int) + 7 - (y : Int) := (Go.IntWalk.i64_left _).trans (Go.IntWalk.wrap64_in _ (by omega))
 rw [e1, e2, e3, h]
end Go.Proofs.YtlbhjikkpbknnaaGreatDoor
end
section
namespace Go.Draw
set_option maxRecDepth 10000
/-! the reference's Undercut: below, word by word -/
theorem ups_any (n : Nat) (hn : n < 512) : ∀ (m : Nat) (b : Sol), ((upsL m b).any fun y => y.1.getLsbD n) = true ↔ ∃ k, 1 ≤ k ∧ k ≤ m ∧ 64 * k ≤ n ∧ b.getLsbD (n - 64 * k) = true
 | 0, b => by
  simp only [upsL, List.any_nil]
  constructor
  ·intro h; cases h
  ·rintro ⟨k, h1, h2, _⟩; omega
 | m + 1, b => by
  unfold upsL
  split
  ·rename_i h
   simp only [List.any_nil]
   constructor
   ·intro h; cases h
   ·rintro ⟨k, h1, h2, h3, h4⟩
    have h5 := up_bit b (n - 64 * k + 64) (by omega)
    rw [h, show n - 64 * k + 64 - 64 = n - 64 * k by omega, h4] at h5
    simp at h5
  ·rw [List.any_cons, Bool.or_eq_true, ups_any n hn m (upS b)]
   constructor
   ·rintro (h | ⟨k, h1, h2, h3, h4⟩)
    ·rw [up_bit _ _ hn, Bool.and_eq_true, decide_eq_true_eq] at h
     exact ⟨1, by omega, by omega, by omega, h.2⟩
    ·rw [up_bit _ _ (by omega), Bool.and_eq_true, decide_eq_true_eq] at h4
     exact ⟨k + 1, by omega, by omega, by omega, by rw [show n - 64 * (k + 1) = n - 64 * k - 64 by omega]; exact h4.2⟩
   ·rintro ⟨k, h1, h2, h3, h4⟩
    by_cases e : k = 1
    ·subst e
     exact .inl (by rw [up_bit _ _ hn, Bool.and_eq_true, decide_eq_true_eq]; exact ⟨by omega, h4⟩)
    ·refine .inr ⟨k - 1, by omega, by omega, by omega, ?_⟩
     rw [up_bit _ _ (by omega), Bool.and_eq_true, decide_eq_true_eq]
     exact ⟨by omega, by rw [show n - 64 * (k - 1) - 64 = n - 64 * k by omega]; exact h4⟩
theorem underc_fold (s : Sol) (n : Nat) : ∀ (l : List (Sol × Bool)) (a : Sol), (l.foldl (fun out y => out ||| (y.1 &&& ~~~s)) a).getLsbD n = (a.getLsbD n || (decide (n < 512) && !s.getLsbD n && l.any fun y => y.1.getLsbD n))
 | [], a => by simp
 | y :: l, a => by
  rw [List.foldl_cons, underc_fold s n l, List.any_cons, BitVec.getLsbD_or, BitVec.getLsbD_and, BitVec.getLsbD_not]
  cases a.getLsbD n <;> cases y.1.getLsbD n <;> cases s.getLsbD n <;> cases decide (n < 512) <;> simp
/-- what lies below the plane z -/
def belowR (s : Sol) : Nat → U
 | 0 => 0
 | k + 1 => belowR s k ||| plv s k
theorem plv_at (s : Sol) (z i : Nat) (hi : i < 64) : (plv s z).getLsbD i = s.getLsbD (64 * z + i) := by
 unfold plv; rw [BitVec.getLsbD_extractLsb']; simp [hi]
theorem belowR_bit (s : Sol) (i : Nat) (hi : i < 64) : ∀ z, (belowR s z).getLsbD i = true ↔ ∃ k, k < z ∧ s.getLsbD (64 * k + i) = true
 | 0 => by simp [belowR]
 | z + 1 => by
  unfold belowR
  rw [BitVec.getLsbD_or, Bool.or_eq_true, belowR_bit s i hi z, plv_at _ _ _ hi]
  constructor
  ·rintro (⟨k, h1, h2⟩ | h)
   ·exact ⟨k, by omega, h2⟩
   ·exact ⟨z, by omega, h⟩
  ·rintro ⟨k, h1, h2⟩
   by_cases e : k = z
   ·subst e; exact .inr h2
   ·exact .inl ⟨k, by omega, h2⟩
/-- Undercut, as the reference has it -/
theorem under_words (s : Sol) {z : Nat} (hz : z < 8) : plv (undercutM s) z = belowR s z &&& ~~~(plv s z) := by
 apply BitVec.eq_of_getLsbD_eq
 intro i hi
 rw [plv_at _ _ _ hi, BitVec.getLsbD_and, BitVec.getLsbD_not, plv_at _ _ _ hi]
 unfold undercutM
 rw [underc_fold]
 simp only [BitVec.ofNat_eq_ofNat, BitVec.getLsbD_zero, Bool.false_or, show 64 * z + i < 512 by omega, hi, decide_true, Bool.true_and]
 rw [Bool.eq_iff_iff, Bool.and_eq_true, Bool.and_eq_true, ups_any _ (by omega), belowR_bit s i hi]
 constructor
 ·rintro ⟨h1, k, h2, h3, h4, h5⟩
  exact ⟨⟨z - k, by omega, by rw [show 64 * (z - k) + i = 64 * z + i - 64 * k by omega]; exact h5⟩, h1⟩
 ·rintro ⟨⟨k, h1, h2⟩, h3⟩
  exact ⟨h3, z - k, by omega, by omega, by omega, by rw [show 64 * z + i - 64 * (z - k) = 64 * k + i by omega]; exact h2⟩
end Go.Draw
end
section
namespace Go.Draw
set_option maxRecDepth 10000
/-! the reference's ways: first, ready, greedy -/
def wayR (m : List Sol) (p : Nat) : List (Mv × List Nat) := (movesL p).filterMap fun x => (blockedM m x).map fun l => (x, l)
def firstR (m : List Sol) (gone : List Nat) (p : Nat) : Option Mv := ((wayR m p).find? fun y => y.2.all fun i => gone.contains i).map (·.1)
theorem all_set (A : U) {gone : List Nat} (hg : ∀ i ∈ gone, i < 64) : ((listU A).all fun i => gone.contains i) = (A &&& ~~~(setF gone) == 0) := by
 rw [Bool.eq_iff_iff, beq_iff_eq, ← sub_iff, List.all_eq_true]
 constructor
 ·intro h i hi
  rw [setF_bit gone hg]
  exact h i ((listU_mem _ _).2 hi)
 ·intro h i hi
  rw [← setF_bit gone hg]
  exact h i ((listU_mem _ _).1 hi)
theorem find_filterMap {α β : Type} (f : α → Option β) (q : β → Bool) : ∀ l : List α, ((l.filterMap fun x => (f x).map fun y => (x, y)).find? fun z => q z.2).map (·.1) = l.find? fun x => match f x with
  | some y => q y
  | none => false
 | [] => rfl
 | x :: l => by
  have ih := find_filterMap f q l
  rw [List.filterMap_cons]
  cases hx : f x with
  | none =>
   simp only [Option.map_none]
   rw [List.find?_cons, hx]
   exact ih
  | some y =>
   simp only [Option.map_some, List.find?_cons, hx]
   cases hq : q y
   ·exact ih
   ·rfl
theorem find_congr' {α : Type} {f g : α → Bool} : ∀ {l : List α}, (∀ x ∈ l, f x = g x) → l.find? f = l.find? g
 | [], _ => rfl
 | x :: l, h => by
  rw [List.find?_cons, List.find?_cons, h x (by simp), find_congr' (fun y hy => h y (by simp [hy]))]
theorem firstR_goes {m : List Sol} (hA : Apart m) (hm : m.length ≤ 12) {p : Nat} (hp : p < m.length) {gone : List Nat} (hg : ∀ i ∈ gone, i < 64) : firstR m gone p = goesM m p (setF gone) := by
 unfold firstR wayR goesM
 refine (find_filterMap (blockedM m) (fun l : List Nat => l.all fun i => gone.contains i) (movesL p)).trans ?_
 refine find_congr' fun x hx => ?_
 have hxm : IsMv m.length x := by
  have h := (mem_movesL p x).1 hx
  refine ⟨by omega, ?_⟩
  rcases h.2 with h | h
  ·exact .inl h
  ·exact .inr ⟨h.1.1, h.1.2, h.2⟩
 rw [blocked_eq m hA (by omega) x hxm]
 unfold freeM
 cases hs : (inWayM m x).2
 ·simp only [Bool.not_false, Bool.true_and, Bool.false_eq_true, if_false]
  exact all_set _ hg
 ·simp
def readyR (m : List Sol) (of gone : List Nat) : List Nat := of.filter fun p => (firstR m gone p).isSome && !gone.contains p
theorem readyR_set {m : List Sol} (hA : Apart m) (hm : m.length ≤ 12) {S : U} (hS : Sub S (allU m.length)) {gone : List Nat} (hg : ∀ i ∈ gone, i < 64) : readyR m (listU S) gone = listU (S &&& readyM m (setF gone)) := by
 unfold readyR
 unfold listU
 rw [List.filter_filter]
 refine List.filter_congr ?_
 intro i hi
 rw [BitVec.getLsbD_and, ready_bit m (by omega)]
 cases hb : S.getLsbD i
 ·simp
 ·have hl := hS i hb
  rw [allU_bit _ _ (by omega)] at hl
  have hl2 : i < m.length := by simpa using hl
  rw [firstR_goes hA hm hl2 hg, setF_bit gone hg, hl]
  unfold canM
  simp
end Go.Draw
end
section
namespace Go.Proofs.YtlbhjikkpbknnaaGreatDoor
open Go.RowKit Go.Rel Go.Draw
set_option maxRecDepth 100000
/-! the reference's cells: has, shift, IsMove -/
theorem wrapXY {x y : Nat} (hx : x ≤ 7) (hy : y ≤ 7) : IntKind.i64.wrap (IntKind.i64.wrap (8 * (y : Int)) + (x : Int)) = ((8 * y + x : Nat) : Int) := by
 have e1 : IntKind.i64.wrap (8 * (y : Int)) = 8 * (y : Int) := (Go.IntWalk.i64_left _).trans (Go.IntWalk.wrap64_in _ (by omega))
 have e2 : IntKind.i64.wrap (8 * (y : Int) + (x : Int)) = 8 * (y : Int) + (x : Int) := (Go.IntWalk.i64_left _).trans (Go.IntWalk.wrap64_in _ (by omega))
 rw [e1, e2]; omega
theorem has_at (s : Sol) {x y z : Nat} (hx : x ≤ 7) (hy : y ≤ 7) (hz : z ≤ 7) : has s x y z = s.getLsbD (64 * z + (8 * y + x)) := by
 unfold has
 rw [decide_eq_true (by omega), Bool.true_and]
 congr 1; omega
theorem has_off (s : Sol) {x y z : Int} (h : ¬ (0 ≤ x ∧ x ≤ 7 ∧ 0 ≤ y ∧ y ≤ 7 ∧ 0 ≤ z ∧ z ≤ 7)) : has s x y z = false := has_out s x y z h
set_option maxHeartbeats 8000000 in
theorem has_spec {w : World} {s : Sol} (x y z : Int) : Calls Tryz.prog 126 #[solV s, .int .i64 x, .int .i64 y, .int .i64 z] w fun e w' => e = .returned (.bool (has s x y z)) ∧ Below w.heap.size w w' := by
 by_cases h : 0 ≤ x ∧ x ≤ 7 ∧ 0 ≤ y ∧ y ≤ 7 ∧ 0 ≤ z ∧ z ≤ 7
 ·obtain ⟨h1, h2, h3, h4, h5, h6⟩ := h
  obtain ⟨x, rfl⟩ : ∃ n : Nat, x = n := ⟨x.toNat, by omega⟩
  obtain ⟨y, rfl⟩ : ∃ n : Nat, y = n := ⟨y.toNat, by omega⟩
  obtain ⟨z, rfl⟩ : ∃ n : Nat, z = n := ⟨z.toNat, by omega⟩
  have hx : x ≤ 7 := by omega
  have hy : y ≤ 7 := by omega
  have hz : z ≤ 7 := by omega
  have d1 : decide ((x : Int) < 0) = false := decide_eq_false (by omega)
  have d2 : decide ((7 : Int) < (x : Int)) = false := decide_eq_false (by omega)
  have d3 : decide ((y : Int) < 0) = false := decide_eq_false (by omega)
  have d4 : decide ((7 : Int) < (y : Int)) = false := decide_eq_false (by omega)
  have d5 : decide ((z : Int) < 0) = false := decide_eq_false (by omega)
  have d6 : decide ((7 : Int) < (z : Int)) = false := decide_eq_false (by omega)
  have hz8 : (z : Int) < 8 := by omega
  have hw := wrapXY hx hy
  have hT := bitAt1_u (plv s z) (8 * y + x)
  rw [plv_bit _ _ _ (by omega)] at hT
  have HT := Lib.hid hT
  have b1 : Blk (w.alloc (.cells #[.int .u64 (pl s 0), .int .u64 (pl s 1), .int .u64 (pl s 2), .int .u64 (pl s 3), .int .u64 (pl s 4), .int .u64 (pl s 5), .int .u64 (pl s 6), .int .u64 (pl s 7)] 64)) w.heap.size #[.int .u64 (pl s 0), .int .u64 (pl s 1), .int .u64 (pl s 2), .int .u64 (pl s 3), .int .u64 (pl s 4), .int .u64 (pl s 5), .int .u64 (pl s 6), .int .u64 (pl s 7)] 64 := Blk.new _ _ _
  have c1 := (b1.cell z).trans (arr8 s (by omega : z < 8))
  have em : min (8 * y + x) 64 = 8 * y + x := Nat.min_eq_left (by omega)
  have HR := Lib.hid (has_at s hx hy hz)
  clear hT b1 h1 h2 h3 h4 h5 h6 
  go_enter Tryz.func126, Tryz.ntmps126
  go_wp2_with fail
  go_ret
  exact ⟨ret_bool (by rw [HR.out, HT.out]), (by repeat (first | with_reducible exact bel_refl _ | with_reducible assumption | with_reducible refine bel_drewN ?_ _ | with_reducible refine bel_drew ?_ | with_reducible refine bel_alloc ?_ _ | with_reducible refine bel_row ?_ ?_ _ | with_reducible refine bel_set ?_ ?_ _ | refine bel_trans ?_ (by with_reducible assumption) | (simp; done) | (simp; omega)))⟩
 ·have HR := Lib.hid (has_off s h)
  go_enter Tryz.func126, Tryz.ntmps126
  go_wp2_with fail
  all_goals first
   | (exfalso; exact h (by omega))
   | (go_ret; exact ⟨ret_bool HR.out.symm, (by repeat (first | with_reducible exact bel_refl _ | with_reducible assumption | with_reducible refine bel_drewN ?_ _ | with_reducible refine bel_drew ?_ | with_reducible refine bel_alloc ?_ _ | with_reducible refine bel_row ?_ ?_ _ | with_reducible refine bel_set ?_ ?_ _ | refine bel_trans ?_ (by with_reducible assumption) | (simp; done) | (simp; omega)))⟩)
set_option maxHeartbeats 8000000 in
theorem IsMove_spec {w : World} (n : Nat) (a b c : Int) : Calls Tryz.prog 71 #[.int .i64 n, .agg #[.int .i64 a, .int .i64 b, .int .i64 c]] w fun e w' => e = .returned (.bool (decide (0 ≤ a) && decide (a < n) && isMoveI b c)) ∧ Below w.heap.size w w' := by
 go_enter Tryz.func71, Tryz.ntmps71
 go_wp2_with fail
 all_goals (go_ret; refine ⟨ret_bool ?_, (by repeat (first | with_reducible exact bel_refl _ | with_reducible assumption | with_reducible refine bel_drewN ?_ _ | with_reducible refine bel_drew ?_ | with_reducible refine bel_alloc ?_ _ | with_reducible refine bel_row ?_ ?_ _ | with_reducible refine bel_set ?_ ?_ _ | refine bel_trans ?_ (by with_reducible assumption) | (simp; done) | (simp; omega)))⟩; unfold isMoveI; rw [Bool.eq_iff_iff]; simp; first | omega | (simp only [beq_iff_eq, beq_eq_false_iff_ne] at *; first | omega | (intros; omega)))
end Go.Proofs.YtlbhjikkpbknnaaGreatDoor
end
section
namespace Go.Proofs.YtlbhjikkpbknnaaGreatDoor
open Go.RowKit Go.Rel Go.Draw
set_option maxRecDepth 100000
/-! the reference's lists: others, all, left -/
def othersI (n : Nat) (p : Int) : List Nat := (List.range n).filter fun i => decide ((i : Int) ≠ p)
theorem othersI_succ (n : Nat) (p : Int) : othersI (n + 1) p = othersI n p ++ (if (n : Int) = p then [] else [n]) := by
 unfold othersI
 rw [List.range_succ, List.filter_append]
 congr 1
 by_cases h : (n : Int) = p <;> simp [h]
theorem othersI_len (n : Nat) (p : Int) : (othersI n p).length ≤ n := by
 unfold othersI
 have := List.length_filter_le (fun i : Nat => decide ((i : Int) ≠ p)) (List.range n)
 simpa using this
theorem othersI_nat (n p : Nat) : othersI n p = othersL n p := by
 unfold othersI othersL
 congr 1; funext i
 by_cases h : i = p
 ·subst h; simp
 ·have : ¬ ((i : Int) = (p : Int)) := by omega
  simp [h, this]
theorem othersI_all (n : Nat) : othersI n (-1) = List.range n := by
 unfold othersI
 rw [List.filter_eq_self]
 intro i _; simp
set_option maxHeartbeats 4000000 in
theorem others_spec {w : World} (a : Option Addr) (n c : Nat) (p : Int) (hn : n ≤ 1000) : Calls Tryz.prog 85 #[.slice a n c, .int .i64 p] w fun e w' => Below w.heap.size w w' ∧ ∃ o, e = .returned o ∧ OwnI w' w.heap.size o (intsL (othersI n p)) := by
 obtain ⟨i0, hi, hz0, hz1, hz2⟩ := info_parts infoInt
 have HI0 := Lib.hid (And.intro hi (And.intro hz0 (And.intro hz1 hz2))); clear hi hz0 hz1 hz2
 go_enter Tryz.func85, Tryz.ntmps85
 go_wp2_with fail
 go_loopw [5, 6] (fun ov iv wx => ∃ (k : Nat), k ≤ n ∧ iv = .int .i64 k ∧ Hid (OwnI wx w.heap.size ov (intsL (othersI k p)) ∧ Below w.heap.size w wx)) (fun _ iv _ => n - (intOf iv).toNat)
 case atStart => exact ⟨0, by omega, rfl, Lib.hid ⟨World.ownsRow_nil _ _ _ _, Below.refl _ _⟩⟩
 case round =>
  obtain ⟨k, hk, rfl, HI⟩ := hrel
  by_cases hlt : k < n
  ·have hx := HI.out.1
   have hbs : w.heap.size ≤ wr.heap.size := HI.out.2.size
   obtain ⟨p6, n6, c6, hu6⟩ := own_shapeN hx
   subst hu6
   unfold OwnI at hx
   rw [intsL_length] at hx
   have hlen := othersI_len k p
   have HX := Lib.hid hx; clear hx
   by_cases hp : (k : Int) = p
   ·subst hp
    have HP := Lib.hid (rfl : (k : Int) = (k : Int))
    go_wp2_with fail
    refine ⟨⟨k + 1, by omega, by simp, Lib.hid ⟨?_, HI.out.2⟩⟩, by simp [intOf]; omega⟩
    rw [othersI_succ, if_pos HP.out, List.append_nil]
    exact HI.out.1
   ·have HP := Lib.hid hp
    go_wp2_with (first
     | (at_builtin; refine wpList_append_own _ rfl _ _ 23 rfl w.heap.size 3 i0 (.int .i64 0) 1 8 Tryz.underlying23 HI0.out.1 HI0.out.2.1 HI0.out.2.2.1 HI0.out.2.2.2 rfl (by decide) _ _ _ rfl (HX.out.alloc _) ⟨wr.heap.size, 0, none⟩ 1 1 [.int .i64 (k : Int)] rfl rfl (cell_one_new _ _ _) (fun x hx => by simp at hx; subst hx; rfl) (by unfold maxLen; omega) (by omega) (by simp; omega) ?_; intro v' w7 hown' hgrow7 hnil7))
    have hb7 : Below w.heap.size wr w7 := ((bel_alloc (bel_refl wr) (.cells #[.int .i64 (k : Int)] 3)).mono hbs).grown hgrow7 (by simp; omega) (fun j hj => ((HX.out.alloc (.cells #[.int .i64 (k : Int)] 3)).lt j hj).1)
    refine ⟨⟨k + 1, by omega, by simp, Lib.hid ⟨?_, HI.out.2.trans hb7⟩⟩, by simp [intOf]; omega⟩
    rw [othersI_succ, if_neg HP.out]
    unfold OwnI
    rw [intsL_length, List.length_append]
    unfold intsL at *
    rw [List.map_append, List.map_append]
    exact hown'
  ·obtain rfl : k = n := by omega
   go_wp2_with fail
   go_ret
   exact ⟨HI.out.2, _, rfl, HI.out.1⟩
theorem all_ref {w : World} (a : Option Addr) (n c : Nat) (hn : n ≤ 1000) : Calls Tryz.prog 83 #[.slice a n c] w fun e w' => Below w.heap.size w w' ∧ ∃ o, e = .returned o ∧ OwnI w' w.heap.size o (intsL (List.range n)) := by
 have HO := Lib.hid (others_spec (w := w) a n c (-1) hn)
 go_enter Tryz.func83, Tryz.ntmps83
 go_wp2_with fail
 refine HO.out.mono ?_
 rintro e w2 ⟨hb, o, rfl, ho⟩
 rw [othersI_all] at ho
 have HB := Lib.hid (And.intro hb ho); clear hb ho
 go_wp2_with fail
 go_ret
 exact ⟨HB.out.1, _, rfl, HB.out.2⟩
def leftI (n : Nat) (l : List Int) : List Nat := (List.range n).filter fun i => !l.contains (i : Int)
theorem leftI_succ (n : Nat) (l : List Int) : leftI (n + 1) l = leftI n l ++ (if l.contains (n : Int) then [] else [n]) := by
 unfold leftI
 rw [List.range_succ, List.filter_append]
 congr 1
 cases h : l.contains (n : Int) <;> simp only [List.filter_cons, List.filter_nil, h] <;> rfl
theorem leftI_len (n : Nat) (l : List Int) : (leftI n l).length ≤ n := by
 unfold leftI
 have := List.length_filter_le (fun i : Nat => !l.contains (i : Int)) (List.range n)
 simpa using this
set_option maxHeartbeats 4000000 in
theorem left_spec {w : World} (a : Option Addr) (n c : Nat) {v : Value} {l : List Int} (HL : SlI w v l) (hn : n ≤ 1000) : Calls Tryz.prog 98 #[.slice a n c, v] w fun e w' => Below w.heap.size w w' ∧ ∃ o, e = .returned o ∧ OwnI w' w.heap.size o (intsL (leftI n l)) := by
 obtain ⟨i0, hi, hz0, hz1, hz2⟩ := info_parts infoInt
 have HI0 := Lib.hid (And.intro hi (And.intro hz0 (And.intro hz1 hz2))); clear hi hz0 hz1 hz2
 have HH := Lib.hid HL
 clear HL
 go_enter Tryz.func98, Tryz.ntmps98
 go_wp2_with fail
 go_loopw [5, 6] (fun ov iv wx => ∃ (k : Nat), k ≤ n ∧ iv = .int .i64 k ∧ Hid (OwnI wx w.heap.size ov (intsL (leftI k l)) ∧ Below w.heap.size w wx)) (fun _ iv _ => n - (intOf iv).toNat)
 case atStart => exact ⟨0, by omega, rfl, Lib.hid ⟨World.ownsRow_nil _ _ _ _, Below.refl _ _⟩⟩
 case round =>
  obtain ⟨k, hk, rfl, HI⟩ := hrel
  by_cases hlt : k < n
  ·have H1 := Lib.hid (In_spec (k : Int) (HH.out.mono HI.out.2))
   have hx := HI.out.1
   have hbs : w.heap.size ≤ wr.heap.size := HI.out.2.size
   obtain ⟨p6, n6, c6, hu6⟩ := own_shapeN hx
   subst hu6
   unfold OwnI at hx
   rw [intsL_length] at hx
   have hlen := leftI_len k l
   have HX := Lib.hid hx; clear hx
   go_wp2_with fail
   refine H1.out.mono ?_
   rintro e w2 ⟨rfl, hw2⟩
   have hw3 := hw2.symm
   subst hw3
   clear hw2
   cases ha : l.contains (k : Int)
   ·have HA := Lib.hid ha; clear ha
    go_wp2_with (first
     | (at_builtin; refine wpList_append_own _ rfl _ _ 23 rfl w.heap.size 3 i0 (.int .i64 0) 1 8 Tryz.underlying23 HI0.out.1 HI0.out.2.1 HI0.out.2.2.1 HI0.out.2.2.2 rfl (by decide) _ _ _ rfl (HX.out.alloc _) ⟨wr.heap.size, 0, none⟩ 1 1 [.int .i64 (k : Int)] rfl rfl (cell_one_new _ _ _) (fun x hx => by simp at hx; subst hx; rfl) (by unfold maxLen; omega) (by omega) (by simp; omega) ?_; intro v' w7 hown' hgrow7 hnil7))
    have hb7 : Below w.heap.size wr w7 := ((bel_alloc (bel_refl wr) (.cells #[.int .i64 (k : Int)] 3)).mono hbs).grown hgrow7 (by simp; omega) (fun j hj => ((HX.out.alloc (.cells #[.int .i64 (k : Int)] 3)).lt j hj).1)
    refine ⟨⟨k + 1, by omega, by simp, Lib.hid ⟨?_, HI.out.2.trans hb7⟩⟩, by simp [intOf]; omega⟩
    rw [leftI_succ, HA.out, if_neg (by simp)]
    unfold OwnI
    rw [intsL_length, List.length_append]
    unfold intsL at *
    rw [List.map_append, List.map_append]
    exact hown'
   ·have HA := Lib.hid ha; clear ha
    go_wp2_with fail
    refine ⟨⟨k + 1, by omega, by simp, Lib.hid ⟨?_, HI.out.2⟩⟩, by simp [intOf]; omega⟩
    rw [leftI_succ, HA.out, if_pos rfl, List.append_nil]
    exact HI.out.1
  ·obtain rfl : k = n := by omega
   go_wp2_with fail
   go_ret
   exact ⟨HI.out.2, _, rfl, HI.out.1⟩
end Go.Proofs.YtlbhjikkpbknnaaGreatDoor
end
section
namespace Go.Proofs.YtlbhjikkpbknnaaGreatDoor
open Go.RowKit Go.Rel Go.Draw
set_option maxRecDepth 100000
/-! the reference's shift, piece -/
abbrev shV (dx dy up : Int) (on : Bool) : Value := .tuple #[.int .i64 dx, .int .i64 dy, .int .i64 up, .bool on]
set_option maxHeartbeats 8000000 in
theorem shift_core {w : World} (p : Int) (side far t : Nat) (hs : side ≤ 4) (hf : far ≤ 7) (ht : t ≤ 16) : Calls Tryz.prog 125 #[.agg #[.int .i64 p, .int .i64 (side : Int), .int .i64 (far : Int)], .int .i64 (t : Int)] w fun e w' => e = .returned (shV (dxS side * (min t far : Nat)) (dyS side * (min t far : Nat)) (t - min t far : Nat) (decide (t - min t far ≤ 8))) ∧ Below w.heap.size w w' := by
 obtain ⟨k, hk⟩ : ∃ k, k = min t far := ⟨_, rfl⟩
 have hk7 : k ≤ 7 := by omega
 have hkt : k ≤ t := by omega
 have hkI : min (t : Int) (far : Int) = (k : Int) := by omega
 have HK := Lib.hid hk
 clear hk
 obtain ⟨u, hu⟩ : ∃ u : Nat, u = t - k := ⟨_, rfl⟩
 have huI : (t : Int) - (k : Int) = (u : Int) := by omega
 have hu16 : u ≤ 16 := by omega
 rw [← HK.out, ← hu]
 clear hu
 obtain rfl | rfl | rfl | rfl | rfl : side = 0 ∨ side = 1 ∨ side = 2 ∨ side = 3 ∨ side = 4 := by omega
 all_goals
  go_enter Tryz.func125, Tryz.ntmps125
  go_wp2_with fail
 all_goals
  have HK' := HK.out
  refine bodyPost_ret (v := shV _ _ _ _) (by simp [results, Tryz.results125, go_sem]; exact ⟨rfl, rfl, rfl, rfl⟩) rfl ⟨?_, (by repeat (first | with_reducible exact bel_refl _ | with_reducible assumption | with_reducible refine bel_drewN ?_ _ | with_reducible refine bel_drew ?_ | with_reducible refine bel_alloc ?_ _ | with_reducible refine bel_row ?_ ?_ _ | with_reducible refine bel_set ?_ ?_ _ | refine bel_trans ?_ (by with_reducible assumption) | (simp; done) | (simp; omega)))⟩
  simp [dxS, dyS]
  try omega
set_option maxHeartbeats 4000000 in
theorem piece_spec {w : World} {v : Value} {m : List Sol} (H : SlS w v m) {n : Nat} (hn : n < 512) : Calls Tryz.prog 127 #[v, .int .i64 ((n % 8 : Nat) : Int), .int .i64 ((n / 8 % 8 : Nat) : Int), .int .i64 ((n / 64 : Nat) : Int)] w fun e w' => e = .returned (.int .i64 (pieceR m n)) ∧ Below w.heap.size w w' := by
 obtain ⟨ai, nn, c, rfl, hnn, hc, hcm⟩ := H.out
 subst hnn
 have HH := Lib.hid H
 clear H
 obtain ⟨x, hx⟩ : ∃ x : Nat, x = n % 8 := ⟨_, rfl⟩
 obtain ⟨y, hy⟩ : ∃ x : Nat, x = n / 8 % 8 := ⟨_, rfl⟩
 obtain ⟨z, hz⟩ : ∃ x : Nat, x = n / 64 := ⟨_, rfl⟩
 rw [← hx, ← hy, ← hz]
 have HX := Lib.hid (And.intro hx (And.intro hy (And.intro hz hn)))
 clear hx hy hz hn
 go_enter Tryz.func127, Tryz.ntmps127
 go_wp2_with fail
 go_loopw [9] (fun iv wx => ∃ (k : Nat), k ≤ m.length ∧ iv = .int .i64 k ∧ Hid ((List.range k).find? (fun i => (m.getD i 0).getLsbD n) = none ∧ Below w.heap.size w wx)) (fun iv _ => m.length - (intOf iv).toNat)
 case atStart => exact ⟨0, Nat.zero_le _, rfl, Lib.hid ⟨rfl, Below.refl _ _⟩⟩
 case round =>
  obtain ⟨k, hk, rfl, HI⟩ := hrel
  by_cases hlt : k < m.length
  ·obtain ⟨s, hs⟩ : ∃ x, m[k]? = some x := ⟨_, List.getElem?_eq_getElem hlt⟩
   obtain ⟨b, off, c1, he, _, _, hb, hcs⟩ := sol_at_piece HH.out hs
   obtain ⟨rfl, -, rfl⟩ : ai = some ⟨b, off, none⟩ ∧ True ∧ c = c1 := by
    simp only [Value.slice.injEq] at he; exact ⟨he.1, trivial, he.2.2⟩
   have hcells := sol_cells (hcs.mono HI.out.2 hb) hs
   have lb : b < wr.heap.size := Nat.lt_of_lt_of_le hb HI.out.2.size
   have HG := Lib.hid (show m.getD k 0 = s by simp [List.getD, hs])
   clear he hs hcs
   have HHAS := Lib.hid fun W => has_spec (w := W) (s := s) (x : Int) (y : Int) (z : Int)
   go_wp2_with fail
   refine (HHAS.out _).mono ?_
   rintro e w2 ⟨rfl, hb2⟩
   have HB2 := Lib.hid hb2; clear hb2
   have hbit : has s (x : Int) (y : Int) (z : Int) = (m.getD k 0).getLsbD n := by
    rw [HG.out, HX.out.1, HX.out.2.1, HX.out.2.2.1, has_bit s n HX.out.2.2.2]
   rw [hbit]
   cases hp : (m.getD k 0).getLsbD n
   ·have HP := Lib.hid hp; clear hp hbit
    go_wp2_with fail
    refine ⟨⟨k + 1, by omega, by simp, Lib.hid ⟨?_, HI.out.2.trans (HB2.out.mono HI.out.2.size)⟩⟩, by simp [intOf]; omega⟩
    rw [List.range_succ, List.find?_append, HI.out.1]
    have hf : (m.getD k 0).getLsbD n = false := HP.out
    simp only [List.find?_cons, List.find?_nil, hf]; rfl
   ·have HP := Lib.hid hp; clear hp hbit
    go_wp2_with fail
    go_ret
    refine ⟨?_, HI.out.2.trans (HB2.out.mono HI.out.2.size)⟩
    have hr : (List.range m.length).find? (fun i => (m.getD i 0).getLsbD n) = some k := by
     have hpre : List.range k ++ [k] <+: List.range m.length := by
      rw [← List.range_succ, show List.range (k + 1) = (List.range m.length).take (k + 1) by rw [List.take_range, Nat.min_eq_left (by omega)]]
      exact List.take_prefix _ _
     exact find_at _ hpre (by
      intro q hq
      have := List.find?_eq_none.1 HI.out.1 q hq
      simpa using this) HP.out
    have he : pieceR m n = (k : Int) := by unfold pieceR; rw [hr]
    rw [he]; rfl
  ·obtain rfl : k = m.length := by omega
   go_wp2_with fail
   go_ret
   refine ⟨?_, HI.out.2⟩
   have he : pieceR m n = -1 := by unfold pieceR; rw [HI.out.1]
   rw [he]; rfl
end Go.Proofs.YtlbhjikkpbknnaaGreatDoor
end
