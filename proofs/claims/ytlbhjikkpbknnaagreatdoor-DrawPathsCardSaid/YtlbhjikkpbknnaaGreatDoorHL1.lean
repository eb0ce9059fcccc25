import Derived.Test.YtlbhjikkpbknnaaGreatDoorG21
import Derived.Lib.SliceRun
import Derived.Laws.CopyRow
import Derived.Laws.Tables
import Derived.Laws.AppendOwn
/-
  Given contracts of functions of the program, and laws for them, one behind the other.
-/
set_option linter.unusedVariables false
set_option linter.unusedSimpArgs false
set_option linter.unusedSectionVars false
section
namespace Go.Proofs.YtlbhjikkpbknnaaGreatDoor
open Go.RowKit Go.Rel Go.Draw
set_option maxRecDepth 100000
/-! DrawRounds -/
theorem contains_intsL (l : List Nat) {x : Int} (hx : 0 ≤ x) : (intsL l).contains x = l.contains x.toNat := by
 unfold intsL
 rw [Bool.eq_iff_iff, List.contains_iff_mem, List.contains_iff_mem, List.mem_map]
 constructor
 ·rintro ⟨a, ha, rfl⟩; simpa using ha
 ·intro h; exact ⟨x.toNat, h, Int.toNat_of_nonneg hx⟩
theorem countP_take {α : Type} (p : α → Bool) {l : List α} {k : Nat} {x : α} (hx : l[k]? = some x) : (l.take (k + 1)).countP p = (l.take k).countP p + if p x then 1 else 0 := by
 rw [List.take_add_one, hx, List.countP_append]
 congr 1
 simp [List.countP_cons]
theorem sll_cell {w : World} {v : Value} {ls : List (List Int)} (h : SlLL w v ls) : ∃ b c, v = .slice b ls.length c ∧ ls.length ≤ 9223372036854775807 ∧ ∀ (k : Nat) (x : List Int), ls[k]? = some x → ∃ ib io u, b = some ⟨ib, io, none⟩ ∧ ib < w.heap.size ∧ w.cell? ⟨ib, io + k, none⟩ = some u ∧ SlI w u x := by
 obtain ⟨us, h1, h2, h3⟩ := h
 rcases h1.cases with ⟨hz, a, c, rfl, hc⟩ | ⟨ib, io, c, hv, hq1, hq2, _, hcs⟩
 ·have hu : us = [] := by simpa using hz
  have hl : ls = [] := List.eq_nil_of_length_eq_zero (by rw [← h2, hu]; rfl)
  subst hl
  exact ⟨_, _, rfl, by simp, fun k x hx => by simp at hx⟩
 ·rw [List.length_map] at hv
  have hq1 : us.length ≤ c := by simpa using hq1
  refine ⟨_, _, by rw [hv, h2], by omega, fun k x hx => ?_⟩
  obtain ⟨hk, _⟩ := List.getElem?_eq_some_iff.1 hx
  have hu : us[k]? = some (us[k]'(by omega)) := List.getElem?_eq_getElem _
  refine ⟨ib, io, us[k]'(by omega), rfl, hcs.1, ?_, h3 k _ x hu hx⟩
  have := hcs.2 k 0 (us[k]'(by omega)) (by rw [List.getElem?_map, hu]; rfl)
  simpa using this
theorem few_bad {n : Nat} {most : Int} (h : ¬ ((n : Int) ≤ most ∨ 12 < n ∧ n ≤ 15)) : (decide ((n : Int) ≤ most) || (decide (12 < n) && decide (n ≤ 15))) = false := by
 simp only [Bool.or_eq_false_iff, Bool.and_eq_false_iff, decide_eq_false_iff_not]
 omega
theorem few_ok {n : Nat} {most : Int} (h : (n : Int) ≤ most ∨ 12 < n ∧ n ≤ 15) : (decide ((n : Int) ≤ most) || (decide (12 < n) && decide (n ≤ 15))) = true := by
 simp only [Bool.or_eq_true, Bool.and_eq_true, decide_eq_true_eq]
 exact h
end Go.Proofs.YtlbhjikkpbknnaaGreatDoor
end
section
namespace Go.Proofs.YtlbhjikkpbknnaaGreatDoor
open Go.RowKit Go.Rel Go.Draw
set_option maxRecDepth 100000
/-! sets and their lists of numbers -/
theorem intsL_inj {l r : List Nat} (h : intsL l = intsL r) : l = r := by
 unfold intsL at h
 exact List.map_inj_right (fun a b e => Int.ofNat.inj e) |>.1 h
theorem contains_listU (A : U) (i : Nat) : (intsL (listU A)).contains (i : Int) = A.getLsbD i := by
 rw [contains_intsL _ (by omega), Int.toNat_natCast, Bool.eq_iff_iff, List.contains_iff_mem, listU_mem]
theorem listU_top {s : U} {x : Nat} (h : ∀ i : Nat, s.getLsbD i = true → i < x) (hx : x < 64) : listU (s ||| bit x) = listU s ++ [x] := by
 have e : List.range 64 = List.range' 0 x ++ (x :: List.range' (x + 1) (63 - x)) := by
  rw [show x :: List.range' (x + 1) (63 - x) = List.range' x (64 - x) by
   rw [show 64 - x = (63 - x) + 1 by omega, List.range'_succ], List.range_eq_range']
  have := List.range'_append_1 (s := 0) (m := x) (n := 64 - x)
  rw [Nat.zero_add] at this
  rw [this, show x + (64 - x) = 64 by omega]
 unfold listU
 rw [e, List.filter_append, List.filter_append, List.filter_cons, List.filter_cons, or_bit _ _ _ hx]
 have h1 : (List.range' 0 x).filter (fun i => (s ||| bit x).getLsbD i) = (List.range' 0 x).filter fun i => s.getLsbD i := by
  apply List.filter_congr
  intro i hi
  have : i < x := by have := List.mem_range'_1.1 hi; omega
  rw [or_bit _ _ _ hx]; simp; omega
 have h2 : (List.range' (x + 1) (63 - x)).filter (fun i => (s ||| bit x).getLsbD i) = [] := by
  rw [List.filter_eq_nil_iff]
  intro i hi hb
  have hi2 : x < i := by have := List.mem_range'_1.1 hi; omega
  rw [or_bit _ _ _ hx, Bool.or_eq_true] at hb
  rcases hb with hb | hb
  ·have := h i hb; omega
  ·simp at hb; omega
 have h3 : (List.range' (x + 1) (63 - x)).filter (fun i => s.getLsbD i) = [] := by
  rw [List.filter_eq_nil_iff]
  intro i hi hb
  have hi2 : x < i := by have := List.mem_range'_1.1 hi; omega
  have := h i hb; omega
 have h4 : s.getLsbD x = false := by
  cases hb : s.getLsbD x
  ·rfl
  ·have := h x hb; omega
 rw [h1, h2, h3, h4]; simp
theorem setG_list {n : Nat} (hn : n ≤ 12) : ∀ (l : List Int) (pr : Option Int) (s G : U), (∀ i : Nat, s.getLsbD i = true → ∃ y, pr = some y ∧ (i : Int) ≤ y) → setG n pr s l = some G → intsL (listU G) = intsL (listU s) ++ l
 | [], pr, s, G, _, h => by unfold setG at h; cases h; simp
 | x :: l, pr, s, G, hs, h => by
  unfold setG at h
  split at h
  ·rename_i hx
   have hx64 : x.toNat < 64 := by omega
   have htop : ∀ i : Nat, s.getLsbD i = true → i < x.toNat := fun i hi => by
    obtain ⟨y, hy, hle⟩ := hs i hi
    have := hx.2.2 y hy; omega
   rw [setG_list hn l (some x) _ G (fun i hi => ⟨x, rfl, by
    rw [or_bit _ _ _ hx64, Bool.or_eq_true] at hi
    rcases hi with hi | hi
    ·have := htop i hi; omega
    ·simp at hi; omega⟩) h, listU_top htop hx64]
   unfold intsL
   rw [List.map_append, List.append_assoc]
   congr 1
   simp; omega
  ·cases h
theorem setI_list {n : Nat} (hn : n ≤ 12) {l : List Int} {G : U} (h : setI n l = some G) : l = intsL (listU G) := by
 have := setG_list hn l none 0 G (fun i hi => by simp at hi) h
 rw [listU_zero] at this
 exact this.symm
theorem setG_some {n : Nat} : ∀ (l : List Int) (pr : Option Int) (s : U), l.Pairwise (· < ·) → (∀ x ∈ l, 0 ≤ x ∧ x < n) → (∀ y, pr = some y → ∀ x ∈ l, y < x) → (setG n pr s l).isSome = true
 | [], _, _, _, _, _ => rfl
 | x :: l, pr, s, hp, hb, hy => by
  have hpc := List.pairwise_cons.1 hp
  unfold setG
  rw [if_pos ⟨(hb x (by simp)).1, (hb x (by simp)).2, fun y e => hy y e x (by simp)⟩]
  exact setG_some l _ _ hpc.2 (fun z hz => hb z (by simp [hz])) (fun y e z hz => by cases e; exact hpc.1 z hz)
theorem setI_of {n : Nat} (hn : n ≤ 12) {G : U} (hG : Sub G (allU n)) : setI n (intsL (listU G)) = some G := by
 have hsome : (setI n (intsL (listU G))).isSome = true := by
  refine setG_some _ _ _ ?_ (fun x hx => ?_) (fun y e => by cases e)
  ·unfold intsL listU
   rw [List.pairwise_map]
   refine (List.Pairwise.filter _ (List.pairwise_lt_range)).imp fun h => ?_
   exact Int.ofNat_lt.2 h
  ·unfold intsL at hx
   obtain ⟨i, hi, rfl⟩ := List.mem_map.1 hx
   have := hG i ((listU_mem _ _).1 hi)
   rw [allU_bit _ _ (by omega)] at this
   simp at this
   exact ⟨Int.natCast_nonneg i, Int.ofNat_lt.2 this⟩
 obtain ⟨G', h⟩ := Option.isSome_iff_exists.1 hsome
 have := setI_list hn h
 rw [h, listU_inj (intsL_inj this)]
theorem listU_small {A : U} (hA : Sub A (allU 12)) : listU A = (List.range 12).filter fun i => A.getLsbD i := by
 unfold listU
 rw [show List.range 64 = List.range 12 ++ List.range' 12 52 by decide, List.filter_append]
 have : (List.range' 12 52).filter (fun i => A.getLsbD i) = [] := by
  rw [List.filter_eq_nil_iff]
  intro i hi hb
  have h1 := hA i hb
  rw [allU_bit _ _ (by omega)] at h1
  have := List.mem_range'_1.1 hi
  simp at h1; omega
 rw [this, List.append_nil]
theorem sub_all {n : Nat} (hn : n ≤ 12) {A : U} (h : Sub A (allU n)) : Sub A (allU 12) := fun i hi => by
 have := h i hi
 rw [allU_bit _ _ (by omega)] at this ⊢
 simp at this ⊢; omega
theorem unionF_sets {A B : U} (hA : Sub A (allU 12)) (hB : Sub B (allU 12)) : unionF (intsL (listU A)) (intsL (listU B)) 12 = listU (A ||| B) := by
 rw [listU_small (or_sub.2 ⟨hA, hB⟩)]
 unfold unionF
 apply List.filter_congr
 intro i _
 rw [contains_listU, contains_listU, BitVec.getLsbD_or]
theorem all_subB (A s : U) : ((intsL (listU s)).all fun x => (intsL (listU A)).contains x) = subB s A := by
 rw [Bool.eq_iff_iff, List.all_eq_true, subB_iff]
 constructor
 ·intro h i hi
  have := h (i : Int) (by unfold intsL; exact List.mem_map.2 ⟨i, (listU_mem _ _).2 hi, rfl⟩)
  rwa [contains_listU] at this
 ·intro h x hx
  unfold intsL at hx
  obtain ⟨i, hi, rfl⟩ := List.mem_map.1 hx
  show (intsL (listU A)).contains (i : Int) = true
  rw [contains_listU]
  exact h i ((listU_mem _ _).1 hi)
theorem intsL_beq (A B : U) : (intsL (listU A) == intsL (listU B)) = (A == B) := by
 rw [Bool.eq_iff_iff, beq_iff_eq, beq_iff_eq]
 exact ⟨fun h => listU_inj (intsL_inj h), fun h => by rw [h]⟩
end Go.Proofs.YtlbhjikkpbknnaaGreatDoor
end
section
namespace Go.Proofs.YtlbhjikkpbknnaaGreatDoor
open Go.RowKit Go.Rel Go.Draw
set_option maxRecDepth 100000
/-! DrawUnions -/
theorem askE_set {l : List Sol} {s : List Int} (h : askE l s [] = 0) : l.length ≤ 12 ∧ errM l = 0 ∧ ∃ A, setI l.length s = some A ∧ Sub A (allU l.length) ∧ s = intsL (listU A) := by
 unfold askE at h
 split at h
 ·rename_i h1; exact absurd h h1
 ·rename_i h1
  have h1 : errM l = 0 := by simpa using h1
  have hl := (errM_zero.1 h1).1
  refine ⟨hl, h1, ?_⟩
  cases hs : setI l.length s with
  | none => rw [hs] at h; cases h
  | some A => exact ⟨A, rfl, setI_sub hl hs, setI_list hl hs⟩
theorem askE_of {l : List Sol} {A : U} (h1 : errM l = 0) (hA : Sub A (allU l.length)) : askE l (intsL (listU A)) [] = 0 :=
 askE_zero h1 (setI_of (errM_zero.1 h1).1 hA) rfl
theorem askE_one {l : List Sol} {q : Nat} (h1 : errM l = 0) (hq : q < l.length) : askE l [] [(q : Int)] = 0 := by
 refine askE_zero (G := 0) h1 rfl ?_
 simp only [List.any_cons, List.any_nil, Bool.or_false]
 unfold askF
 simp only [Bool.or_eq_false_iff, decide_eq_false_iff_not]
 refine ⟨⟨by omega, by omega⟩, by simp⟩
theorem lit_two {W : World} {b : Nat} {x y : Value} {l r : List Int} {t : TypeId} (h : Blk W b #[x, y] t) (hx : SlI W x l) (hy : SlI W y r) : SlLL W (.slice (some ⟨b, 0, none⟩) 2 2) [l, r] :=
 lit_lists (us := [x, y]) h (by simp) rfl (fun i u z => by
  match i, u, z with
  | 0, _, _ =>
   intro hu hl
   simp at hu hl
   subst hu hl
   exact hx
  | 1, _, _ =>
   intro hu hl
   simp at hu hl
   subst hu hl
   exact hy
  | (i + 2), _, _ =>
   intro hu hl
   simp at hu)
theorem listU_take_sub {A : U} {i q : Nat} (h : (listU A)[i]? = some q) : A.getLsbD q = true := (listU_mem _ _).1 (List.mem_of_getElem? h)
end Go.Proofs.YtlbhjikkpbknnaaGreatDoor
end
section
namespace Go.Proofs.YtlbhjikkpbknnaaGreatDoor
open Go.RowKit Go.Rel Go.Draw
set_option maxRecDepth 100000
/-! Draw and Lock once more: what they give back when there is none -/
set_option maxHeartbeats 8000000 in
theorem Draw_nil {w : World} {v : Value} {l : List Sol} (H : SlS w v l) (hT : Tab w) : Calls Tryz.prog 39 #[v] w fun e w' => Below w.heap.size w w' ∧ ∃ u b, e = .returned (.tuple #[u, .bool b, .int .i64 (errM l)]) ∧ (errM l = 0 → (∃ L, orderM l (allU l.length) = some L ∧ b = true ∧ OwnM w' w.heap.size u L) ∨ (orderM l (allU l.length) = none ∧ b = false ∧ u = .slice none 0 0)) ∧ (errM l ≠ 0 → b = false ∧ u = .slice none 0 0) := by
 have HM := Lib.hid (moulded_x H)
 have HT := Lib.hid hT
 clear H hT
 go_enter Tryz.func39, Tryz.ntmps39
 go_wp2_with fail
 refine HM.out.mono ?_
 rintro e w1 ⟨hb, p, rfl, hx, -⟩
 by_cases h0 : errM l = 0
 ·obtain ⟨hl, g, mb, rfl, hg, hmb, hM⟩ := hx h0
  have HR := Lib.hid (order_spec hM hl (HT.out.grow hb) (allU l.length) (Sub.refl _))
  have HB := Lib.hid (And.intro hb (And.intro hmb h0))
  obtain ⟨pa, pc, hBk, _⟩ := hM.blk
  have cg := hBk.cell; have lg := hBk.lt
  rw [h0]
  clear hb hx h0 hM hBk
  go_wp2_with fail
  refine (all_spec pa l.length pc (by omega) w1).mono ?_
  rintro e w2 ⟨rfl, hw2⟩
  have hw3 := hw2.symm
  subst hw3
  clear hw2
  go_wp2_with fail
  refine HR.out.mono ?_
  rintro e w3 ⟨⟨L, u, ho, rfl, hO⟩ | ⟨ho, rfl⟩, hW, hgr⟩
  ·have HO := Lib.hid (And.intro ho (And.intro hO hgr)); clear ho hO hW hgr
   go_wp2_with fail
   refine bodyPost_ret (v := .tuple #[u, .bool true, .int .i64 0]) (by simp [results, Tryz.results39, go_sem]) rfl ?_
   exact ⟨gb_base HB.out.1 HO.out.2.2 HB.out.2.1, u, true, by rw [HB.out.2.2], fun _ => .inl ⟨L, HO.out.1, rfl, own_weak HO.out.2.1 HB.out.1.size⟩, fun h => absurd HB.out.2.2 h⟩
  ·have HO := Lib.hid (And.intro ho hgr); clear ho hW hgr
   go_wp2_with fail
   refine bodyPost_ret (v := .tuple #[.slice none 0 0, .bool false, .int .i64 0]) (by simp [results, Tryz.results39, go_sem]) rfl ?_
   exact ⟨gb_base HB.out.1 HO.out.2 HB.out.2.1, _, false, by rw [HB.out.2.2], fun _ => .inr ⟨HO.out.1, rfl, rfl⟩, fun h => absurd HB.out.2.2 h⟩
 ·have e0 : (errM l != 0) = true := by simpa using h0
  have HB := Lib.hid (And.intro hb h0)
  clear hb hx h0
  go_wp2_with fail
  refine bodyPost_ret (v := .tuple #[.slice none 0 0, .bool false, .int .i64 (errM l)]) (by simp [results, Tryz.results39, go_sem]) rfl ?_
  exact ⟨HB.out.1, _, _, rfl, (fun h => absurd h HB.out.2), fun _ => ⟨rfl, rfl⟩⟩
set_option maxHeartbeats 8000000 in
theorem Lock_nil {w : World} {v : Value} {l : List Sol} (H : SlS w v l) (hT : Tab w) : Calls Tryz.prog 31 #[v] w fun e w' => Below w.heap.size w w' ∧ ∃ u, e = .returned (.tuple #[u, .int .i64 (errM l)]) ∧ (errM l = 0 → OwnI w' w.heap.size u (intsL (listU (roundsM l).2))) ∧ (errM l ≠ 0 → u = .slice none 0 0) := by
 have HM := Lib.hid (moulded_x H)
 have HT := Lib.hid hT
 clear H hT
 go_enter Tryz.func31, Tryz.ntmps31
 go_wp2_with fail
 refine HM.out.mono ?_
 rintro e w1 ⟨hb, p, rfl, hx, -⟩
 by_cases h0 : errM l = 0
 ·obtain ⟨hl, g, mb, rfl, hg, hmb, hM⟩ := hx h0
  have HR := Lib.hid (rounds_spec' hM hl (HT.out.grow hb))
  have HB := Lib.hid (And.intro hb (And.intro hmb h0))
  rw [h0]
  clear hb hx h0 hM hl
  go_wp2_with fail
  refine HR.out.mono ?_
  rintro e w2 ⟨u, rfl, hO, hW, hgr⟩
  have hb2 := gb_base HB.out.1 hgr HB.out.2.1
  have HL := Lib.hid (list_spec (roundsM l).2 w2 (HT.out.grow hb2))
  have HB2 := Lib.hid hb2
  clear hO hW hgr hb2
  go_wp2_with fail
  refine HL.out.mono ?_
  rintro e w3 ⟨u, rfl, hO, hb3⟩
  go_wp2_with fail
  go_ret2
  exact ⟨bel_trans HB2.out hb3, u, by rw [HB.out.2.2]; rfl, (fun _ => own_weak hO HB2.out.size), fun h => absurd HB.out.2.2 h⟩
 ·have e0 : (errM l != 0) = true := by simpa using h0
  have HB := Lib.hid (And.intro hb h0)
  clear hb hx h0
  go_wp2_with fail
  go_ret2
  exact ⟨HB.out.1, _, by rfl, (fun h => absurd h HB.out.2), fun _ => rfl⟩
end Go.Proofs.YtlbhjikkpbknnaaGreatDoor
end
section
namespace Go.Proofs.YtlbhjikkpbknnaaGreatDoor
open Go.RowKit Go.Rel Go.Draw
set_option maxRecDepth 100000
/-! turned -/
def turnK (mr : Bool) (s : Sol) (k : Nat) : Sol := (List.range k).foldl (fun out n => if s.getLsbD n then out ||| (1#512 <<< tau mr n) else out) 0
theorem turnK_succ (mr : Bool) (s : Sol) (k : Nat) : turnK mr s (k + 1) = if s.getLsbD k then turnK mr s k ||| (1#512 <<< tau mr k) else turnK mr s k := by
 unfold turnK; rw [List.range_succ, List.foldl_append]; rfl
theorem turnK_all (mr : Bool) (s : Sol) : turnK mr s 512 = turnS mr s := rfl
theorem turnK_zero (mr : Bool) (s : Sol) : turnK mr s 0 = 0 := rfl
theorem plv_one {z j k : Nat} (hz : z < 8) (hj : j < 64) (hk : k < 8) : plv (1#512 <<< (64 * z + j)) k = if k = z then bit j else 0#64 := by
 apply BitVec.eq_of_getLsbD_eq
 intro i hi
 unfold plv
 rw [BitVec.getLsbD_extractLsb', one_bit _ _ (by omega)]
 by_cases e : k = z
 ·subst e
  rw [if_pos rfl, bit_bit _ _ hj]
  simp [hi]
 ·rw [if_neg e]
  simp [show ¬ (64 * k + i = 64 * z + j) by omega]
theorem plv_bit (s : Sol) (z n : Nat) (hn : n < 64) : (plv s z).getLsbD n = s.getLsbD (64 * z + n) := by
 unfold plv; rw [BitVec.getLsbD_extractLsb']; simp [hn]
theorem word_or (T : Sol) {z j : Nat} (hz : z < 8) (hj : j < 64) : bits .or .u64 (pl T z) (uI (bit j)) = pl (T ||| 1#512 <<< (64 * z + j)) z := by
 rw [pl_uI, pl_uI, bits_or_u, plv_or, plv_one hz hj hz, if_pos rfl]
theorem word_else (T : Sol) {z j k : Nat} (hz : z < 8) (hj : j < 64) (hk : k < 8) (h : k ≠ z) : pl (T ||| 1#512 <<< (64 * z + j)) k = pl T k := by
 rw [pl_uI, pl_uI, plv_or, plv_one hz hj hk, if_neg h]
 congr 1
 simp
theorem word_set (T : Sol) {z j : Nat} (hz : z < 8) (hj : j < 64) : (mixA fun i => pl T i).setIfInBounds z (.int .u64 (pl (T ||| 1#512 <<< (64 * z + j)) z)) = mixA fun i => pl (T ||| 1#512 <<< (64 * z + j)) i := by
 rw [mixA_set _ hz]
 refine mixA_eq fun i hi => ?_
 by_cases e : i = z
 ·subst e; simp
 ·simp only [e, if_false]
  rw [word_else T hz hj hi e]
theorem word_test (s : Sol) (z n : Nat) (hn : n < 64) : (bits .and .u64 (pl s z / (2 : Int) ^ n) 1 == 0) = !s.getLsbD (64 * z + n) := by
 rw [pl_uI, bitAt_u, plv_bit _ _ _ hn]
def tauJ (mr : Bool) (n : Nat) : Nat := if mr then 8 * (n / 8) + 7 - n % 8 else 8 * (n % 8) + 7 - n / 8
theorem tauJ_lt (mr : Bool) {n : Nat} (hn : n < 64) : tauJ mr n < 64 := by unfold tauJ; split <;> omega
theorem tau_J (mr : Bool) {z n : Nat} (hn : n < 64) : tau mr (64 * z + n) = 64 * z + tauJ mr n := by
 unfold tau tauJ
 have e1 : (64 * z + n) / 64 = z := by omega
 have e2 : (64 * z + n) / 8 % 8 = n / 8 := by omega
 have e3 : (64 * z + n) % 8 = n % 8 := by omega
 rw [e1, e2, e3]
 split <;> omega
theorem wrapJ {x y j : Nat} (hx : x ≤ 7) (hy : y ≤ 7) (h : (8 : Int) * (x : Int) + 7 - (y : Int) = (j : Int)) : IntKind.i64.wrap (IntKind.i64.wrap (IntKind.i64.wrap (8 * (x : Int)) + 7) - (y : Int)) = (j : Int) := by
 have e1 : IntKind.i64.wrap (8 * (x : Int)) = 8 * (x : Int) := (Go.IntWalk.i64_left _).trans (Go.IntWalk.wrap64_in _ (by omega))
 have e2 : IntKind.i64.wrap (8 * (x : Int) + 7) = 8 * (x : Int) + 7 := (Go.IntWalk.i64_left _).trans (Go.IntWalk.wrap64_in _ (by omega))
 have e3 : IntKind.i64.wrap (8 * (x : Int) + 7 - (y : Int)) = 8 * (x : Int) + 7 - (y : Int) := (Go.IntWalk.i64_left _).trans (Go.IntWalk.wrap64_in _ (by omega))
 rw [e1, e2, e3, h]
end Go.Proofs.YtlbhjikkpbknnaaGreatDoor
end
section
namespace Go.Proofs.YtlbhjikkpbknnaaGreatDoor
open Go.RowKit Go.Rel Go.Draw
set_option maxRecDepth 100000
/-! DrawTurned -/
abbrev OwnS (W : World) (base : Nat) (v : Value) (l : List Sol) : Prop := W.ownsRow base 64 8 v l.length (l.map solL).flatten
theorem OwnS.sl {W : World} {base : Nat} {v : Value} {l : List Sol} (h : OwnS W base v l) : SlS W v l :=
 own_sl (fun r hr => by obtain ⟨i, _, rfl⟩ := List.mem_map.1 hr; rfl) rfl (by rw [List.length_map]; exact h)
theorem sols_open {w : World} {v : Value} {l : List Sol} (h : SlS w v l) : ∃ b cc, v = .slice b l.length cc ∧ ∀ (k : Nat) (s : Sol), l[k]? = some s → ∃ ib io, b = some ⟨ib, io, none⟩ ∧ ib < w.heap.size ∧ Cells w ib io 8 (l.map solL) := by
 rcases h.cases with ⟨hz, a, c, rfl, hc⟩ | ⟨ib, io, c, hv, hq1, hq2, _, hcs⟩
 ·have : l = [] := by simpa using hz
  subst this
  exact ⟨_, _, rfl, fun k s hk => by simp at hk⟩
 ·rw [List.length_map] at hv
  exact ⟨_, _, hv, fun k s _ => ⟨ib, io, rfl, hcs.1, hcs⟩⟩
theorem turn_errM (mr : Bool) (m : List Sol) : errM (m.map (turnS mr)) = errM m := by unfold errM; rw [List.length_map, turn_good]
theorem turn_askE (mr : Bool) (m : List Sol) (set : List Int) : askE (m.map (turnS mr)) set [] = askE m set [] := by
 unfold askE; rw [turn_errM, List.length_map]
theorem own_snocS {W : World} {base : Nat} {v : Value} {l : List Sol} {x : Sol} (h : W.ownsRow base 64 8 v (l.length + 1) ((l.map solL).flatten ++ solL x)) : OwnS W base v (l ++ [x]) := by
 unfold OwnS
 rw [List.length_append, List.map_append, List.flatten_append]
 simpa using h
end Go.Proofs.YtlbhjikkpbknnaaGreatDoor
end
section
namespace Go.Proofs.YtlbhjikkpbknnaaGreatDoor
open Go Go.RowKit Go.Rel Go.Draw
set_option maxRecDepth 100000
/-! slices.Clone and slices.Delete on solids -/
theorem flat_get {size : Nat} : ∀ (ls : List (List Value)) (m : Nat) (u : Value), (∀ r ∈ ls, r.length = size) → (ls.flatten)[m]? = some u → ∃ i j, m = i * size + j ∧ (ls[i]?).bind (·[j]?) = some u
 | [], m, u, _, h => by simp at h
 | r :: rest, m, u, hr, h => by
  have hrl : r.length = size := hr r (by simp)
  simp only [List.flatten_cons] at h
  by_cases hm : m < r.length
  ·rw [List.getElem?_append_left hm] at h
   exact ⟨0, m, by omega, by simpa using h⟩
  ·rw [List.getElem?_append_right (by omega)] at h
   obtain ⟨i, j, e, h'⟩ := flat_get rest _ u (fun r' h' => hr r' (by simp [h'])) h
   exact ⟨i + 1, j, by rw [Nat.add_mul]; omega, by simpa using h'⟩
theorem Cells.flat {w : World} {b off size : Nat} {ls : List (List Value)} (h : Cells w b off size ls) (hs : ∀ r ∈ ls, r.length = size) : ∀ m u, (ls.flatten)[m]? = some u → w.cell? ((⟨b, off, none⟩ : Addr).add m) = some u := by
 intro m u hu
 obtain ⟨i, j, rfl, h'⟩ := flat_get ls m u hs hu
 have hadd : (⟨b, off, none⟩ : Addr).add (i * size + j) = ⟨b, off + i * size + j, none⟩ := by rw [Addr.add_lit, Nat.add_assoc]
 rw [hadd]
 exact h.2 i j u h'
theorem flat_len {size : Nat} : ∀ (ls : List (List Value)), (∀ r ∈ ls, r.length = size) → ls.flatten.length = ls.length * size
 | [], _ => by simp
 | r :: rest, h => by
  simp only [List.flatten_cons, List.length_append, List.length_cons]
  rw [flat_len rest (fun r' h' => h r' (by simp [h'])), h r (by simp), Nat.add_mul]; omega
set_option maxHeartbeats 2000000 in
theorem cloneSol (v : Value) (ls : List (List Value)) (w : World) (h : Sl w 8 v ls) (hs : ∀ r ∈ ls, r.length = 8) (hone : ∀ u ∈ ls.flatten, u.oneCell' = true) (hm : ls.length ≤ 1048576) :
  Calls Tryz.prog 109 #[v] w fun e w' => ∃ u, e = .returned u ∧ w'.ownsRow w.heap.size 64 8 u ls.length ls.flatten ∧ Below w.heap.size w w' := by
 obtain ⟨a, c, rfl, hc, hcm, hcells⟩ := h
 have hlen := flat_len ls hs
 obtain ⟨i0, hi, hz0, hz1, hz2⟩ := info_parts infoSolid
 have HI0 := Lib.hid (And.intro hi (And.intro hz0 (And.intro hz1 hz2))); clear hi hz0 hz1 hz2
 have heq := fun w => Lib.run_eql_slice_nil (P := Tryz.prog) w 22 64 a ls.length c 0 0 Tryz.underlying22
 cases a with
 | none =>
  have hl : ls = [] := by
   rcases hcells with h | ⟨b, off, h, _⟩
   ·exact h
   ·cases h
  subst hl
  clear hcells
  simp only [List.length_nil] at heq ⊢
  go_enter Tryz.func109, Tryz.ntmps109
  go_wp2_with fail
  go_ret
  exact ⟨_, rfl, World.ownsRow_nil _ _ _ _, Below.refl _ _⟩
 | some ad =>
  have hn : ∀ j u, (ls.flatten)[j]? = some u → (w.alloc (.cells #[] 64)).cell? (ad.add j) = some u := by
   rcases hcells with h | ⟨b, off, h, hcs⟩
   ·subst h; intro j u hu; simp at hu
   ·cases h
    exact (hcs.mono (bel_alloc (bel_refl w) _) hcs.1).flat hs
  have HN := Lib.hid hn; clear hn hcells
  have HL := Lib.hid hlen; clear hlen
  have HO := Lib.hid hone; clear hone hs
  generalize ls.flatten = fl at *
  generalize ls.length = n at *
  go_enter Tryz.func109, Tryz.ntmps109
  go_wp2_with (first
   | (at_builtin; refine wpList_append_own _ rfl _ _ 22 rfl w.heap.size 64 i0 (.agg #[.int .u64 0, .int .u64 0, .int .u64 0, .int .u64 0, .int .u64 0, .int .u64 0, .int .u64 0, .int .u64 0]) 8 64 Tryz.underlying22 HI0.out.1 HI0.out.2.1 HI0.out.2.2.1 HI0.out.2.2.2 rfl (by decide) _ 0 [] rfl (World.ownsRow_made w #[] 0 (Nat.le_refl _) (by unfold maxLen; omega) (by simp)) ad n c fl rfl HL.out HN.out HO.out (by unfold maxLen; omega) (by omega) (by simp) ?_; intro v' w3 hown' hgrow3 hnil3))
  have hO : w3.ownsRow w.heap.size 64 8 v' n fl := by simpa using hown'
  have hB : Below w.heap.size w w3 := (bel_alloc (bel_refl w) _).grown hgrow3 (by simp) (fun j hj => by cases hj; exact Nat.le_refl _)
  have HH := Lib.hid (And.intro hO hB); clear hO hB hown' hgrow3 hnil3
  go_wp2_with fail
  go_ret
  exact ⟨_, rfl, HH.out.1, HH.out.2⟩
theorem one_sol {l : List Sol} : ∀ u ∈ (l.map solL).flatten, u.oneCell' = true := by
 intro u hu
 obtain ⟨r, hr, hu⟩ := List.mem_flatten.1 hu
 obtain ⟨x, _, rfl⟩ := List.mem_map.1 hr
 simp at hu
 rcases hu with rfl | rfl | rfl | rfl | rfl | rfl | rfl | rfl <;> rfl
theorem CloneSol_spec (v : Value) (l : List Sol) (w : World) (h : SlS w v l) (hm : l.length ≤ 1048576) :
  Calls Tryz.prog 109 #[v] w fun e w' => ∃ u, e = .returned u ∧ OwnS w' w.heap.size u l ∧ Below w.heap.size w w' := by
 have := cloneSol v (l.map solL) w h (fun r hr => by obtain ⟨i, _, rfl⟩ := List.mem_map.1 hr; rfl) one_sol (by simpa using hm)
 rwa [List.length_map] at this
def spl (cur : Array Value) (o : Nat) (vs : List Value) : Array Value := (cur.toList.take o ++ vs ++ cur.toList.drop (o + vs.length)).toArray
theorem spl_size {cur : Array Value} {o : Nat} {vs : List Value} (h : o + vs.length ≤ cur.size) : (spl cur o vs).size = cur.size := by
 unfold spl; simp; omega
theorem flat_len10 {k : Nat} {α : Type} (row : α → List Value) (hk : ∀ a, (row a).length = k) : ∀ m : List α, ((m.map row).flatten).length = m.length * k
 | [] => by simp
 | y :: m => by simp [flat_len10 row hk m, hk y, Nat.add_mul]; omega
theorem zeroCells_len (z : Array Value) (n : Nat) : (Builtin.zeroCells z n).toList.length = n * z.size := by simp [Builtin.zeroCells]
theorem zeroCells_one {z : Array Value} (h : ∀ v ∈ z.toList, v.oneCell' = true) (n : Nat) : ∀ v ∈ (Builtin.zeroCells z n).toList, v.oneCell' = true := by
 intro v hv
 obtain ⟨i, hi, rfl⟩ := List.mem_iff_getElem.1 hv
 rw [zeroCells_len] at hi
 have h0 : 0 < z.size := by
  rcases Nat.eq_zero_or_pos z.size with h | h
  ·rw [h] at hi; simp at hi
  ·exact h
 have hm : i % z.size < z.size := Nat.mod_lt _ h0
 simp only [Builtin.zeroCells, Array.getElem_toList, Array.getElem_ofFn]
 refine h _ ?_
 simp [Array.getD, hm]
theorem run_clear_rows {P : Program} (w : World) (t e ty : TypeId) (z : Value) (ht : P.underlying t = some (.slice e)) (hv : ∀ w, (zeroValue e).run P w = .ok z w) (h1 : ∀ v ∈ z.cells.toList, v.oneCell' = true) (g o n c : Nat) (hn : 0 < n)
  (cur : Array Value) (tt : TypeId) (hg : w.heap[g]? = some (.cells cur tt (0, 0))) (hfit : o + n * z.cells.size ≤ cur.size) :
  (Builtin.clear_ #[t] ty #[.slice (some ⟨g, o, none⟩) n c]).run P w = .ok (.tuple #[]) (w.setRow g (spl cur o (Builtin.zeroCells z.cells n).toList)) := by
 have hst := run_storeCells_at (P := P) g o tt (Builtin.zeroCells z.cells n).toList 0 cur w hg (by rw [zeroCells_len]; simpa using hfit) (zeroCells_one h1 n)
 simp only [Nat.add_zero] at hst
 obtain ⟨m, rfl⟩ : ∃ m, n = m + 1 := ⟨n - 1, by omega⟩
 simp [Builtin.clear_, run_underlying ht, hv, hst, spl]
theorem spl_lo {cur : Array Value} {o : Nat} {vs : List Value} (hf : o + vs.length ≤ cur.size) : (spl cur o vs).toList.take (o + vs.length) = cur.toList.take o ++ vs := by
 unfold spl
 have hl : (cur.toList.take o ++ vs).length = o + vs.length := by rw [List.length_append, List.length_take, Array.length_toList]; omega
 show (cur.toList.take o ++ vs ++ cur.toList.drop (o + vs.length)).take (o + vs.length) = _
 rw [← hl, List.take_left]
theorem spl_take_lo {cur : Array Value} {o k : Nat} {vs : List Value} (hk : k ≤ o) (ho : o ≤ cur.size) : (spl cur o vs).toList.take k = cur.toList.take k := by
 unfold spl
 show (cur.toList.take o ++ vs ++ cur.toList.drop (o + vs.length)).take k = _
 rw [List.append_assoc, List.take_append_of_le_length (by rw [List.length_take, Array.length_toList]; omega), List.take_take, Nat.min_eq_left hk]
@[irreducible] def VSl (x v : Value) (_ : World) : Prop := v = x
theorem VSl.stab {x : Value} {R : World → World → Prop} (v : Value) (W W' : World) (h : VSl x v W) (_ : R W W') : VSl x v W' := by unfold VSl at *; exact h
def dropL (m : List Sol) (i : Nat) : List Sol := m.take i ++ m.drop (i + 1)
theorem dropL_len {m : List Sol} {i : Nat} (h : i < m.length) : (dropL m i).length = m.length - 1 := by
 unfold dropL
 rw [List.length_append, List.length_take, List.length_drop]
 omega
structure OwnQ (W : World) (base : Nat) (m : List Sol) (g cap : Nat) (cur : Array Value) : Prop where
 base : base ≤ g
 blk : Blk W g cur 64
 le : m.length ≤ cap
 lim : cap ≤ maxLen
 size : cur.size = cap * 8
 rows : cur.toList.take (m.length * 8) = (m.map solL).flatten
theorem OwnS.opn {W : World} {base : Nat} {v : Value} {m : List Sol} (h : OwnS W base v m) (h0 : m ≠ []) : ∃ g cap cur, v = .slice (some ⟨g, 0, none⟩) m.length cap ∧ OwnQ W base m g cap cur := by
 obtain ⟨_, h | ⟨g, cap, cur, hv, hg, hh, hr⟩⟩ := h
 ·exact absurd (List.eq_nil_of_length_eq_zero h.2) h0
 ·exact ⟨g, cap, cur, hv, hg, hh, hr.1, hr.2.1, hr.2.2.1, hr.2.2.2⟩
theorem solL_len (a : Sol) : (solL a).length = 8 := rfl
section
variable {W : World} {base g cap : Nat} {m : List Sol} {cur : Array Value}
theorem OwnQ.own (h : OwnQ W base m g cap cur) : OwnS W base (.slice (some ⟨g, 0, none⟩) m.length cap) m :=
 ⟨flat_len10 solL solL_len m, .inr ⟨g, cap, cur, rfl, h.base, h.blk, h.le, h.lim, h.size, h.rows⟩⟩
end
theorem own_len {W : World} {base k cap : Nat} {q : Option Addr} {m : List Sol} (h : OwnS W base (.slice q m.length cap) m) (hk : m.length = k) : OwnS W base (.slice q k cap) m := by
 subst hk; exact h
theorem solFlat_len (l : List Sol) : ((l.map solL).flatten).length = l.length * 8 := flat_len10 solL solL_len l
def delC (cur : Array Value) (m : List Sol) (i : Nat) : Array Value := spl cur (i * 8) (((m.drop (i + 1)).map solL).flatten)
theorem OwnQ.del {W : World} {base g cap : Nat} {m : List Sol} {cur : Array Value} (h : OwnQ W base m g cap cur) {i : Nat} (hi : i < m.length) : OwnQ (W.setRow g (delC cur m i)) base (dropL m i) g cap (delC cur m i) := by
 have hle := h.le
 have hl : (((m.drop (i + 1)).map solL).flatten).length = (m.length - (i + 1)) * 8 := by rw [solFlat_len, List.length_drop]
 have hf : i * 8 + (((m.drop (i + 1)).map solL).flatten).length ≤ cur.size := by rw [hl, h.size]; omega
 have hdl := dropL_len hi
 refine ⟨h.base, h.blk.rowS _, by rw [hdl]; omega, h.lim, by unfold delC; rw [spl_size hf]; exact h.size, ?_⟩
 have hlo := spl_lo hf
 unfold delC
 rw [show (dropL m i).length * 8 = i * 8 + (((m.drop (i + 1)).map solL).flatten).length by rw [hdl, hl]; omega, hlo]
 unfold dropL
 rw [List.map_append, List.flatten_append]
 congr 1
 have h3 : (m.map solL).flatten = ((m.take i).map solL).flatten ++ ((m.drop i).map solL).flatten := by rw [← List.flatten_append, ← List.map_append, List.take_append_drop]
 have h4 : (((m.take i).map solL).flatten).length = i * 8 := by rw [solFlat_len, List.length_take]; omega
 have h5 : ((m.take i).map solL).flatten = ((m.map solL).flatten).take (i * 8) := by rw [h3, ← h4, List.take_left]
 rw [h5, ← h.rows, List.take_take, Nat.min_eq_left (by omega)]
theorem OwnQ.grw {W W' : World} {base g cap : Nat} {m : List Sol} {cur : Array Value} (h : OwnQ W base m g cap cur) (hb : Below W.heap.size W W') : OwnQ W' base m g cap cur := ⟨h.base, h.blk.grow hb, h.le, h.lim, h.size, h.rows⟩
theorem del_append {W : World} {base g cap n i : Nat} {m : List Sol} {cur : Array Value} (h : OwnQ W base m g cap cur) (hn : m.length = n) (hi : i < n) :
  (Builtin.append_ #[22, 22] 22 #[.slice (some ⟨g, 0, none⟩) i cap, sliced (some ⟨g, 0, none⟩) (i + 1) n cap 8]).run Tryz.prog W = .ok (.slice (some ⟨g, 0, none⟩) (i + (n - (i + 1))) cap) (W.setRow g (delC cur m i)) := by
 obtain ⟨i0, hi0, hz0, hz1, hz2⟩ := info_parts infoSolid
 have hle := h.le
 have hl : (((m.drop (i + 1)).map solL).flatten).length = (n - (i + 1)) * 8 := by rw [solFlat_len, List.length_drop, hn]
 have hfit : i * i0.size + (((m.drop (i + 1)).map solL).flatten).length ≤ cur.size := by rw [hl, h.size, hz1]; omega
 have key : ∃ a c', sliced (some ⟨g, 0, none⟩) (i + 1) n cap 8 = .slice (some a) (n - (i + 1)) c' ∧ ∀ j u, (((m.drop (i + 1)).map solL).flatten)[j]? = some u → W.cell? (a.add j) = some u := by
  unfold sliced
  by_cases hc : cap = i + 1
  ·have hz : n - (i + 1) = 0 := by omega
   have hd : m.drop (i + 1) = [] := List.drop_eq_nil_of_le (by omega)
   refine ⟨⟨g, 0, none⟩, cap - (i + 1), by simp [hc], fun j u hu => ?_⟩
   rw [hd] at hu; simp at hu
  ·refine ⟨⟨g, (i + 1) * 8, none⟩, cap - (i + 1), by simp [hc, Go.WideShapes.add_plain, show ¬ (cap - (i + 1) = 0) by omega], fun j u hu => ?_⟩
   rw [Go.WideShapes.add_plain, h.blk.cell]
   have h3 : (m.map solL).flatten = ((m.take (i + 1)).map solL).flatten ++ ((m.drop (i + 1)).map solL).flatten := by rw [← List.flatten_append, ← List.map_append, List.take_append_drop]
   have h4 : (((m.take (i + 1)).map solL).flatten).length = (i + 1) * 8 := by rw [solFlat_len, List.length_take]; omega
   have h5 : ((m.map solL).flatten)[(i + 1) * 8 + j]? = some u := by rw [h3, List.getElem?_append_right (by omega), h4, Nat.add_sub_cancel_left]; exact hu
   rw [← h.rows, List.getElem?_take] at h5
   split at h5
   ·simpa using h5
   ·cases h5
 obtain ⟨a, c', he, hcell⟩ := key
 rw [he]
 have hr := run_append_room (P := Tryz.prog) W 22 22 64 i0 Tryz.underlying22 hi0 g i cap cur h.blk a (n - (i + 1)) c' (((m.drop (i + 1)).map solL).flatten) (by rw [hl, hz1]) hcell one_sol (by omega) hfit
 rw [hr, hz1]
 rfl
theorem OwnQ.clear {W : World} {base g cap : Nat} {m : List Sol} {cur : Array Value} (h : OwnQ W base m g cap cur) {vs : List Value} (hf : m.length * 8 + vs.length ≤ cur.size) : OwnQ (W.setRow g (spl cur (m.length * 8) vs)) base m g cap (spl cur (m.length * 8) vs) :=
 ⟨h.base, h.blk.rowS _, h.le, h.lim, by rw [spl_size hf]; exact h.size, by rw [spl_take_lo (Nat.le_refl _) (by omega)]; exact h.rows⟩
def JD (base g cap : Nat) (m : List Sol) (i : Nat) (cur : Array Value) (a : Bool) (W : World) : Prop := (a = false → OwnQ W base m g cap cur) ∧ (a = true → OwnQ W base (dropL m i) g cap (delC cur m i))
set_option maxHeartbeats 16000000 in
theorem DeleteSol (base n cap g i : Nat) (m : List Sol) (cur : Array Value) (w : World) (OB : OwnQ w base m g cap cur) (hn : m.length = n) (hi : i < n) (h60 : n ≤ 1048576) :
  Calls Tryz.prog 108 #[.slice (some ⟨g, 0, none⟩) n cap, .int .i64 (i : Int), .int .i64 (i + 1 : Int)] w fun e w' => ∃ u, e = .returned u ∧ OwnS w' base u (dropL m i) ∧ Below base w w' := by
 have HOB := Lib.hid OB
 have HN := Lib.hid hn
 have hnc : n ≤ cap := by rw [← hn]; exact OB.le
 have hcM : cap ≤ 9223372036854775807 := by have := OB.lim; unfold maxLen at this; omega
 have hbg := OB.base
 clear OB hn
 have hik : (i : Int) + 1 ≤ (n : Int) := by omega
 have h0i : (0 : Int) ≤ (i : Int) + 1 := by omega
 have hne : ((i : Int) == (i : Int) + 1) = false := by simp; omega
 go_enter Tryz.func108, Tryz.ntmps108
 go_wp2_with fail
 refine wp_region_val (Below base) (fun L vs W => JD base g cap m i cur (L 6) W) [Is (.slice (some ⟨g, 0, none⟩) n cap), Is (.int .i64 (i : Int)), Is (.slice (some ⟨g, 0, none⟩) i cap), Is (.slice (some ⟨g, 0, none⟩) n cap), Is (.int .i64 (i + 1 : Int)), VSl (sliced (some ⟨g, 0, none⟩) (i + 1) n cap 8), Is (.slice (some ⟨g, 0, none⟩) (i + (n - (i + 1))) cap), Is (.slice (some ⟨g, 0, none⟩) (i + (n - (i + 1))) cap)] (by kernel_rfl) (by kernel_rfl) rfl (Below.refl base) (fun _ _ _ => Below.trans) (stable_mem ⟨fun _ _ _ h _ => h, fun _ _ _ h _ => h, fun _ _ _ h _ => h, fun _ _ _ h _ => h, fun _ _ _ h _ => h, VSl.stab, fun _ _ _ h _ => h, fun _ _ _ h _ => h, trivial⟩) w (Below.drew (Below.refl _ _)) (⟨(fun _ => HOB.out.grw (bel_drew (bel_refl _))), (fun e => by cases e)⟩) ?_
 iterate 2 (refine val_cons ?_ (fun _ => ?_); · intro L vs w1 hvs hat hb hI hF; (try simp [factsI, Region.binds, Is] at hF); go_simp; (first | exact Below.refl _ _ | exact ⟨Below.refl _ _, hI⟩))
 refine val_cons ?_ (fun v2 => ?_)
 ·intro L vs w1 hvs hat hb hI hF; try simp [factsI, Region.binds, Is] at hF
  have hic : i ≤ cap := by omega
  go_simp
  first | exact Below.refl _ _ | exact ⟨Below.refl _ _, hI⟩
 iterate 2 (refine val_cons ?_ (fun _ => ?_); · intro L vs w1 hvs hat hb hI hF; (try simp [factsI, Region.binds, Is] at hF); go_simp; (first | exact Below.refl _ _ | exact ⟨Below.refl _ _, hI⟩))
 refine val_cons ?_ (fun v5 => ?_)
 ·intro L vs w1 hvs hat hb hI hF; try simp [factsI, Region.binds, Is] at hF
  go_simp
  first | exact ⟨Below.refl _ _, hI, (by unfold VSl; rfl)⟩ | (refine ⟨Below.refl _ _, ?_⟩; unfold VSl; rfl)
 refine val_cons ?_ (fun v6 => ?_)
 ·intro L vs w1 hvs hat hb hI hF; try simp [factsI, Region.binds, Is] at hF
  have h6 := hat.self
  have hv5 : v5 = sliced (some ⟨g, 0, none⟩) (i + 1) n cap 8 := by have := hF.2; unfold VSl at this; exact this
  have OB := hI.1 h6
  have hr := del_append OB HN.out hi
  subst hv5
  refine step_append (v := .slice (some ⟨g, 0, none⟩) i cap) (v7 := sliced (some ⟨g, 0, none⟩) (i + 1) n cap 8) rfl rfl ?_ ?_ hr ?_
  ·have h2 := hF.1
   subst h2
   go_simp
  ·go_simp
  simp [upd]
  exact ⟨blw_row (Below.refl _ _) hbg _, (fun e => by cases e), fun _ => OB.del (by rw [HN.out]; exact hi)⟩
 refine val_cons ?_ (fun v7 => ?_)
 ·intro L vs w1 hvs hat hb hI hF; try simp [factsI, Region.binds, Is] at hF
  go_simp
  first | exact Below.refl _ _ | exact ⟨Below.refl _ _, hI⟩ | skip
 refine val_nil ?_
 intro vs w1 hvs hb hI hF
 simp [Is, Nat.forall_lt_succ_right] at hF
 have e0 := hF.1.1.1.1.1.1.1
 have e1 := hF.1.1.1.1.1.1.2
 have e2 := hF.1.1.1.1.1.2
 have e3 := hF.1.1.1.1.2
 have e4 := hF.1.1.1.2
 have e5 := hF.1.1.2
 have e6 := hF.1.2
 have e7 := hF.2
 clear hF
 simp only [Act.put, List.setIfInBounds_toArray, List.set_cons_succ, List.set_cons_zero, e0, e1, e2, e3, e4, e6, e7]
 clear e0 e1 e2 e3 e4 e6 e7
 have OB := Lib.hid (hI.2 rfl)
 clear hvs hI e5
 have hlen : (dropL m i).length = i + (n - (i + 1)) := by rw [dropL_len (by rw [HN.out]; exact hi), HN.out]; omega
 have hcs := OB.out.size
 have hzl : (Builtin.zeroCells (Value.agg #[.int .u64 0, .int .u64 0, .int .u64 0, .int .u64 0, .int .u64 0, .int .u64 0, .int .u64 0, .int .u64 0]).cells (n - (i + (n - (i + 1))))).toList.length = (n - (i + (n - (i + 1)))) * 8 := by rw [zeroCells_len]; rfl
 have hr := run_clear_rows (P := Tryz.prog) w1 22 64 0 (.agg #[.int .u64 0, .int .u64 0, .int .u64 0, .int .u64 0, .int .u64 0, .int .u64 0, .int .u64 0, .int .u64 0]) Tryz.underlying22 (fun _ => Tryz.zeroValue64 _) (by decide) g ((i + (n - (i + 1))) * 8) (n - (i + (n - (i + 1)))) (cap - (i + (n - (i + 1)))) (by omega) (delC cur m i) 64 OB.out.blk (by rw [hcs]; show _ + (n - (i + (n - (i + 1)))) * 8 ≤ _; omega)
 go_wp2_with fail
 refine bodyPost_ret (v := .slice (some ⟨g, 0, none⟩) (i + (n - (i + 1))) cap) (by simp [results, Tryz.results108, go_sem]) rfl ⟨_, rfl, ?_, hb.trans (blw_row (Below.refl _ _) hbg _)⟩
 have h2 := OB.out.clear (vs := (Builtin.zeroCells (Value.agg #[.int .u64 0, .int .u64 0, .int .u64 0, .int .u64 0, .int .u64 0, .int .u64 0, .int .u64 0, .int .u64 0]).cells (n - (i + (n - (i + 1))))).toList) (by rw [hzl, hlen, hcs]; omega)
 rw [hlen] at h2
 exact own_len h2.own hlen
end Go.Proofs.YtlbhjikkpbknnaaGreatDoor
end
