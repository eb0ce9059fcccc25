import Derived.Test.YtmngjhfhpldifaaDoorG21
/-
  Given contracts of functions of the program, and laws for them, one behind the other.
-/
set_option linter.unusedVariables false
set_option linter.unusedSimpArgs false
set_option linter.unusedSectionVars false
section
namespace Go.Proofs.YtmngjhfhpldifaaDoor
open Go.RowKit Go.Rel Go.Draw
set_option maxRecDepth 100000
/-! DrawRounds -/
theorem contains_intsL (l : List Nat) {x : Int} (hx : 0 ≤ x) : (intsL l).contains x = l.contains x.toNat := by
 unfold intsL
 rw [Bool.eq_iff_iff, List.contains_iff_mem, List.contains_iff_mem, List.mem_map]
 constructor
 ·rintro ⟨a, ha, rfl⟩; simpa using ha
 ·intro h; exact ⟨x.toNat, h, Int.toNat_of_nonneg hx⟩
theorem countP_take {α : Type} (p : α → Bool) {l : List α} {k : Nat} {x : α} (hx : l[k]? = some x) : (l.take (k + 1)).countP p = (l.take k).countP p + if p x then 1 else 0 := by
 rw [List.take_add_one, hx, List.countP_append]
 congr 1
 simp [List.countP_cons]
theorem sll_cell {w : World} {v : Value} {ls : List (List Int)} (h : SlLL w v ls) : ∃ b c, v = .slice b ls.length c ∧ ls.length ≤ 9223372036854775807 ∧ ∀ (k : Nat) (x : List Int), ls[k]? = some x → ∃ ib io u, b = some ⟨ib, io, none⟩ ∧ ib < w.heap.size ∧ w.cell? ⟨ib, io + k, none⟩ = some u ∧ SlI w u x := by
 obtain ⟨us, h1, h2, h3⟩ := h
 rcases h1.cases with ⟨hz, a, c, rfl, hc⟩ | ⟨ib, io, c, hv, hq1, hq2, _, hcs⟩
 ·have hu : us = [] := by simpa using hz
  have hl : ls = [] := List.eq_nil_of_length_eq_zero (by rw [← h2, hu]; rfl)
  subst hl
  exact ⟨_, _, rfl, by simp, fun k x hx => by simp at hx⟩
 ·rw [List.length_map] at hv
  have hq1 : us.length ≤ c := by simpa using hq1
  refine ⟨_, _, by rw [hv, h2], by omega, fun k x hx => ?_⟩
  obtain ⟨hk, _⟩ := List.getElem?_eq_some_iff.1 hx
  have hu : us[k]? = some (us[k]'(by omega)) := List.getElem?_eq_getElem _
  refine ⟨ib, io, us[k]'(by omega), rfl, hcs.1, ?_, h3 k _ x hu hx⟩
  have := hcs.2 k 0 (us[k]'(by omega)) (by rw [List.getElem?_map, hu]; rfl)
  simpa using this
theorem few_bad {n : Nat} {most : Int} (h : ¬ ((n : Int) ≤ most ∨ 12 < n ∧ n ≤ 15)) : (decide ((n : Int) ≤ most) || (decide (12 < n) && decide (n ≤ 15))) = false := by
 simp only [Bool.or_eq_false_iff, Bool.and_eq_false_iff, decide_eq_false_iff_not]
 omega
theorem few_ok {n : Nat} {most : Int} (h : (n : Int) ≤ most ∨ 12 < n ∧ n ≤ 15) : (decide ((n : Int) ≤ most) || (decide (12 < n) && decide (n ≤ 15))) = true := by
 simp only [Bool.or_eq_true, Bool.and_eq_true, decide_eq_true_eq]
 exact h
set_option maxHeartbeats 16000000 in
theorem DrawRounds_walk {W : World} {v lv : Value} {m : List Sol} {ls : List MvI} (H : SlS W v m) (HL : SlX W lv ls) (hT : Tab W) : Calls Tryd.prog 7 #[v, lv] W fun e w' => e = .returned (.bool true) ∧ Below W.heap.size W w' := by
 have HF := Lib.hid (few_spec 12 H)
 obtain ⟨b2, c2, rfl, hmx, hcl⟩ := mvs_open HL
 have HH := Lib.hid (And.intro H (And.intro HL (And.intro hT hcl)))
 clear H HL hT hcl
 by_cases hfew : (m.length : Int) ≤ 12 ∨ 12 < m.length ∧ m.length ≤ 15
 ·rw [few_ok hfew] at HF
  by_cases hlen : ls.length ≤ 20
  ·have hln : ¬ (20 < (ls.length : Int)) := by omega
   have hld : decide (20 < (ls.length : Int)) = false := decide_eq_false hln
   have HC := Lib.hid (cast_spec HH.out.2.2.1)
   clear hfew
   go_enter Tryd.func7, Tryd.ntmps7
   go_wp2_with fail
   refine HF.out.mono ?_
   rintro e w1 ⟨rfl, hw1⟩
   have hw2 := hw1.symm
   subst hw2
   clear hw1
   go_wp2_with fail
   refine (Rounds_spec HH.out.1 HH.out.2.2.1).mono ?_
   rintro e w2 ⟨hb2, u, rfl, hR⟩
   have H2 := Lib.hid (And.intro hb2 hR); clear hb2 hR
   go_wp2_with fail
   refine (CheckOrder_spec (HH.out.1.mono H2.out.1) (HH.out.2.1.mono H2.out.1)).mono ?_
   rintro e w3 ⟨hb3, b, rfl, hb1, hb0⟩
   have H3 := Lib.hid (And.intro (bel_trans H2.out.1 hb3) (And.intro hb1 (And.intro hb0 hb3))); clear hb3 hb1 hb0
   by_cases hE : errM m = 0
   ·rw [hE]
    have hbe := H3.out.2.1 hE
    have hRR := H2.out.2 hE
    cases hmade : madeM m ls with
    | none =>
     rw [hmade] at hbe
     replace hbe : b = false := hbe
     subst hbe
     clear hmade hRR hE
     have HC3 := Lib.hid (cast_spec (HH.out.2.2.1.grow H3.out.1))
     go_wp2_with fail
     refine HC3.out.mono ?_
     rintro e w4 ⟨rfl, hb4⟩
     have H4 := Lib.hid hb4; clear hb4
     go_wp2_with fail
     go_ret
     exact ⟨rfl, bel_trans H3.out.1 H4.out⟩
    | some G =>
     rw [hmade] at hbe
     replace hbe : b = true := hbe
     subst hbe
     have hlaw := rounds_law (errM_zero.1 hE).1 hmade
     obtain ⟨R, hRe⟩ : ∃ R, R = (roundsM m).1 := ⟨_, rfl⟩
     rw [← hRe] at hlaw hRR
     have hS := (hRR.sll).up H3.out.2.2.2
     obtain ⟨br, cr, rfl, hrmx, hrc⟩ := sll_cell hS
     rw [List.length_map] at hrmx ⊢
     have HL := Lib.hid (And.intro hlaw hrc)
     clear hmade hRR hE hS hlaw hrc hRe
     go_wp2_with fail
     go_loopw [9] (fun iv wx => ∃ i : Nat, i ≤ ls.length ∧ iv = .int .i64 i ∧ Hid (Below w3.heap.size w3 wx)) (fun iv _ => ls.length - (intOf iv).toNat)
     case atStart => exact ⟨0, Nat.zero_le _, rfl, Lib.hid (Below.refl _ _)⟩
     case round =>
      obtain ⟨i, hi, rfl, HI⟩ := hrel
      by_cases hlt : i < ls.length
      ·obtain ⟨x, hx⟩ : ∃ x, ls[i]? = some x := ⟨_, List.getElem?_eq_getElem hlt⟩
       obtain ⟨hx0, hx1, hx2⟩ := HL.out.1 i x hx
       obtain ⟨ib, io, rfl, lib, hc, _, _⟩ := HH.out.2.2.2 i x hx
       have hdl : decide ((i : Int) < (ls.length : Int)) = true := decide_eq_true (by omega)
       have HX := Lib.hid (And.intro hx0 (And.intro hx1 (And.intro hx2 (And.intro hx (And.intro lib hc)))))
       clear hx0 hx1 hx2 hx lib hc
       go_wp2_with fail
       obtain ⟨wo, hwo⟩ : ∃ wo, wo = wr := ⟨_, rfl⟩
       subst hwo
       go_loopw [10, 11] (fun tv kv wx => ∃ k : Nat, k ≤ R.length ∧ tv = .int .i64 ((R.take k).countP (fun r => r.contains x.1.toNat) : Nat) ∧ kv = .int .i64 k ∧ Hid (Below w3.heap.size w3 wx)) (fun _ kv _ => R.length - (intOf kv).toNat)
       case atStart => exact ⟨0, Nat.zero_le _, rfl, rfl, HI⟩
       case round =>
        obtain ⟨k, hk, rfl, rfl, HK⟩ := hrel
        obtain ⟨t, ht⟩ : ∃ t, t = (R.take k).countP (fun r => r.contains x.1.toNat) := ⟨_, rfl⟩
        have htl : t ≤ k := by
         rw [ht]
         have h1 := List.countP_le_length (p := fun r : List Nat => r.contains x.1.toNat) (l := R.take k)
         rw [List.length_take] at h1
         omega
        rw [← ht]
        have HT := Lib.hid ht; clear ht
        by_cases hkl : k < R.length
        ·obtain ⟨r, hr⟩ : ∃ r, R[k]? = some r := ⟨_, List.getElem?_eq_getElem hkl⟩
         obtain ⟨jb, jo, u, rfl, ljb, hju, hSu⟩ := HL.out.2 k (intsL r) (by rw [List.getElem?_map, hr]; rfl)
         have c1 := (HK.out.cell (p := ⟨jb, jo + k, none⟩) ljb).trans hju
         have l1 : jb < wr.heap.size := Nat.lt_of_lt_of_le ljb HK.out.size
         have c2 := ((bel_trans H3.out.1 HK.out).cell (p := ⟨ib, io + i * 3, none⟩) HX.out.2.2.2.2.1).trans HX.out.2.2.2.2.2
         have l2 : ib < wr.heap.size := Nat.lt_of_lt_of_le HX.out.2.2.2.2.1 (bel_trans H3.out.1 HK.out).size
         have hin := fun W' (hb : Below w3.heap.size w3 W') => In_spec x.1 (Sl.mono hSu hb)
         have HIN := Lib.hid hin
         have HR := Lib.hid hr
         have hkd : Below w3.heap.size w3 wr.drew := bel_drew HK.out
         have HKD' := Lib.hid hkd
         clear hr hju hSu hin ljb hkd
         go_wp2_with fail
         refine Go.Rel.region_still_tail 9 (by kernel_rfl) (by kernel_rfl) ?_
         simp only [List.take_succ_cons, List.take_zero, List.drop_succ_cons, List.drop_zero]
         iterate 9 (with_reducible refine wpStill_yes (by kernel_rfl) (fun K hK => ?_); go_simp; refine hK _ ?_; clear hK K)
         refine wpStill_nil ?_
         go_wp2_with fail
         refine (HIN.out _ HKD'.out).mono ?_
         rintro e w5 ⟨rfl, hw5⟩
         have hw6 := hw5.symm
         subst hw6
         clear hw5
         cases hcn : (intsL r).contains x.1
         ·have hcn' := hcn
          rw [contains_intsL r HX.out.1] at hcn'
          have HC1 := Lib.hid hcn'; clear hcn hcn'
          go_wp2_with fail
          refine ⟨⟨k + 1, by omega, ?_, by simp, Lib.hid HKD'.out⟩, by simp [intOf]; omega⟩
          rw [countP_take _ HR.out, HC1.out, ← HT.out]; simp
         ·have hcn' := hcn
          rw [contains_intsL r HX.out.1] at hcn'
          have hki := HX.out.2.2.1 k r HR.out hcn'
          have hni : ¬ ((i : Int) < (k : Int)) := by omega
          have HC1 := Lib.hid hcn'; clear hcn hcn'
          go_wp2_with fail
          refine ⟨⟨k + 1, by omega, ?_, by simp, Lib.hid HKD'.out⟩, by simp [intOf]; omega⟩
          rw [countP_take _ HR.out, HC1.out, ← HT.out]; simp
        ·obtain rfl : k = R.length := by omega
         have ht1 : t = 1 := by rw [HT.out, List.take_length]; exact HX.out.2.1
         subst ht1
         go_wp2_with fail
         exact ⟨⟨i + 1, by omega, by simp, HK⟩, by simp [intOf]; omega⟩
      ·obtain rfl : i = ls.length := by omega
       have HC4 := Lib.hid (cast_spec (HH.out.2.2.1.grow (bel_trans H3.out.1 HI.out)))
       go_wp2_with fail
       refine HC4.out.mono ?_
       rintro e w5 ⟨rfl, hb5⟩
       have H5 := Lib.hid hb5; clear hb5
       go_wp2_with fail
       go_ret
       exact ⟨rfl, bel_trans H3.out.1 (bel_trans HI.out H5.out)⟩
   ·have e0 : (errM m != 0) = true := by simpa using hE
    have hbe := H3.out.2.2.1 hE
    subst hbe
    have HC3 := Lib.hid (cast_spec (HH.out.2.2.1.grow H3.out.1))
    clear hE
    go_wp2_with fail
    refine HC3.out.mono ?_
    rintro e w4 ⟨rfl, hb4⟩
    have H4 := Lib.hid hb4; clear hb4
    go_wp2_with fail
    go_ret
    exact ⟨ret_bool (by simp), bel_trans H3.out.1 H4.out⟩
  ·have hln : 20 < (ls.length : Int) := by omega
   have hld : decide (20 < (ls.length : Int)) = true := decide_eq_true hln
   have HC := Lib.hid (cast_spec HH.out.2.2.1)
   clear hfew
   go_enter Tryd.func7, Tryd.ntmps7
   go_wp2_with fail
   refine HF.out.mono ?_
   rintro e w1 ⟨rfl, hw1⟩
   have hw2 := hw1.symm
   subst hw2
   clear hw1
   go_wp2_with fail
   refine HC.out.mono ?_
   rintro e w4 ⟨rfl, hb4⟩
   have H4 := Lib.hid hb4; clear hb4
   go_wp2_with fail
   go_ret
   exact ⟨rfl, H4.out⟩
 ·rw [few_bad hfew] at HF
  have HC := Lib.hid (cast_spec HH.out.2.2.1)
  clear hfew
  go_enter Tryd.func7, Tryd.ntmps7
  go_wp2_with fail
  refine HF.out.mono ?_
  rintro e w1 ⟨rfl, hw1⟩
  have hw2 := hw1.symm
  subst hw2
  clear hw1
  go_wp2_with fail
  refine HC.out.mono ?_
  rintro e w4 ⟨rfl, hb4⟩
  have H4 := Lib.hid hb4; clear hb4
  go_wp2_with fail
  go_ret
  exact ⟨rfl, H4.out⟩
end Go.Proofs.YtmngjhfhpldifaaDoor
end
section
namespace Go.Proofs.YtmngjhfhpldifaaDoor
open Go.RowKit Go.Rel Go.Draw
set_option maxRecDepth 100000
/-! sets and their lists of numbers -/
theorem intsL_inj {l r : List Nat} (h : intsL l = intsL r) : l = r := by
 unfold intsL at h
 exact List.map_inj_right (fun a b e => Int.ofNat.inj e) |>.1 h
theorem contains_listU (A : U) (i : Nat) : (intsL (listU A)).contains (i : Int) = A.getLsbD i := by
 rw [contains_intsL _ (by omega), Int.toNat_natCast, Bool.eq_iff_iff, List.contains_iff_mem, listU_mem]
theorem listU_top {s : U} {x : Nat} (h : ∀ i : Nat, s.getLsbD i = true → i < x) (hx : x < 64) : listU (s ||| bit x) = listU s ++ [x] := by
 have e : List.range 64 = List.range' 0 x ++ (x :: List.range' (x + 1) (63 - x)) := by
  rw [show x :: List.range' (x + 1) (63 - x) = List.range' x (64 - x) by
   rw [show 64 - x = (63 - x) + 1 by omega, List.range'_succ], List.range_eq_range']
  have := List.range'_append_1 (s := 0) (m := x) (n := 64 - x)
  rw [Nat.zero_add] at this
  rw [this, show x + (64 - x) = 64 by omega]
 unfold listU
 rw [e, List.filter_append, List.filter_append, List.filter_cons, List.filter_cons, or_bit _ _ _ hx]
 have h1 : (List.range' 0 x).filter (fun i => (s ||| bit x).getLsbD i) = (List.range' 0 x).filter fun i => s.getLsbD i := by
  apply List.filter_congr
  intro i hi
  have : i < x := by have := List.mem_range'_1.1 hi; omega
  rw [or_bit _ _ _ hx]; simp; omega
 have h2 : (List.range' (x + 1) (63 - x)).filter (fun i => (s ||| bit x).getLsbD i) = [] := by
  rw [List.filter_eq_nil_iff]
  intro i hi hb
  have hi2 : x < i := by have := List.mem_range'_1.1 hi; omega
  rw [or_bit _ _ _ hx, Bool.or_eq_true] at hb
  rcases hb with hb | hb
  ·have := h i hb; omega
  ·simp at hb; omega
 have h3 : (List.range' (x + 1) (63 - x)).filter (fun i => s.getLsbD i) = [] := by
  rw [List.filter_eq_nil_iff]
  intro i hi hb
  have hi2 : x < i := by have := List.mem_range'_1.1 hi; omega
  have := h i hb; omega
 have h4 : s.getLsbD x = false := by
  cases hb : s.getLsbD x
  ·rfl
  ·have := h x hb; omega
 rw [h1, h2, h3, h4]; simp
theorem setG_list {n : Nat} (hn : n ≤ 12) : ∀ (l : List Int) (pr : Option Int) (s G : U), (∀ i : Nat, s.getLsbD i = true → ∃ y, pr = some y ∧ (i : Int) ≤ y) → setG n pr s l = some G → intsL (listU G) = intsL (listU s) ++ l
 | [], pr, s, G, _, h => by unfold setG at h; cases h; simp
 | x :: l, pr, s, G, hs, h => by
  unfold setG at h
  split at h
  ·rename_i hx
   have hx64 : x.toNat < 64 := by omega
   have htop : ∀ i : Nat, s.getLsbD i = true → i < x.toNat := fun i hi => by
    obtain ⟨y, hy, hle⟩ := hs i hi
    have := hx.2.2 y hy; omega
   rw [setG_list hn l (some x) _ G (fun i hi => ⟨x, rfl, by
    rw [or_bit _ _ _ hx64, Bool.or_eq_true] at hi
    rcases hi with hi | hi
    ·have := htop i hi; omega
    ·simp at hi; omega⟩) h, listU_top htop hx64]
   unfold intsL
   rw [List.map_append, List.append_assoc]
   congr 1
   simp; omega
  ·cases h
theorem setI_list {n : Nat} (hn : n ≤ 12) {l : List Int} {G : U} (h : setI n l = some G) : l = intsL (listU G) := by
 have := setG_list hn l none 0 G (fun i hi => by simp at hi) h
 rw [listU_zero] at this
 exact this.symm
theorem setG_some {n : Nat} : ∀ (l : List Int) (pr : Option Int) (s : U), l.Pairwise (· < ·) → (∀ x ∈ l, 0 ≤ x ∧ x < n) → (∀ y, pr = some y → ∀ x ∈ l, y < x) → (setG n pr s l).isSome = true
 | [], _, _, _, _, _ => rfl
 | x :: l, pr, s, hp, hb, hy => by
  have hpc := List.pairwise_cons.1 hp
  unfold setG
  rw [if_pos ⟨(hb x (by simp)).1, (hb x (by simp)).2, fun y e => hy y e x (by simp)⟩]
  exact setG_some l _ _ hpc.2 (fun z hz => hb z (by simp [hz])) (fun y e z hz => by cases e; exact hpc.1 z hz)
theorem setI_of {n : Nat} (hn : n ≤ 12) {G : U} (hG : Sub G (allU n)) : setI n (intsL (listU G)) = some G := by
 have hsome : (setI n (intsL (listU G))).isSome = true := by
  refine setG_some _ _ _ ?_ (fun x hx => ?_) (fun y e => by cases e)
  ·unfold intsL listU
   rw [List.pairwise_map]
   refine (List.Pairwise.filter _ (List.pairwise_lt_range)).imp fun h => ?_
   exact Int.ofNat_lt.2 h
  ·unfold intsL at hx
   obtain ⟨i, hi, rfl⟩ := List.mem_map.1 hx
   have := hG i ((listU_mem _ _).1 hi)
   rw [allU_bit _ _ (by omega)] at this
   simp at this
   exact ⟨Int.natCast_nonneg i, Int.ofNat_lt.2 this⟩
 obtain ⟨G', h⟩ := Option.isSome_iff_exists.1 hsome
 have := setI_list hn h
 rw [h, listU_inj (intsL_inj this)]
theorem listU_small {A : U} (hA : Sub A (allU 12)) : listU A = (List.range 12).filter fun i => A.getLsbD i := by
 unfold listU
 rw [show List.range 64 = List.range 12 ++ List.range' 12 52 by decide, List.filter_append]
 have : (List.range' 12 52).filter (fun i => A.getLsbD i) = [] := by
  rw [List.filter_eq_nil_iff]
  intro i hi hb
  have h1 := hA i hb
  rw [allU_bit _ _ (by omega)] at h1
  have := List.mem_range'_1.1 hi
  simp at h1; omega
 rw [this, List.append_nil]
theorem sub_all {n : Nat} (hn : n ≤ 12) {A : U} (h : Sub A (allU n)) : Sub A (allU 12) := fun i hi => by
 have := h i hi
 rw [allU_bit _ _ (by omega)] at this ⊢
 simp at this ⊢; omega
theorem unionF_sets {A B : U} (hA : Sub A (allU 12)) (hB : Sub B (allU 12)) : unionF (intsL (listU A)) (intsL (listU B)) 12 = listU (A ||| B) := by
 rw [listU_small (or_sub.2 ⟨hA, hB⟩)]
 unfold unionF
 apply List.filter_congr
 intro i _
 rw [contains_listU, contains_listU, BitVec.getLsbD_or]
theorem all_subB (A s : U) : ((intsL (listU s)).all fun x => (intsL (listU A)).contains x) = subB s A := by
 rw [Bool.eq_iff_iff, List.all_eq_true, subB_iff]
 constructor
 ·intro h i hi
  have := h (i : Int) (by unfold intsL; exact List.mem_map.2 ⟨i, (listU_mem _ _).2 hi, rfl⟩)
  rwa [contains_listU] at this
 ·intro h x hx
  unfold intsL at hx
  obtain ⟨i, hi, rfl⟩ := List.mem_map.1 hx
  show (intsL (listU A)).contains (i : Int) = true
  rw [contains_listU]
  exact h i ((listU_mem _ _).1 hi)
theorem intsL_beq (A B : U) : (intsL (listU A) == intsL (listU B)) = (A == B) := by
 rw [Bool.eq_iff_iff, beq_iff_eq, beq_iff_eq]
 exact ⟨fun h => listU_inj (intsL_inj h), fun h => by rw [h]⟩
end Go.Proofs.YtmngjhfhpldifaaDoor
end
section
namespace Go.Proofs.YtmngjhfhpldifaaDoor
open Go.RowKit Go.Rel Go.Draw
set_option maxRecDepth 100000
/-! DrawUnions -/
theorem askE_set {l : List Sol} {s : List Int} (h : askE l s [] = 0) : l.length ≤ 12 ∧ errM l = 0 ∧ ∃ A, setI l.length s = some A ∧ Sub A (allU l.length) ∧ s = intsL (listU A) := by
 unfold askE at h
 split at h
 ·rename_i h1; exact absurd h h1
 ·rename_i h1
  have h1 : errM l = 0 := by simpa using h1
  have hl := (errM_zero.1 h1).1
  refine ⟨hl, h1, ?_⟩
  cases hs : setI l.length s with
  | none => rw [hs] at h; cases h
  | some A => exact ⟨A, rfl, setI_sub hl hs, setI_list hl hs⟩
theorem askE_of {l : List Sol} {A : U} (h1 : errM l = 0) (hA : Sub A (allU l.length)) : askE l (intsL (listU A)) [] = 0 :=
 askE_zero h1 (setI_of (errM_zero.1 h1).1 hA) rfl
theorem askE_one {l : List Sol} {q : Nat} (h1 : errM l = 0) (hq : q < l.length) : askE l [] [(q : Int)] = 0 := by
 refine askE_zero (G := 0) h1 rfl ?_
 simp only [List.any_cons, List.any_nil, Bool.or_false]
 unfold askF
 simp only [Bool.or_eq_false_iff, decide_eq_false_iff_not]
 refine ⟨⟨by omega, by omega⟩, by simp⟩
theorem lit_two {W : World} {b : Nat} {x y : Value} {l r : List Int} {t : TypeId} (h : Blk W b #[x, y] t) (hx : SlI W x l) (hy : SlI W y r) : SlLL W (.slice (some ⟨b, 0, none⟩) 2 2) [l, r] :=
 lit_lists (us := [x, y]) h (by simp) rfl (fun i u z => by
  match i, u, z with
  | 0, _, _ =>
   intro hu hl
   simp at hu hl
   subst hu hl
   exact hx
  | 1, _, _ =>
   intro hu hl
   simp at hu hl
   subst hu hl
   exact hy
  | (i + 2), _, _ =>
   intro hu hl
   simp at hu)
theorem listU_take_sub {A : U} {i q : Nat} (h : (listU A)[i]? = some q) : A.getLsbD q = true := (listU_mem _ _).1 (List.mem_of_getElem? h)
set_option maxHeartbeats 16000000 in
theorem DrawUnions_walk {W : World} {v av bv : Value} {m : List Sol} {a b : List Int} (H : SlS W v m) (HA : SlI W av a) (HB : SlI W bv b) (hT : Tab W) : Calls Tryd.prog 3 #[v, av, bv] W fun e w' => e = .returned (.bool true) ∧ Below W.heap.size W w' := by
 have HF := Lib.hid (few_spec 6 H)
 obtain ⟨pa, ca, rfl, hma, hca⟩ := ints_open HA
 obtain ⟨pb, cb, rfl, hmb, -⟩ := ints_open HB
 have hb1 : Below W.heap.size W (W.alloc (.cells #[.slice pa a.length ca, .slice pb b.length cb] 23)) := bel_alloc (bel_refl W) _
 have HSh := Lib.hid (short_spec (lit_two (Blk.new W #[.slice pa a.length ca, .slice pb b.length cb] 23) (HA.mono hb1) (HB.mono hb1)))
 have HH := Lib.hid (And.intro H (And.intro HA (And.intro HB (And.intro hT hca))))
 have HC := Lib.hid (cast_spec hT)
 have HC1 := Lib.hid (cast_spec (hT.grow hb1))
 have HB1 := Lib.hid hb1
 clear H HA HB hT hb1 hca
 by_cases hfew : (m.length : Int) ≤ 6 ∨ 12 < m.length ∧ m.length ≤ 15
 ·rw [few_ok hfew] at HF
  clear hfew
  cases hsh : ([a, b].all fun q => decide (q.length ≤ 20))
  ·rw [hsh] at HSh
   clear hsh
   go_enter Tryd.func3, Tryd.ntmps3
   go_wp2_with fail
   refine HF.out.mono ?_
   rintro e w1 ⟨rfl, hw1⟩
   have hw2 := hw1.symm
   subst hw2
   clear hw1
   go_wp2_with fail
   refine HSh.out.mono ?_
   rintro e w1 ⟨rfl, hw1⟩
   subst hw1
   go_wp2_with fail
   refine HC1.out.mono ?_
   rintro e w4 ⟨rfl, hb4⟩
   have H4 := Lib.hid hb4; clear hb4
   go_wp2_with fail
   go_ret
   exact ⟨rfl, bel_trans HB1.out H4.out⟩
  ·rw [hsh] at HSh
   clear hsh
   go_enter Tryd.func3, Tryd.ntmps3
   go_wp2_with fail
   refine HF.out.mono ?_
   rintro e w1 ⟨rfl, hw1⟩
   have hw2 := hw1.symm
   subst hw2
   clear hw1
   go_wp2_with fail
   refine HSh.out.mono ?_
   rintro e w1 ⟨rfl, hw1⟩
   have HB1' : Hid (Below W.heap.size W w1) := Lib.hid (by rw [hw1]; exact HB1.out)
   clear hw1 HB1
   go_wp2_with fail
   refine (First_spec (HH.out.1.mono HB1'.out) (HH.out.2.1.mono HB1'.out) (HH.out.2.2.2.1.grow HB1'.out)).mono ?_
   rintro e w2 ⟨hb2, f1, rfl, h1z, h1n⟩
   have H2 := Lib.hid (And.intro (bel_trans HB1'.out hb2) (And.intro h1z h1n)); clear hb2 h1z h1n
   go_wp2_with fail
   refine (First_spec (HH.out.1.mono H2.out.1) (HH.out.2.2.1.mono H2.out.1) (HH.out.2.2.2.1.grow H2.out.1)).mono ?_
   rintro e w3 ⟨hb3, f2, rfl, h2z, h2n⟩
   have H3 := Lib.hid (And.intro (bel_trans H2.out.1 hb3) (And.intro h2z h2n)); clear hb3 h2z h2n
   have HC3 := Lib.hid (cast_spec (HH.out.2.2.2.1.grow H3.out.1))
   by_cases ha : askE m a [] = 0
   ·by_cases hb : askE m b [] = 0
    ·rw [ha, hb]
     obtain ⟨hm, hE, A, hsA, hA, hae⟩ := askE_set ha
     obtain ⟨_, _, B, hsB, hBs, hbe⟩ := askE_set hb
     obtain ⟨A', hA', rfl⟩ := H2.out.2.1 ha
     obtain ⟨B', hB', rfl⟩ := H3.out.2.1 hb
     have eA : A' = A := Option.some.inj (hA'.symm.trans hsA)
     have eB : B' = B := Option.some.inj (hB'.symm.trans hsB)
     subst eA eB
     have HX := Lib.hid (And.intro hm (And.intro hE (And.intro hA (And.intro hBs (And.intro hae hbe)))))
     have HU := Lib.hid (Union_spec (HH.out.2.1.mono H3.out.1) (HH.out.2.2.1.mono H3.out.1))
     clear ha hb hsA hsB hA' hB' hm hE hA hBs hae hbe
     go_wp2_with fail
     refine HU.out.mono ?_
     rintro e w4 ⟨hb4, o, rfl, ho⟩
     rw [HX.out.2.2.2.2.1, HX.out.2.2.2.2.2, unionF_sets (sub_all HX.out.1 HX.out.2.2.1) (sub_all HX.out.1 HX.out.2.2.2.1)] at ho
     have H4 := Lib.hid (And.intro (bel_trans H3.out.1 hb4) ho); clear hb4 ho
     go_wp2_with fail
     refine (First_spec (HH.out.1.mono H4.out.1) (OwnI.sl H4.out.2) (HH.out.2.2.2.1.grow H4.out.1)).mono ?_
     rintro e w5 ⟨hb5, f3, rfl, h3z, h3n⟩
     have hE3 : askE m (intsL (listU (A' ||| B'))) [] = 0 := askE_of HX.out.2.1 (or_sub.2 ⟨HX.out.2.2.1, HX.out.2.2.2.1⟩)
     obtain ⟨C, hC, rfl⟩ := h3z hE3
     have hCe : C = A' ||| B' := Option.some.inj (hC.symm.trans (setI_of HX.out.1 (or_sub.2 ⟨HX.out.2.2.1, HX.out.2.2.2.1⟩)))
     subst hCe
     rw [hE3]
     have hlaw := unions_law HX.out.1 HX.out.2.2.1 HX.out.2.2.2.1
     have H5 := Lib.hid (And.intro (bel_trans H4.out.1 hb5) hlaw.2)
     have hl1 := hlaw.1
     obtain ⟨x1, hx1⟩ : ∃ x, x = firstM m A' := ⟨_, rfl⟩
     obtain ⟨x2, hx2⟩ : ∃ x, x = firstM m B' := ⟨_, rfl⟩
     obtain ⟨x3, hx3⟩ : ∃ x, x = firstM m (A' ||| B') := ⟨_, rfl⟩
     rw [← hx1, ← hx2, ← hx3] at hl1 ⊢
     have HX1 := Lib.hid hx1
     have hno : (x1 && x2 && !x3) = false := by
      cases x1
      ·rfl
      ·cases x2
       ·rfl
       ·rw [hl1 rfl rfl]; rfl
     clear h3z h3n hE3 hC hlaw hl1 hb5 hx1 hx2 hx3
     have hcs : x1 = false ∨ (x1 = true ∧ x2 = false) ∨ (x1 = true ∧ x2 = true ∧ x3 = true) := by
      revert hno
      cases x1 <;> cases x2 <;> cases x3 <;> simp
     clear hno
     rcases hcs with rfl | ⟨rfl, rfl⟩ | ⟨rfl, rfl, rfl⟩
     all_goals
      go_wp2_with fail
      go_loopw [13, 14] (fun mv iv wx => ∃ (i : Nat) (X : U), i ≤ a.length ∧ iv = .int .i64 i ∧ Hid (X = ((listU A').take i).foldl (madeIn m A') 0 ∧ SlI wx mv (intsL (listU X)) ∧ Below w5.heap.size w5 wx ∧ Sub X (allU m.length))) (fun _ iv _ => a.length - (intOf iv).toNat)
      case atStart => exact ⟨0, 0, Nat.zero_le _, rfl, Lib.hid ⟨rfl, by rw [listU_zero]; exact sl_nil, Below.refl _ _, sub_zero _⟩⟩
      case round =>
       obtain ⟨i, X, hi, rfl, HI⟩ := hrel
       by_cases hlt : i < a.length
       ·have hdl : decide ((i : Int) < (a.length : Int)) = true := decide_eq_true (by omega)
        obtain ⟨q, hq⟩ : ∃ q, (listU A')[i]? = some q := by
         have : i < (listU A').length := by have := HX.out.2.2.2.2.1; rw [this, intsL_length] at hlt; exact hlt
         exact ⟨_, List.getElem?_eq_getElem this⟩
        have hai : a[i]? = some (q : Int) := by
         rw [HX.out.2.2.2.2.1]; unfold intsL; rw [List.getElem?_map, hq]; rfl
        obtain ⟨ib, io, rfl, lib, hcell⟩ := HH.out.2.2.2.2 i _ hai
        have hqA := HX.out.2.2.1 q (listU_take_sub hq)
        have hqm : q < m.length := by
         rw [allU_bit _ _ (by have := HX.out.1; omega)] at hqA
         simpa using hqA
        have hE1 := askE_one HX.out.2.1 hqm
        have hbr := bel_trans H5.out.1 HI.out.2.2.1
        have c1 := (hbr.cell (p := ⟨ib, io + i, none⟩) lib).trans (hcell i _ hai)
        have l1 : ib < wr.heap.size := Nat.lt_of_lt_of_le lib hbr.size
        have HP := Lib.hid (Paths_spec (p := (q : Int)) (HH.out.1.mono hbr) (HH.out.2.2.2.1.grow hbr))
        have HQ := Lib.hid (And.intro hq (And.intro hqm (And.intro hE1 hbr)))
        clear hq hai lib hcell hqA hE1 hbr
        go_wp2_with fail
        refine HP.out.mono ?_
        rintro e w6 ⟨hb6, u, rfl, hu0, -⟩
        rw [HQ.out.2.2.1]
        have hLL := (hu0 HQ.out.2.2.1).sll
        rw [Int.toNat_natCast] at hLL
        obtain ⟨L, hL⟩ : ∃ L, L = pathsM m q := ⟨_, rfl⟩
        rw [← hL] at hLL
        obtain ⟨br, cr, rfl, hrmx, hrc⟩ := sll_cell hLL
        have hXn : L.foldl (fun acc l => if subB l A' then acc ||| l else acc) X = ((listU A').take (i + 1)).foldl (madeIn m A') 0 := by
         rw [List.take_add_one, HQ.out.1]
         simp only [Option.toList_some, List.foldl_append, List.foldl_cons, List.foldl_nil]
         rw [← HI.out.1]
         unfold madeIn
         rw [← hL]
        have hLs : ∀ s ∈ L, Sub s (allU m.length) := fun s hs => by rw [hL] at hs; exact (paths_mem HX.out.1 hs).1
        have H6 := Lib.hid (And.intro (bel_trans HI.out.2.2.1 hb6) (And.intro hrc (And.intro hXn (And.intro hLs (HI.out.2.1.mono hb6)))))
        rw [List.length_map, List.length_map] at hrmx ⊢
        clear hb6 hu0 hLL hrc hXn hLs hL c1 l1
        go_wp2_with fail
        obtain ⟨wo, hwo⟩ : ∃ wo, wo = wr := ⟨_, rfl⟩
        subst hwo
        go_loopw [13, 17] (fun mv kv wx => ∃ (k : Nat) (Y : U), k ≤ L.length ∧ kv = .int .i64 k ∧ Hid ((L.drop k).foldl (fun acc l => if subB l A' then acc ||| l else acc) Y = ((listU A').take (i + 1)).foldl (madeIn m A') 0 ∧ SlI wx mv (intsL (listU Y)) ∧ Below w6.heap.size w6 wx ∧ Sub Y (allU m.length))) (fun _ kv _ => L.length - (intOf kv).toNat)
        case atStart => exact ⟨0, X, Nat.zero_le _, rfl, Lib.hid ⟨H6.out.2.2.1, H6.out.2.2.2.2, Below.refl _ _, HI.out.2.2.2⟩⟩
        case round =>
         obtain ⟨k, Y, hk, rfl, HK⟩ := hrel
         by_cases hkl : k < L.length
         ·have hdk : decide ((k : Int) < (L.length : Int)) = true := decide_eq_true (by omega)
          obtain ⟨s, hs⟩ : ∃ s, L[k]? = some s := ⟨_, List.getElem?_eq_getElem hkl⟩
          obtain ⟨jb, jo, us, rfl, ljb, hju, hSu⟩ := H6.out.2.1 k (intsL (listU s)) (by rw [List.getElem?_map, List.getElem?_map, hs]; rfl)
          have c2 := (HK.out.2.2.1.cell (p := ⟨jb, jo + k, none⟩) ljb).trans hju
          have l2 : jb < wr.heap.size := Nat.lt_of_lt_of_le ljb HK.out.2.2.1.size
          have hbk := bel_trans H6.out.1 HK.out.2.2.1
          have hSa : SlI wr (.slice (some ⟨ib, io, none⟩) a.length ca) (intsL (listU A')) := by
           have := HH.out.2.1.mono (bel_trans H5.out.1 hbk)
           rwa [show a = intsL (listU A') from HX.out.2.2.2.2.1] at this ⊢
          have HCo := Lib.hid (Contains_spec hSa (hSu.mono HK.out.2.2.1))
          rw [all_subB] at HCo
          have hsub := H6.out.2.2.2.1 s (List.mem_of_getElem? hs)
          have HUn := Lib.hid (Union_spec HK.out.2.1 (hSu.mono HK.out.2.2.1))
          rw [unionF_sets (sub_all HX.out.1 HK.out.2.2.2) (sub_all HX.out.1 hsub)] at HUn
          have hst := HK.out.1
          rw [drop_atU hs, List.foldl_cons] at hst
          have HS := Lib.hid (And.intro hst hsub)
          clear hs hju hSu hSa hsub hst ljb
          cases hsb : subB s A'
          ·rw [hsb] at HCo
           have hst := HS.out.1
           rw [hsb] at hst
           have HST := Lib.hid hst; clear hst hsb
           go_wp2_with fail
           refine HCo.out.mono ?_
           rintro e w7 ⟨rfl, hw7⟩
           have hw8 := hw7.symm
           subst hw8
           clear hw7
           go_wp2_with fail
           exact ⟨⟨k + 1, Y, by omega, by simp, Lib.hid ⟨HST.out, HK.out.2⟩⟩, by simp [intOf]; omega⟩
          ·rw [hsb] at HCo
           have hst := HS.out.1
           rw [hsb] at hst
           have HST := Lib.hid hst; clear hst hsb
           go_wp2_with fail
           refine HCo.out.mono ?_
           rintro e w7 ⟨rfl, hw7⟩
           have hw8 := hw7.symm
           subst hw8
           clear hw7
           go_wp2_with fail
           refine HUn.out.mono ?_
           rintro e w7 ⟨hb7, o7, rfl, ho7⟩
           have H7 := Lib.hid (And.intro hb7 ho7); clear hb7 ho7
           go_wp2_with fail
           exact ⟨⟨k + 1, Y ||| s, by omega, by simp, Lib.hid ⟨HST.out, OwnI.sl H7.out.2, bel_trans HK.out.2.2.1 H7.out.1, or_sub.2 ⟨HK.out.2.2.2, HS.out.2⟩⟩⟩, by simp [intOf]; omega⟩
         ·obtain rfl : k = L.length := by omega
          have hst := HK.out.1
          rw [List.drop_length] at hst
          have HST := Lib.hid (show Y = _ from hst); clear hst
          go_wp2_with fail
          exact ⟨⟨i + 1, Y, by omega, by simp, Lib.hid ⟨HST.out, HK.out.2.1, bel_trans H6.out.1 HK.out.2.2.1, HK.out.2.2.2⟩⟩, by simp [intOf]; omega⟩
       ·obtain rfl : i = a.length := by omega
        have hbr := bel_trans H5.out.1 HI.out.2.2.1
        have hXm : X = madeU m A' := by
         have := HI.out.1
         rw [show a.length = (listU A').length by rw [HX.out.2.2.2.2.1, intsL_length], List.take_length] at this
         exact this
        have hfin : (X == A') = _ := (congrArg (fun z => z == A') hXm).trans (H5.out.2.symm.trans HX1.out.symm)
        have HC9 := Lib.hid (cast_spec (HH.out.2.2.2.1.grow hbr))
        have HSI := fun W' (hb : Below wr.heap.size wr W') => SameInts_spec (HI.out.2.1.mono hb) (HH.out.2.1.mono (bel_trans hbr hb))
        have HSL := Lib.hid HSI
        have HFI := Lib.hid (And.intro hfin hbr)
        clear HSI hfin hbr hXm
        go_wp2_with fail
        refine HC9.out.mono ?_
        rintro e w8 ⟨rfl, hb8⟩
        have H8 := Lib.hid hb8; clear hb8
        go_wp2_with fail
        refine (HSL.out w8 H8.out).mono ?_
        rintro e w9 ⟨rfl, hb9⟩
        rw [show (intsL (listU X) == a) = (X == A') by rw [show a = intsL (listU A') from HX.out.2.2.2.2.1, intsL_beq], HFI.out.1]
        have H9 := Lib.hid hb9; clear hb9
        go_wp2_with fail
        go_ret
        exact ⟨rfl, bel_trans HFI.out.2 (bel_trans H8.out H9.out)⟩
    ·have e1 : (askE m a [] != 0) = false := by simp [ha]
     have e2 : (askE m b [] != 0) = true := by simpa using hb
     clear ha hb
     go_wp2_with fail
     refine HC3.out.mono ?_
     rintro e w4 ⟨rfl, hb4⟩
     have H4 := Lib.hid hb4; clear hb4
     go_wp2_with fail
     go_ret
     exact ⟨rfl, bel_trans H3.out.1 H4.out⟩
   ·have e1 : (askE m a [] != 0) = true := by simpa using ha
    clear ha
    go_wp2_with fail
    refine HC3.out.mono ?_
    rintro e w4 ⟨rfl, hb4⟩
    have H4 := Lib.hid hb4; clear hb4
    go_wp2_with fail
    go_ret
    exact ⟨rfl, bel_trans H3.out.1 H4.out⟩
 ·rw [few_bad hfew] at HF
  clear hfew
  go_enter Tryd.func3, Tryd.ntmps3
  go_wp2_with fail
  refine HF.out.mono ?_
  rintro e w1 ⟨rfl, hw1⟩
  have hw2 := hw1.symm
  subst hw2
  clear hw1
  go_wp2_with fail
  refine HC.out.mono ?_
  rintro e w4 ⟨rfl, hb4⟩
  have H4 := Lib.hid hb4; clear hb4
  go_wp2_with fail
  go_ret
  exact ⟨rfl, H4.out⟩
end Go.Proofs.YtmngjhfhpldifaaDoor
end
