import Derived.Test.YtmngjhfhpldifaaDoorG21
/-
  Given contracts of functions of the program, and laws for them, one behind the other.
-/
set_option linter.unusedVariables false
set_option linter.unusedSimpArgs false
set_option linter.unusedSectionVars false
section
namespace Go.Proofs.YtmngjhfhpldifaaDoor
open Go.RowKit Go.Rel Go.Draw
set_option maxRecDepth 100000
/-! DrawRounds -/
theorem contains_intsL (l : List Nat) {x : Int} (hx : 0 ≤ x) : (intsL l).contains x = l.contains x.toNat := by
 unfold intsL
 rw [Bool.eq_iff_iff, List.contains_iff_mem, List.contains_iff_mem, List.mem_map]
 constructor
 ·rintro ⟨a, ha, rfl⟩; simpa using ha
 ·intro h; exact ⟨x.toNat, h, Int.toNat_of_nonneg hx⟩
theorem countP_take {α : Type} (p : α → Bool) {l : List α} {k : Nat} {x : α} (hx : l[k]? = some x) : (l.take (k + 1)).countP p = (l.take k).countP p + if p x then 1 else 0 := by
 rw [List.take_add_one, hx, List.countP_append]
 congr 1
 simp [List.countP_cons]
theorem sll_cell {w : World} {v : Value} {ls : List (List Int)} (h : SlLL w v ls) : ∃ b c, v = .slice b ls.length c ∧ ls.length ≤ 9223372036854775807 ∧ ∀ (k : Nat) (x : List Int), ls[k]? = some x → ∃ ib io u, b = some ⟨ib, io, none⟩ ∧ ib < w.heap.size ∧ w.cell? ⟨ib, io + k, none⟩ = some u ∧ SlI w u x := by
 obtain ⟨us, h1, h2, h3⟩ := h
 rcases h1.cases with ⟨hz, a, c, rfl, hc⟩ | ⟨ib, io, c, hv, hq1, hq2, _, hcs⟩
 ·have hu : us = [] := by simpa using hz
  have hl : ls = [] := List.eq_nil_of_length_eq_zero (by rw [← h2, hu]; rfl)
  subst hl
  exact ⟨_, _, rfl, by simp, fun k x hx => by simp at hx⟩
 ·rw [List.length_map] at hv
  have hq1 : us.length ≤ c := by simpa using hq1
  refine ⟨_, _, by rw [hv, h2], by omega, fun k x hx => ?_⟩
  obtain ⟨hk, _⟩ := List.getElem?_eq_some_iff.1 hx
  have hu : us[k]? = some (us[k]'(by omega)) := List.getElem?_eq_getElem _
  refine ⟨ib, io, us[k]'(by omega), rfl, hcs.1, ?_, h3 k _ x hu hx⟩
  have := hcs.2 k 0 (us[k]'(by omega)) (by rw [List.getElem?_map, hu]; rfl)
  simpa using this
theorem few_bad {n : Nat} {most : Int} (h : ¬ ((n : Int) ≤ most ∨ 12 < n ∧ n ≤ 15)) : (decide ((n : Int) ≤ most) || (decide (12 < n) && decide (n ≤ 15))) = false := by
 simp only [Bool.or_eq_false_iff, Bool.and_eq_false_iff, decide_eq_false_iff_not]
 omega
theorem few_ok {n : Nat} {most : Int} (h : (n : Int) ≤ most ∨ 12 < n ∧ n ≤ 15) : (decide ((n : Int) ≤ most) || (decide (12 < n) && decide (n ≤ 15))) = true := by
 simp only [Bool.or_eq_true, Bool.and_eq_true, decide_eq_true_eq]
 exact h
set_option maxHeartbeats 16000000 in
theorem DrawRounds_walk {W : World} {v lv : Value} {m : List Sol} {ls : List MvI} (H : SlS W v m) (HL : SlX W lv ls) (hT : Tab W) : Calls Tryd.prog 7 #[v, lv] W fun e w' => e = .returned (.bool true) ∧ Below W.heap.size W w' := by
 have HF := Lib.hid (few_spec 12 H)
 obtain ⟨b2, c2, rfl, hmx, hcl⟩ := mvs_open HL
 have HH := Lib.hid (And.intro H (And.intro HL (And.intro hT hcl)))
 clear H HL hT hcl
 by_cases hfew : (m.length : Int) ≤ 12 ∨ 12 < m.length ∧ m.length ≤ 15
 ·rw [few_ok hfew] at HF
  by_cases hlen : ls.length ≤ 20
  ·have hln : ¬ (20 < (ls.length : Int)) := by omega
   have hld : decide (20 < (ls.length : Int)) = false := decide_eq_false hln
   have HC := Lib.hid (cast_spec HH.out.2.2.1)
   clear hfew
   go_enter Tryd.func7, Tryd.ntmps7
   go_wp2_with fail
   refine HF.out.mono ?_
   rintro e w1 ⟨rfl, hw1⟩
   have hw2 := hw1.symm
   subst hw2
   clear hw1
   go_wp2_with fail
   refine (Rounds_spec HH.out.1 HH.out.2.2.1).mono ?_
   rintro e w2 ⟨hb2, u, rfl, hR⟩
   have H2 := Lib.hid (And.intro hb2 hR); clear hb2 hR
   go_wp2_with fail
   refine (CheckOrder_spec (HH.out.1.mono H2.out.1) (HH.out.2.1.mono H2.out.1)).mono ?_
   rintro e w3 ⟨hb3, b, rfl, hb1, hb0⟩
   have H3 := Lib.hid (And.intro (bel_trans H2.out.1 hb3) (And.intro hb1 (And.intro hb0 hb3))); clear hb3 hb1 hb0
   by_cases hE : errM m = 0
   ·rw [hE]
    have hbe := H3.out.2.1 hE
    have hRR := H2.out.2 hE
    cases hmade : madeM m ls with
    | none =>
     rw [hmade] at hbe
     replace hbe : b = false := hbe
     subst hbe
     clear hmade hRR hE
     have HC3 := Lib.hid (cast_spec (HH.out.2.2.1.grow H3.out.1))
     go_wp2_with fail
     refine HC3.out.mono ?_
     rintro e w4 ⟨rfl, hb4⟩
     have H4 := Lib.hid hb4; clear hb4
     go_wp2_with fail
     go_ret
     exact ⟨rfl, bel_trans H3.out.1 H4.out⟩
    | some G =>
     rw [hmade] at hbe
     replace hbe : b = true := hbe
     subst hbe
     have hlaw := rounds_law (errM_zero.1 hE).1 hmade
     obtain ⟨R, hRe⟩ : ∃ R, R = (roundsM m).1 := ⟨_, rfl⟩
     rw [← hRe] at hlaw hRR
     have hS := (hRR.sll).up H3.out.2.2.2
     obtain ⟨br, cr, rfl, hrmx, hrc⟩ := sll_cell hS
     rw [List.length_map] at hrmx ⊢
     have HL := Lib.hid (And.intro hlaw hrc)
     clear hmade hRR hE hS hlaw hrc hRe
     go_wp2_with fail
     go_loopw [9] (fun iv wx => ∃ i : Nat, i ≤ ls.length ∧ iv = .int .i64 i ∧ Hid (Below w3.heap.size w3 wx)) (fun iv _ => ls.length - (intOf iv).toNat)
     case atStart => exact ⟨0, Nat.zero_le _, rfl, Lib.hid (Below.refl _ _)⟩
     case round =>
      obtain ⟨i, hi, rfl, HI⟩ := hrel
      by_cases hlt : i < ls.length
      ·obtain ⟨x, hx⟩ : ∃ x, ls[i]? = some x := ⟨_, List.getElem?_eq_getElem hlt⟩
       obtain ⟨hx0, hx1, hx2⟩ := HL.out.1 i x hx
       obtain ⟨ib, io, rfl, lib, hc, _, _⟩ := HH.out.2.2.2 i x hx
       have hdl : decide ((i : Int) < (ls.length : Int)) = true := decide_eq_true (by omega)
       have HX := Lib.hid (And.intro hx0 (And.intro hx1 (And.intro hx2 (And.intro hx (And.intro lib hc)))))
       clear hx0 hx1 hx2 hx lib hc
       go_wp2_with fail
       obtain ⟨wo, hwo⟩ : ∃ wo, wo = wr := ⟨_, rfl⟩
       subst hwo
       go_loopw [10, 11] (fun tv kv wx => ∃ k : Nat, k ≤ R.length ∧ tv = .int .i64 ((R.take k).countP (fun r => r.contains x.1.toNat) : Nat) ∧ kv = .int .i64 k ∧ Hid (Below w3.heap.size w3 wx)) (fun _ kv _ => R.length - (intOf kv).toNat)
       case atStart => exact ⟨0, Nat.zero_le _, rfl, rfl, HI⟩
       case round =>
        obtain ⟨k, hk, rfl, rfl, HK⟩ := hrel
        obtain ⟨t, ht⟩ : ∃ t, t = (R.take k).countP (fun r => r.contains x.1.toNat) := ⟨_, rfl⟩
        have htl : t ≤ k := by
         rw [ht]
         have h1 := List.countP_le_length (p := fun r : List Nat => r.contains x.1.toNat) (l := R.take k)
         rw [List.length_take] at h1
         omega
        rw [← ht]
        have HT := Lib.hid ht; clear ht
        by_cases hkl : k < R.length
        ·obtain ⟨r, hr⟩ : ∃ r, R[k]? = some r := ⟨_, List.getElem?_eq_getElem hkl⟩
         obtain ⟨jb, jo, u, rfl, ljb, hju, hSu⟩ := HL.out.2 k (intsL r) (by rw [List.getElem?_map, hr]; rfl)
         have c1 := (HK.out.cell (p := ⟨jb, jo + k, none⟩) ljb).trans hju
         have l1 : jb < wr.heap.size := Nat.lt_of_lt_of_le ljb HK.out.size
         have c2 := ((bel_trans H3.out.1 HK.out).cell (p := ⟨ib, io + i * 3, none⟩) HX.out.2.2.2.2.1).trans HX.out.2.2.2.2.2
         have l2 : ib < wr.heap.size := Nat.lt_of_lt_of_le HX.out.2.2.2.2.1 (bel_trans H3.out.1 HK.out).size
         have hin := fun W' (hb : Below w3.heap.size w3 W') => In_spec x.1 (Sl.mono hSu hb)
         have HIN := Lib.hid hin
         have HR := Lib.hid hr
         have hkd : Below w3.heap.size w3 wr.drew := bel_drew HK.out
         have HKD' := Lib.hid hkd
         clear hr hju hSu hin ljb hkd
         go_wp2_with fail
         refine Go.Rel.region_still_tail 9 (by kernel_rfl) (by kernel_rfl) ?_
         simp only [List.take_succ_cons, List.take_zero, List.drop_succ_cons, List.drop_zero]
         iterate 9 (with_reducible refine wpStill_yes (by kernel_rfl) (fun K hK => ?_); go_simp; refine hK _ ?_; clear hK K)
         refine wpStill_nil ?_
         go_wp2_with fail
         refine (HIN.out _ HKD'.out).mono ?_
         rintro e w5 ⟨rfl, hw5⟩
         have hw6 := hw5.symm
         subst hw6
         clear hw5
         cases hcn : (intsL r).contains x.1
         ·have hcn' := hcn
          rw [contains_intsL r HX.out.1] at hcn'
          have HC1 := Lib.hid hcn'; clear hcn hcn'
          go_wp2_with fail
          refine ⟨⟨k + 1, by omega, ?_, by simp, Lib.hid HKD'.out⟩, by simp [intOf]; omega⟩
          rw [countP_take _ HR.out, HC1.out, ← HT.out]; simp
         ·have hcn' := hcn
          rw [contains_intsL r HX.out.1] at hcn'
          have hki := HX.out.2.2.1 k r HR.out hcn'
          have hni : ¬ ((i : Int) < (k : Int)) := by omega
          have HC1 := Lib.hid hcn'; clear hcn hcn'
          go_wp2_with fail
          refine ⟨⟨k + 1, by omega, ?_, by simp, Lib.hid HKD'.out⟩, by simp [intOf]; omega⟩
          rw [countP_take _ HR.out, HC1.out, ← HT.out]; simp
        ·obtain rfl : k = R.length := by omega
         have ht1 : t = 1 := by rw [HT.out, List.take_length]; exact HX.out.2.1
         subst ht1
         go_wp2_with fail
         exact ⟨⟨i + 1, by omega, by simp, HK⟩, by simp [intOf]; omega⟩
      ·obtain rfl : i = ls.length := by omega
       have HC4 := Lib.hid (cast_spec (HH.out.2.2.1.grow (bel_trans H3.out.1 HI.out)))
       go_wp2_with fail
       refine HC4.out.mono ?_
       rintro e w5 ⟨rfl, hb5⟩
       have H5 := Lib.hid hb5; clear hb5
       go_wp2_with fail
       go_ret
       exact ⟨rfl, bel_trans H3.out.1 (bel_trans HI.out H5.out)⟩
   ·have e0 : (errM m != 0) = true := by simpa using hE
    have hbe := H3.out.2.2.1 hE
    subst hbe
    have HC3 := Lib.hid (cast_spec (HH.out.2.2.1.grow H3.out.1))
    clear hE
    go_wp2_with fail
    refine HC3.out.mono ?_
    rintro e w4 ⟨rfl, hb4⟩
    have H4 := Lib.hid hb4; clear hb4
    go_wp2_with fail
    go_ret
    exact ⟨ret_bool (by simp), bel_trans H3.out.1 H4.out⟩
  ·have hln : 20 < (ls.length : Int) := by omega
   have hld : decide (20 < (ls.length : Int)) = true := decide_eq_true hln
   have HC := Lib.hid (cast_spec HH.out.2.2.1)
   clear hfew
   go_enter Tryd.func7, Tryd.ntmps7
   go_wp2_with fail
   refine HF.out.mono ?_
   rintro e w1 ⟨rfl, hw1⟩
   have hw2 := hw1.symm
   subst hw2
   clear hw1
   go_wp2_with fail
   refine HC.out.mono ?_
   rintro e w4 ⟨rfl, hb4⟩
   have H4 := Lib.hid hb4; clear hb4
   go_wp2_with fail
   go_ret
   exact ⟨rfl, H4.out⟩
 ·rw [few_bad hfew] at HF
  have HC := Lib.hid (cast_spec HH.out.2.2.1)
  clear hfew
  go_enter Tryd.func7, Tryd.ntmps7
  go_wp2_with fail
  refine HF.out.mono ?_
  rintro e w1 ⟨rfl, hw1⟩
  have hw2 := hw1.symm
  subst hw2
  clear hw1
  go_wp2_with fail
  refine HC.out.mono ?_
  rintro e w4 ⟨rfl, hb4⟩
  have H4 := Lib.hid hb4; clear hb4
  go_wp2_with fail
  go_ret
  exact ⟨rfl, H4.out⟩
end Go.Proofs.YtmngjhfhpldifaaDoor
end
