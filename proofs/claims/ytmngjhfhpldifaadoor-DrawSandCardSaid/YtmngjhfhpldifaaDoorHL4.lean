import Derived.Test.YtmngjhfhpldifaaDoorHL1
/-
  Given contracts of functions of the program, and laws for them, one behind the other.
-/
set_option linter.unusedVariables false
set_option linter.unusedSimpArgs false
set_option linter.unusedSectionVars false
section
namespace Go.Proofs.YtmngjhfhpldifaaDoor
open Go.RowKit Go.Rel Go.Draw
set_option maxRecDepth 100000
/-! DrawBefore -/
theorem askE_pt {l : List Sol} {p : Int} (h : askE l [] [p] = 0) : l.length ≤ 12 ∧ errM l = 0 ∧ ∃ q : Nat, p = (q : Int) ∧ q < l.length := by
 unfold askE at h
 split at h
 ·rename_i h1; exact absurd h h1
 ·rename_i h1
  have h1 : errM l = 0 := by simpa using h1
  refine ⟨(errM_zero.1 h1).1, h1, ?_⟩
  split at h
  ·cases h
  ·rename_i G hG
   split at h
   ·cases h
   ·rename_i ha
    exact askE_p (by simpa using ha)
theorem all_take {α : Type} (f : α → Bool) {l : List α} {k : Nat} {x : α} (hx : l[k]? = some x) : (l.take (k + 1)).all f = ((l.take k).all f && f x) := by
 rw [List.take_add_one, hx, List.all_append]
 simp
set_option maxHeartbeats 16000000 in
theorem DrawBefore_walk {W : World} {v : Value} {m : List Sol} {p : Int} (H : SlS W v m) (hT : Tab W) : Calls Tryd.prog 4 #[v, .int .i64 p] W fun e w' => e = .returned (.bool true) ∧ Below W.heap.size W w' := by
 have HF := Lib.hid (few_spec 6 H)
 have HH := Lib.hid (And.intro H hT)
 have HC := Lib.hid (cast_spec hT)
 obtain ⟨bm, nm, cm, rfl, hnm, hcm, hcc⟩ := SlS.out H
 subst hnm
 clear H hT
 by_cases hfew : (m.length : Int) ≤ 6 ∨ 12 < m.length ∧ m.length ≤ 15
 ·rw [few_ok hfew] at HF
  clear hfew
  go_enter Tryd.func4, Tryd.ntmps4
  go_wp2_with fail
  refine HF.out.mono ?_
  rintro e w1 ⟨rfl, hw1⟩
  have hw2 := hw1.symm
  subst hw2
  clear hw1
  go_wp2_with fail
  refine (Paths_spec HH.out.1 HH.out.2).mono ?_
  rintro e w2 ⟨hb2, u, rfl, hu0, hu1⟩
  have H2 := Lib.hid (And.intro hb2 (And.intro hu0 hu1)); clear hb2 hu0 hu1
  go_wp2_with fail
  refine (Needs_spec (HH.out.1.mono H2.out.1) (HH.out.2.grow H2.out.1)).mono ?_
  rintro e w3 ⟨hb3, z, rfl, hz0, hz1⟩
  have H3 := Lib.hid (And.intro (bel_trans H2.out.1 hb3) (And.intro hz0 (And.intro hz1 hb3))); clear hb3 hz0 hz1
  have HC3 := Lib.hid (cast_spec (HH.out.2.grow H3.out.1))
  by_cases h0 : askE m [] [p] = 0
  ·have HZ := Lib.hid h0
   obtain ⟨hm, hE, q, rfl, hq⟩ := askE_pt h0
   rw [h0]
   obtain ⟨L, hL⟩ : ∃ L, L = pathsM m q := ⟨_, rfl⟩
   have hnE : needE m (q : Int) = if L.isEmpty then 30 else 0 := by unfold needE; rw [if_neg (by simpa using HZ.out), Int.toNat_natCast, ← hL]
   have hLL := (H2.out.2.1 h0).sll.up H3.out.2.2.2
   rw [Int.toNat_natCast, ← hL] at hLL
   clear h0
   by_cases hLe : L = []
   ·rw [hLe] at hnE hLL
    replace hnE : needE m (q : Int) = 30 := hnE
    have hz := H3.out.2.2.1 (by rw [hnE]; decide)
    subst hz
    obtain ⟨br, cr, rfl, hrmx, -⟩ := sll_cell hLL
    rw [hnE]
    clear hL hLe hLL hnE
    go_wp2_with fail
    refine HC3.out.mono ?_
    rintro e w4 ⟨rfl, hb4⟩
    have H4 := Lib.hid hb4; clear hb4
    go_wp2_with fail
    go_ret
    exact ⟨rfl, bel_trans H3.out.1 H4.out⟩
   ·have hnE : needE m (q : Int) = 0 := by rw [hnE, if_neg (by simpa using hLe)]
    have hzo := H3.out.2.1 hnE
    rw [Int.toNat_natCast] at hzo
    obtain ⟨br, cr, rfl, hrmx, hrc⟩ := sll_cell hLL
    rw [List.length_map, List.length_map] at hrmx ⊢
    have hLl : 0 < L.length := List.length_pos_iff.2 hLe
    have e0 : ((L.length : Int) == 0) = false := by simp; exact hLe
    have hlaw := before_law hm hq
    rw [← hL] at hlaw
    have hin := fun (x : Nat) => In_spec (x : Int) (OwnI.sl hzo)
    rw [hnE]
    have HX := Lib.hid (And.intro hm (And.intro hE (And.intro hq (And.intro hlaw (And.intro hrc hin)))))
    clear hL hLe hLL hnE hzo hrc hlaw hin hm hE
    go_wp2_with fail
    go_loopw [9] (fun xv wx => ∃ (x : Nat), x ≤ m.length ∧ xv = .int .i64 x ∧ Hid (wx = w3)) (fun xv _ => m.length - (intOf xv).toNat)
    case atStart => exact ⟨0, Nat.zero_le _, rfl, Lib.hid rfl⟩
    case round =>
     obtain ⟨x, hx, rfl, hwr⟩ := hrel
     have hwr := hwr.out.symm
     subst hwr
     by_cases hlt : x < m.length
     ·have hdl : decide ((x : Int) < (m.length : Int)) = true := decide_eq_true (by omega)
      go_wp2_with fail
      go_loopw [10, 11] (fun bv iv wx => ∃ (i : Nat), i ≤ L.length ∧ bv = .bool ((L.take i).all fun s => s.getLsbD x) ∧ iv = .int .i64 i ∧ Hid (wx = w3)) (fun _ iv _ => L.length - (intOf iv).toNat)
      case atStart => exact ⟨0, Nat.zero_le _, by simp, rfl, Lib.hid rfl⟩
      case round =>
       obtain ⟨i, hi, rfl, rfl, hwr⟩ := hrel
       have hwr := hwr.out.symm
       subst hwr
       by_cases hil : i < L.length
       ·have hdi : decide ((i : Int) < (L.length : Int)) = true := decide_eq_true (by omega)
        obtain ⟨s, hs⟩ : ∃ s, L[i]? = some s := ⟨_, List.getElem?_eq_getElem hil⟩
        obtain ⟨jb, jo, us, rfl, ljb, hju, hSu⟩ := HX.out.2.2.2.2.1 i (intsL (listU s)) (by rw [List.getElem?_map, List.getElem?_map, hs]; rfl)
        have HIn := Lib.hid (In_spec (x : Int) hSu)
        rw [contains_listU] at HIn
        have hta := all_take (fun s : U => s.getLsbD x) hs
        obtain ⟨t, ht⟩ : ∃ t, t = (L.take i).all fun s => s.getLsbD x := ⟨_, rfl⟩
        rw [← ht] at hta ⊢
        have HTA := Lib.hid hta
        clear hta ht hSu hs
        cases t
        ·go_wp2_with fail
         exact ⟨⟨i + 1, by omega, by rw [HTA.out]; rfl, by simp, Lib.hid (by trivial)⟩, by simp [intOf]; omega⟩
        ·go_wp2_with fail
         refine HIn.out.mono ?_
         rintro e w7 ⟨rfl, hw7⟩
         have hw8 := hw7.symm
         subst hw8
         clear hw7
         go_wp2_with fail
         exact ⟨⟨i + 1, by omega, by rw [HTA.out, Bool.true_and], by simp, Lib.hid (by trivial)⟩, by simp [intOf]; omega⟩
       ·obtain rfl : i = L.length := by omega
        rw [List.take_length]
        have HIn := Lib.hid (HX.out.2.2.2.2.2 x)
        rw [contains_listU] at HIn
        have hne : Hid (x ≠ q → (L.all fun s => s.getLsbD x) = (needsU m q).getLsbD x) := Lib.hid (HX.out.2.2.2.1.1 x hlt)
        obtain ⟨t, ht⟩ : ∃ t, t = L.all fun s => s.getLsbD x := ⟨_, rfl⟩
        rw [← ht] at hne ⊢
        clear ht
        by_cases hxq : x = q
        ·subst hxq
         have e1 : ((x : Int) != (x : Int)) = false := by simp
         go_wp2_with fail
         exact ⟨⟨x + 1, by omega, by simp, Lib.hid (by trivial)⟩, by simp [intOf]; omega⟩
        ·have e1 : ((x : Int) != (q : Int)) = true := by simp only [bne_iff_ne, ne_eq]; omega
         rw [← hne.out hxq] at HIn
         have e2 : (t != t) = false := by simp
         go_wp2_with fail
         refine HIn.out.mono ?_
         rintro e w7 ⟨rfl, hw7⟩
         have hw8 := hw7.symm
         subst hw8
         clear hw7
         go_wp2_with fail
         exact ⟨⟨x + 1, by omega, by simp, Lib.hid (by trivial)⟩, by simp [intOf]; omega⟩
     ·obtain rfl : x = m.length := by omega
      go_wp2_with fail
      go_loopw [12] (fun iv wx => ∃ (i : Nat), i ≤ L.length ∧ iv = .int .i64 i ∧ Hid (Below w3.heap.size w3 wx)) (fun iv _ => L.length - (intOf iv).toNat)
      case atStart => exact ⟨0, Nat.zero_le _, rfl, Lib.hid (Below.refl _ _)⟩
      case round =>
       obtain ⟨i, hi, rfl, HI⟩ := hrel
       have hbr := bel_trans H3.out.1 HI.out
       by_cases hil : i < L.length
       ·have hdi : decide ((i : Int) < (L.length : Int)) = true := decide_eq_true (by omega)
        obtain ⟨s, hs⟩ : ∃ s, L[i]? = some s := ⟨_, List.getElem?_eq_getElem hil⟩
        obtain ⟨jb, jo, us, rfl, ljb, hju, hSu⟩ := HX.out.2.2.2.2.1 i (intsL (listU s)) (by rw [List.getElem?_map, List.getElem?_map, hs]; rfl)
        have hl := HX.out.2.2.2.1.2.1 s (List.mem_of_getElem? hs)
        have c1 := (HI.out.cell (p := ⟨jb, jo + i, none⟩) ljb).trans hju
        have l1 : jb < wr.heap.size := Nat.lt_of_lt_of_le ljb HI.out.size
        have HFi := Lib.hid (First_spec (HH.out.1.mono hbr) (hSu.mono HI.out) (HH.out.2.grow hbr))
        have HSS := Lib.hid (And.intro hs (And.intro hl (And.intro hSu hju)))
        clear hs hl hSu hju hbr
        go_wp2_with fail
        refine HFi.out.mono ?_
        rintro e w6 ⟨hb6, b, rfl, hb0, -⟩
        have hE3 : askE m (intsL (listU s)) [] = 0 := askE_of HX.out.2.1 HSS.out.2.1.1
        obtain ⟨C, hC, rfl⟩ := hb0 hE3
        have hCe : C = s := Option.some.inj (hC.symm.trans (setI_of HX.out.1 HSS.out.2.1.1))
        replace hCe := hCe.symm
        subst hCe
        rw [hE3, HSS.out.2.1.2.1]
        have hb36 := bel_trans HI.out hb6
        have c2 := (hb36.cell (p := ⟨jb, jo + i, none⟩) ljb).trans HSS.out.2.2.2
        have l2 : jb < w6.heap.size := Nat.lt_of_lt_of_le ljb hb36.size
        have HIn := Lib.hid (In_spec (q : Int) (HSS.out.2.2.1.mono hb36))
        rw [contains_listU, HSS.out.2.1.2.2] at HIn
        have H6 := Lib.hid hb36
        clear hb6 hb0 hE3 hC hb36 c1 l1
        go_wp2_with fail
        refine HIn.out.mono ?_
        rintro e w7 ⟨rfl, hw7⟩
        have hw8 := hw7.symm
        subst hw8
        clear hw7
        go_wp2_with fail
        go_loopw [15] (fun kv wx => ∃ (k : Nat), k ≤ L.length ∧ kv = .int .i64 k ∧ Hid (Below w3.heap.size w3 wx)) (fun kv _ => L.length - (intOf kv).toNat)
        case atStart => exact ⟨0, Nat.zero_le _, rfl, H6⟩
        case round =>
         obtain ⟨k, hk, rfl, HK⟩ := hrel
         by_cases hkl : k < L.length
         ·have hdk : decide ((k : Int) < (L.length : Int)) = true := decide_eq_true (by omega)
          by_cases hki : k = i
          ·subst hki
           have e1 : ((k : Int) != (k : Int)) = false := by simp
           go_wp2_with fail
           refine Go.Rel.region_still_tail 12 (by kernel_rfl) (by kernel_rfl) ?_
           simp only [List.take_succ_cons, List.take_zero, List.drop_succ_cons, List.drop_zero]
           iterate 4 (with_reducible refine wpStill_yes (by kernel_rfl) (fun K hK => ?_); go_simp; refine hK _ ?_; clear hK K)
           iterate 8 (with_reducible refine wpStill_no (by kernel_rfl) (fun K hK => ?_); simp only [Act.put, List.setIfInBounds_toArray, List.set_cons_succ, List.set_cons_zero]; refine hK _ ?_; clear hK K)
           refine wpStill_nil ?_
           go_wp2_with fail
           exact ⟨⟨k + 1, by omega, by simp, Lib.hid (bel_drew HK.out)⟩, by simp [intOf]; omega⟩
          ·have e1 : ((k : Int) != (i : Int)) = true := by simp only [bne_iff_ne, ne_eq]; omega
           obtain ⟨r, hr⟩ : ∃ r, L[k]? = some r := ⟨_, List.getElem?_eq_getElem hkl⟩
           obtain ⟨jb', jo', ur, hjj, ljr, hjr, hSr⟩ := HX.out.2.2.2.2.1 k (intsL (listU r)) (by rw [List.getElem?_map, List.getElem?_map, hr]; rfl)
           simp only [Option.some.injEq, Addr.mk.injEq, and_true] at hjj
           obtain ⟨rfl, rfl⟩ := hjj
           have hbk := bel_drew HK.out
           have c3 := (hbk.cell (p := ⟨jb, jo + i, none⟩) ljb).trans HSS.out.2.2.2
           have c4 := (hbk.cell (p := ⟨jb, jo + k, none⟩) ljb).trans hjr
           have l3 : jb < wr.drew.heap.size := Nat.lt_of_lt_of_le ljb hbk.size
           have HCo := Lib.hid (Contains_spec (HSS.out.2.2.1.mono hbk) (hSr.mono hbk))
           rw [all_subB, HX.out.2.2.2.1.2.2 i k s r HSS.out.1 hr hki] at HCo
           have HBK := Lib.hid hbk
           clear hbk hr hSr hjr c2 l2
           go_wp2_with fail
           refine Go.Rel.region_still_tail 12 (by kernel_rfl) (by kernel_rfl) ?_
           simp only [List.take_succ_cons, List.take_zero, List.drop_succ_cons, List.drop_zero]
           iterate 12 (with_reducible refine wpStill_yes (by kernel_rfl) (fun K hK => ?_); go_simp; refine hK _ ?_; clear hK K)
           refine wpStill_nil ?_
           go_wp2_with fail
           refine HCo.out.mono ?_
           rintro e w7 ⟨rfl, hw7⟩
           have hw8 := hw7.symm
           subst hw8
           clear hw7
           go_wp2_with fail
           exact ⟨⟨k + 1, by omega, by simp, HBK⟩, by simp [intOf]; omega⟩
         ·obtain rfl : k = L.length := by omega
          go_wp2_with fail
          exact ⟨⟨i + 1, by omega, by simp, HK⟩, by simp [intOf]; omega⟩
       ·obtain rfl : i = L.length := by omega
        have HC9 := Lib.hid (cast_spec (HH.out.2.grow hbr))
        have HBR := Lib.hid hbr
        clear hbr
        go_wp2_with fail
        refine HC9.out.mono ?_
        rintro e w4 ⟨rfl, hb4⟩
        have H4 := Lib.hid hb4; clear hb4
        go_wp2_with fail
        go_ret
        exact ⟨rfl, bel_trans HBR.out H4.out⟩
  ·have e0 : (askE m [] [p] != 0) = true := by simpa using h0
   have hnE : needE m p = askE m [] [p] := by unfold needE; rw [if_pos h0]
   have hu := H2.out.2.2 h0
   have hz := H3.out.2.2.1 (by rw [hnE]; exact h0)
   subst hu hz
   rw [hnE]
   obtain ⟨x, hx⟩ : ∃ x, x = askE m [] [p] := ⟨_, rfl⟩
   rw [← hx] at e0 ⊢
   clear hx hnE h0
   go_wp2_with fail
   refine HC3.out.mono ?_
   rintro e w4 ⟨rfl, hb4⟩
   have H4 := Lib.hid hb4; clear hb4
   go_wp2_with fail
   go_ret
   exact ⟨rfl, bel_trans H3.out.1 H4.out⟩
 ·rw [few_bad hfew] at HF
  clear hfew
  go_enter Tryd.func4, Tryd.ntmps4
  go_wp2_with fail
  refine HF.out.mono ?_
  rintro e w1 ⟨rfl, hw1⟩
  have hw2 := hw1.symm
  subst hw2
  clear hw1
  go_wp2_with fail
  refine HC.out.mono ?_
  rintro e w4 ⟨rfl, hb4⟩
  have H4 := Lib.hid hb4; clear hb4
  go_wp2_with fail
  go_ret
  exact ⟨rfl, H4.out⟩
end Go.Proofs.YtmngjhfhpldifaaDoor
end
section
namespace Go.Proofs.YtmngjhfhpldifaaDoor
open Go.RowKit Go.Rel Go.Draw
set_option maxRecDepth 100000
/-! DrawBegun: the plain part -/
theorem listU_bit {x : Nat} (hx : x < 64) : listU (bit x) = [x] := by
 have h := listU_top (s := 0) (x := x) (by simp) hx
 rw [listU_zero] at h; simpa using h
theorem bit_all {x : Nat} (hx : x < 12) : Sub (bit x) (allU 12) := fun i hi => by
 rw [bit_bit _ _ (by omega)] at hi
 have : i = x := by simpa using hi
 subst this
 rw [allU_bit _ _ (by omega)]; simpa using hx
theorem unionF_bit {A : U} (hA : Sub A (allU 12)) {x : Nat} (hx : x < 12) : unionF (intsL (listU A)) [(x : Int)] 12 = listU (A ||| bit x) := by
 rw [← unionF_sets hA (bit_all hx), listU_bit (by omega)]; rfl
def gathU (l : List MvI) : U := l.foldl (fun G x => G ||| bit x.1.toNat) 0
theorem madeF_gath {m : List Sol} : ∀ (l : List MvI) (g G : U), madeF m l g = some G → G = l.foldl (fun G x => G ||| bit x.1.toNat) g
 | [], g, G, h => (Option.some.inj h).symm
 | x :: l, g, G, h => by
  unfold madeF at h
  split at h
  ·rw [List.foldl_cons]; exact madeF_gath l _ G h
  ·cases h
theorem gath_take {l : List MvI} {k : Nat} {x : MvI} (hx : l[k]? = some x) : gathU (l.take (k + 1)) = gathU (l.take k) ||| bit x.1.toNat := by
 unfold gathU
 rw [List.take_add_one, hx, List.foldl_append]
 rfl
theorem made_piece {m : List Sol} (hm : m.length ≤ 12) {l : List MvI} {G : U} (h : madeM m l = some G) {i : Nat} {x : MvI} (hx : l[i]? = some x) : ∃ q : Nat, x.1 = (q : Int) ∧ q < m.length := by
 obtain ⟨h0, h1, _⟩ := madeF_rounds hm l 0 G 0 (sub_zero _) h i x hx
 exact ⟨x.1.toNat, by omega, h1⟩
theorem ready_all {m : List Sol} (hm : m.length ≤ 12) (G : U) : Sub (readyM m G) (allU m.length) := fun i hi => by
 rw [ready_bit m (by omega)] at hi
 rw [allU_bit _ _ (by omega)]
 simp only [Bool.and_eq_true] at hi
 exact hi.1.1
theorem begun_go {m : List Sol} (hm : m.length ≤ 12) {S H : U} {g : List Int} (hS : Sub S (allU 12)) (hs : setI m.length (intsL (unionF (intsL (listU S)) g 12)) = some H) {i : Nat} (hi : (readyM m S).getLsbD i = true) : g.contains (i : Int) = true ∨ (readyM m H).getLsbD i = true := by
 have hl := intsL_inj (setI_list hm hs)
 have hb : ∀ j : Nat, H.getLsbD j = true ↔ j < 12 ∧ (S.getLsbD j = true ∨ g.contains (j : Int) = true) := fun j => by
  rw [← listU_mem, ← hl]
  unfold unionF
  rw [List.mem_filter, List.mem_range, contains_listU, Bool.or_eq_true]
 have hi12 : i < 12 := by
  have := ready_all hm S i hi
  rw [allU_bit _ _ (by omega)] at this
  have : i < m.length := by simpa using this
  omega
 have hSn : S.getLsbD i = false := by
  rw [ready_bit m (by omega)] at hi
  simp only [Bool.and_eq_true, Bool.not_eq_true'] at hi
  exact hi.2
 cases hH : H.getLsbD i
 ·right
  rw [ready_bit m (by omega), hH]
  rw [ready_bit m (by omega)] at hi
  simp only [Bool.and_eq_true, decide_eq_true_eq] at hi
  have hc : canM m i H = true := canM_mono m i S H (fun j hj => (hb j).2 ⟨by have := hS j hj; rw [allU_bit _ _ (by omega)] at this; simpa using this, .inl hj⟩) hi.1.2
  simp [hi.1.1, hc]
 ·left
  have := (hb i).1 hH
  rcases this.2 with h | h
  ·rw [hSn] at h; cases h
  ·exact h
end Go.Proofs.YtmngjhfhpldifaaDoor
end
section
namespace Go.Proofs.YtmngjhfhpldifaaDoor
open Go.RowKit Go.Rel Go.Draw
set_option maxRecDepth 100000
/-! DrawBegun -/
theorem lit_one {W : World} {b : Nat} {x : Value} {l : List Int} {t : TypeId} (h : Blk W b #[x] t) (hx : SlI W x l) : SlLL W (.slice (some ⟨b, 0, none⟩) 1 1) [l] :=
 lit_lists (us := [x]) h (by simp) rfl (fun i u z => by
  match i, u, z with
  | 0, _, _ =>
   intro hu hl
   simp at hu hl
   subst hu hl
   exact hx
  | (i + 1), _, _ =>
   intro hu hl
   simp at hu)
set_option maxHeartbeats 32000000 in
theorem DrawBegun_walk {W : World} {v lv gv : Value} {m : List Sol} {ls : List MvI} {g : List Int} (H : SlS W v m) (HL : SlX W lv ls) (HG : SlI W gv g) (hT : Tab W) : Calls Tryd.prog 8 #[v, lv, gv] W fun e w' => e = .returned (.bool true) ∧ Below W.heap.size W w' := by
 have HF := Lib.hid (few_spec 12 H)
 obtain ⟨b2, c2, rfl, hmx, hcl⟩ := mvs_open HL
 obtain ⟨pg, cg, rfl, hmg, -⟩ := ints_open HG
 have hb1 : Below W.heap.size W (W.alloc (.cells #[.slice pg g.length cg] 23)) := bel_alloc (bel_refl W) _
 have HSh := Lib.hid (short_spec (lit_one (Blk.new W #[.slice pg g.length cg] 23) (HG.mono hb1)))
 have HH := Lib.hid (And.intro H (And.intro HL (And.intro HG (And.intro hT hcl))))
 have HC := Lib.hid (cast_spec hT)
 have HC1 := Lib.hid (cast_spec (hT.grow hb1))
 have HB1 := Lib.hid hb1
 clear H HL HG hT hb1 hcl
 by_cases hfew : (m.length : Int) ≤ 12 ∨ 12 < m.length ∧ m.length ≤ 15
 ·rw [few_ok hfew] at HF
  clear hfew
  by_cases hlen : ls.length ≤ 20
  ·have hln : ¬ (20 < (ls.length : Int)) := by omega
   have hld : decide (20 < (ls.length : Int)) = false := decide_eq_false hln
   cases hsh : ([g].all fun q => decide (q.length ≤ 20))
   ·rw [hsh] at HSh
    clear hsh
    go_enter Tryd.func8, Tryd.ntmps8
    go_wp2_with fail
    refine HF.out.mono ?_
    rintro e w1 ⟨rfl, hw1⟩
    have hw2 := hw1.symm
    subst hw2
    clear hw1
    go_wp2_with fail
    refine HSh.out.mono ?_
    rintro e w1 ⟨rfl, hw1⟩
    subst hw1
    go_wp2_with fail
    refine HC1.out.mono ?_
    rintro e w4 ⟨rfl, hb4⟩
    have H4 := Lib.hid hb4; clear hb4
    go_wp2_with fail
    go_ret
    exact ⟨rfl, bel_trans HB1.out H4.out⟩
   ·rw [hsh] at HSh
    clear hsh
    go_enter Tryd.func8, Tryd.ntmps8
    go_wp2_with fail
    refine HF.out.mono ?_
    rintro e w1 ⟨rfl, hw1⟩
    have hw2 := hw1.symm
    subst hw2
    clear hw1
    go_wp2_with fail
    refine HSh.out.mono ?_
    rintro e w1 ⟨rfl, hw1⟩
    have HB1' : Hid (Below W.heap.size W w1) := Lib.hid (by rw [hw1]; exact HB1.out)
    clear hw1 HB1
    go_wp2_with fail
    refine (CheckOrder_spec (HH.out.1.mono HB1'.out) (HH.out.2.1.mono HB1'.out)).mono ?_
    rintro e w3 ⟨hb3, b, rfl, hb1, hb0⟩
    have H3 := Lib.hid (And.intro (bel_trans HB1'.out hb3) (And.intro hb1 hb0)); clear hb3 hb1 hb0
    have HC3 := Lib.hid (cast_spec (HH.out.2.2.2.1.grow H3.out.1))
    by_cases hE : errM m = 0
    ·rw [hE]
     have hbe := H3.out.2.1 hE
     cases hmade : madeM m ls with
     | none =>
      rw [hmade] at hbe
      replace hbe : b = false := hbe
      subst hbe
      clear hmade hE
      go_wp2_with fail
      refine HC3.out.mono ?_
      rintro e w4 ⟨rfl, hb4⟩
      have H4 := Lib.hid hb4; clear hb4
      go_wp2_with fail
      go_ret
      exact ⟨rfl, bel_trans H3.out.1 H4.out⟩
     | some S =>
      rw [hmade] at hbe
      replace hbe : b = true := hbe
      subst hbe
      have hm := (errM_zero.1 hE).1
      obtain ⟨hfe, hSa⟩ := made_fe hm hmade
      have HX := Lib.hid (And.intro hm (And.intro hE (And.intro hfe (And.intro hSa (And.intro hmade (madeF_gath ls 0 S hmade))))))
      clear hm hfe hSa hmade hE HC HC1 HSh
      go_wp2_with fail
      go_loopw [9, 10] (fun mv iv wx => ∃ (i : Nat) (X : U), i ≤ ls.length ∧ iv = .int .i64 i ∧ Hid (X = gathU (ls.take i) ∧ SlI wx mv (intsL (listU X)) ∧ Below w3.heap.size w3 wx ∧ Sub X (allU 12))) (fun _ iv _ => ls.length - (intOf iv).toNat)
      case atStart => exact ⟨0, 0, Nat.zero_le _, rfl, Lib.hid ⟨rfl, by rw [listU_zero]; exact lit_ints (l := []) (Blk.new w3 #[] 3) (by simp), bel_alloc (bel_refl w3) _, sub_zero _⟩⟩
      case round =>
       obtain ⟨i, X, hi, rfl, HI⟩ := hrel
       have hbr := bel_trans H3.out.1 HI.out.2.2.1
       by_cases hlt : i < ls.length
       ·have hdl : decide ((i : Int) < (ls.length : Int)) = true := decide_eq_true (by omega)
        obtain ⟨x, hx⟩ : ∃ x, ls[i]? = some x := ⟨_, List.getElem?_eq_getElem hlt⟩
        obtain ⟨ib, io, rfl, lib, hc, _, _⟩ := HH.out.2.2.2.2 i x hx
        obtain ⟨q, hqe, hq⟩ := made_piece HX.out.1 HX.out.2.2.2.2.1 hx
        rw [hqe] at hc
        have hq12 : q < 12 := Nat.lt_of_lt_of_le hq HX.out.1
        have hgt := gath_take hx
        rw [← HI.out.1, hqe, Int.toNat_natCast] at hgt
        have c1 := (hbr.cell (p := ⟨ib, io + i * 3, none⟩) lib).trans hc
        have l1 : ib < wr.heap.size := Nat.lt_of_lt_of_le lib hbr.size
        have HU := Lib.hid (Union_spec (HI.out.2.1.mono (bel_alloc (bel_refl wr) (.cells #[.int .i64 (q : Int)] 3))) (sl_news (Blk.new wr #[.int .i64 (q : Int)] 3)))
        rw [unionF_bit HI.out.2.2.2 hq12] at HU
        have HQ := Lib.hid (And.intro hgt (bit_all hq12))
        clear hx hc hqe hq hq12 hgt lib hbr
        go_wp2_with fail
        refine HU.out.mono ?_
        rintro e w6 ⟨hb6, o, rfl, ho⟩
        have H6 := Lib.hid (And.intro (bel_trans (bel_alloc HI.out.2.2.1 (.cells #[.int .i64 (q : Int)] 3)) hb6) ho); clear hb6 ho
        go_wp2_with fail
        exact ⟨⟨i + 1, X ||| bit q, by omega, by simp, Lib.hid ⟨HQ.out.1.symm, OwnI.sl H6.out.2, H6.out.1, or_sub.2 ⟨HI.out.2.2.2, HQ.out.2⟩⟩⟩, by simp [intOf]; omega⟩
       ·obtain rfl : i = ls.length := by omega
        have hXS : X = S := by rw [HI.out.1, List.take_length]; exact HX.out.2.2.2.2.2.symm
        subst hXS
        have HR1 := Lib.hid (Ready_spec (HH.out.1.mono hbr) HI.out.2.1 (HH.out.2.2.2.1.grow hbr))
        have HBR := Lib.hid hbr
        clear hbr
        go_wp2_with fail
        refine HR1.out.mono ?_
        rintro e w5 ⟨hb5, u, rfl, hu0, -⟩
        have hE1 : askE m (intsL (listU X)) [] = 0 := askE_of HX.out.2.1 HX.out.2.2.2.1
        obtain ⟨S', hS', hO⟩ := hu0 hE1
        have hSe : S' = X := Option.some.inj (hS'.symm.trans (setI_of HX.out.1 HX.out.2.2.2.1))
        subst hSe
        rw [hE1]
        obtain ⟨bu, cu, rfl, hmu, hcu⟩ := ints_open (OwnI.sl hO)
        rw [intsL_length] at hmu ⊢
        have H5 := Lib.hid (And.intro (bel_trans HBR.out hb5) (And.intro (HI.out.2.1.mono hb5) hcu))
        clear hb5 hu0 hE1 hS' hO hcu
        have HU := Lib.hid (Union_spec H5.out.2.1 (HH.out.2.2.1.mono H5.out.1))
        go_wp2_with fail
        refine HU.out.mono ?_
        rintro e w6 ⟨hb6, o, rfl, ho⟩
        have hbW6 := bel_trans H5.out.1 hb6
        have HR2 := Lib.hid (Ready_spec (HH.out.1.mono hbW6) (OwnI.sl ho) (HH.out.2.2.2.1.grow hbW6))
        have H6 := Lib.hid (And.intro hbW6 hb6); clear hb6 ho hbW6
        go_wp2_with fail
        refine HR2.out.mono ?_
        rintro e w7 ⟨hb7, u2, rfl, hv0, -⟩
        obtain ⟨x2, hx2⟩ : ∃ x, x = askE m (intsL (unionF (intsL (listU S')) g 12)) [] := ⟨_, rfl⟩
        rw [← hx2] at hv0 ⊢
        have hgo : x2 = 0 → ∃ G, OwnI w7 w6.heap.size u2 (intsL (listU (readyM m G))) ∧ ∀ i : Nat, (readyM m S').getLsbD i = true → g.contains (i : Int) = true ∨ (readyM m G).getLsbD i = true := fun h => by
         obtain ⟨G, hG, hO⟩ := hv0 h
         exact ⟨G, hO, fun i hi => begun_go HX.out.1 HI.out.2.2.2 hG hi⟩
        have H7 := Lib.hid (And.intro (bel_trans H6.out.1 hb7) (And.intro (bel_trans H6.out.2 hb7) hgo))
        clear hb7 hv0 hx2 hgo
        obtain ⟨R, hR⟩ : ∃ R, R = readyM m S' := ⟨_, rfl⟩
        rw [← hR] at H7 H5 hmu ⊢
        have HR := Lib.hid hR; clear hR
        go_wp2_with fail
        go_loopw [15] (fun iv wx => ∃ (i : Nat), i ≤ (listU R).length ∧ iv = .int .i64 i ∧ Hid (wx = w7)) (fun iv _ => (listU R).length - (intOf iv).toNat)
        case atStart => exact ⟨0, Nat.zero_le _, rfl, Lib.hid rfl⟩
        case round =>
         obtain ⟨i, hi, rfl, hwr⟩ := hrel
         have hwr := hwr.out.symm
         subst hwr
         have hcs : (x2 = 0 ∧ i < (listU R).length) ∨ (x2 = 0 ∧ i = (listU R).length) ∨ ((x2 == 0) = false) := by
          by_cases h : x2 = 0
          ·by_cases h2 : i < (listU R).length
           ·exact .inl ⟨h, h2⟩
           ·exact .inr (.inl ⟨h, by omega⟩)
          ·exact .inr (.inr (by simpa using h))
         rcases hcs with ⟨rfl, hlt⟩ | ⟨rfl, rfl⟩ | he2
         ·have hdl : decide ((i : Int) < ((listU R).length : Int)) = true := decide_eq_true (by omega)
          obtain ⟨r, hr⟩ : ∃ r, (listU R)[i]? = some r := ⟨_, List.getElem?_eq_getElem hlt⟩
          have hir : (intsL (listU R))[i]? = some (r : Int) := by unfold intsL; rw [List.getElem?_map, hr]; rfl
          obtain ⟨ib, io, rfl, lib, hcell⟩ := H5.out.2.2 i _ hir
          have hc := hcell i _ hir
          obtain ⟨G, hO, hgo⟩ := H7.out.2.2 rfl
          have hg2 := hgo r ((listU_mem _ _).1 (List.mem_of_getElem? hr))
          have c1 := (H7.out.2.1.cell (p := ⟨ib, io + i, none⟩) lib).trans hc
          have l1 : ib < w7.heap.size := Nat.lt_of_lt_of_le lib H7.out.2.1.size
          have HI1 := Lib.hid (In_spec (r : Int) (HH.out.2.2.1.mono H7.out.1))
          have HI2 := Lib.hid (In_spec (r : Int) (OwnI.sl hO))
          rw [contains_listU] at HI2
          clear hr hir hcell hc hO hgo lib
          cases hg : g.contains (r : Int)
          ·rw [hg] at hg2 HI1
           have hg3 : (readyM m G).getLsbD r = true := by simpa using hg2
           rw [hg3] at HI2
           clear hg2 hg3 hg
           go_wp2_with fail
           refine HI1.out.mono ?_
           rintro e w8 ⟨rfl, hw8⟩
           have hw9 := hw8.symm
           subst hw9
           clear hw8
           go_wp2_with fail
           refine HI2.out.mono ?_
           rintro e w8 ⟨rfl, hw8⟩
           have hw9 := hw8.symm
           subst hw9
           clear hw8
           go_wp2_with fail
           exact ⟨⟨i + 1, by omega, by simp, Lib.hid (by trivial)⟩, by simp [intOf]; omega⟩
          ·rw [hg] at HI1
           clear hg2 hg
           go_wp2_with fail
           refine HI1.out.mono ?_
           rintro e w8 ⟨rfl, hw8⟩
           have hw9 := hw8.symm
           subst hw9
           clear hw8
           go_wp2_with fail
           exact ⟨⟨i + 1, by omega, by simp, Lib.hid (by trivial)⟩, by simp [intOf]; omega⟩
         all_goals
          have h7 := H7.out.2.1
          have hs7 := H5.out.2.1.mono h7
          have HS7 := Lib.hid hs7
          clear h7 hs7
          go_wp2_with fail
          go_loopw [9, 16] (fun mv jv wx => ∃ (j : Nat) (G : U), j ≤ 12 ∧ jv = .int .i64 j ∧ Hid (G = Nat.repeat (stepR m) j S' ∧ SlI wx mv (intsL (listU G)) ∧ Below w7.heap.size w7 wx)) (fun _ jv _ => 12 - (intOf jv).toNat)
          case atStart => exact ⟨0, S', Nat.zero_le _, rfl, Lib.hid ⟨rfl, HS7.out, Below.refl _ _⟩⟩
          case round =>
           obtain ⟨j, G, hj, rfl, HJ⟩ := hrel
           have hbr := bel_trans H7.out.1 HJ.out.2.2
           by_cases hlt : j < 12
           ·have hdj : decide ((j : Int) < 12) = true := decide_eq_true (by omega)
            have hGa : Sub G (allU m.length) := by rw [HJ.out.1]; exact fun i hi => last_all HX.out.1 i ((iter_last HX.out.1 HX.out.2.2.2.1 HX.out.2.2.1 j).2 i hi)
            have HRj := Lib.hid (Ready_spec (HH.out.1.mono hbr) HJ.out.2.1 (HH.out.2.2.2.1.grow hbr))
            have HQ := Lib.hid (And.intro hbr hGa)
            clear hbr hGa
            go_wp2_with fail
            refine HRj.out.mono ?_
            rintro e w8 ⟨hb8, u8, rfl, hu0, -⟩
            have hE1 : askE m (intsL (listU G)) [] = 0 := askE_of HX.out.2.1 HQ.out.2
            obtain ⟨G', hG', hO⟩ := hu0 hE1
            have hGe : G = G' := Option.some.inj ((setI_of HX.out.1 HQ.out.2).symm.trans hG')
            subst hGe
            rw [hE1]
            have HU := Lib.hid (Union_spec (HJ.out.2.1.mono hb8) (OwnI.sl hO))
            rw [unionF_sets (sub_all HX.out.1 HQ.out.2) (sub_all HX.out.1 (ready_all HX.out.1 G))] at HU
            have H8 := Lib.hid (bel_trans HJ.out.2.2 hb8)
            clear hb8 hu0 hE1 hG' hO
            go_wp2_with fail
            refine HU.out.mono ?_
            rintro e w9 ⟨hb9, o9, rfl, ho9⟩
            have H9 := Lib.hid (And.intro (bel_trans H8.out hb9) ho9); clear hb9 ho9
            go_wp2_with fail
            exact ⟨⟨j + 1, G ||| readyM m G, by omega, by simp, Lib.hid ⟨by rw [HJ.out.1]; rfl, OwnI.sl H9.out.2, H9.out.1⟩⟩, by simp [intOf]; omega⟩
           ·obtain rfl : j = 12 := by omega
            rw [show ((12 : Nat) : Int) = (12 : Int) from rfl]
            have hGl : G = lastR m := HJ.out.1.trans (begun_last HX.out.1 HX.out.2.2.2.1 HX.out.2.2.1)
            have HRo := Lib.hid (Rounds_spec (HH.out.1.mono hbr) (HH.out.2.2.2.1.grow hbr))
            have HQ := Lib.hid (And.intro hbr hGl)
            clear hbr hGl
            go_wp2_with fail
            refine HRo.out.mono ?_
            rintro e w8 ⟨hb8, u8, rfl, hu0⟩
            have hLL := (hu0 HX.out.2.1).sll
            rw [HX.out.2.1]
            obtain ⟨K, hK, -, -, hR, hKl⟩ := rounds_spec HX.out.1
            rw [hR] at hLL
            obtain ⟨br, cr, rfl, hrmx, hrc⟩ := sll_cell hLL
            simp only [List.length_map, List.length_range] at hrmx hrc ⊢
            have H8 := Lib.hid (And.intro (bel_trans HQ.out.1 hb8) (And.intro hrc (And.intro hKl (HJ.out.2.1.mono hb8))))
            clear hb8 hu0 hLL hR hKl hrc
            go_wp2_with fail
            go_loopw [21, 22] (fun av kv wx => ∃ (k : Nat), k ≤ K ∧ kv = .int .i64 k ∧ Hid (SlI wx av (intsL (listU (goneR m k))) ∧ Below w8.heap.size w8 wx)) (fun _ kv _ => K - (intOf kv).toNat)
            case atStart => exact ⟨0, Nat.zero_le _, rfl, Lib.hid ⟨by rw [show goneR m 0 = 0 from rfl, listU_zero]; exact sl_nil, Below.refl _ _⟩⟩
            case round =>
             obtain ⟨k, hk, rfl, HK⟩ := hrel
             by_cases hkl : k < K
             ·have hdk : decide ((k : Int) < (K : Int)) = true := decide_eq_true (by omega)
              obtain ⟨jb, jo, us, rfl, ljb, hju, hSu⟩ := H8.out.2.1 k (intsL (listU (readyM m (goneR m k)))) (by simp [hkl])
              have c2 := (HK.out.2.cell (p := ⟨jb, jo + k, none⟩) ljb).trans hju
              have l2 : jb < wr.heap.size := Nat.lt_of_lt_of_le ljb HK.out.2.size
              have HU := Lib.hid (Union_spec HK.out.1 (hSu.mono HK.out.2))
              rw [unionF_sets (sub_all HX.out.1 (gone_all HX.out.1 k)) (sub_all HX.out.1 (ready_all HX.out.1 _))] at HU
              clear hju hSu ljb
              go_wp2_with fail
              refine HU.out.mono ?_
              rintro e w9 ⟨hb9, o9, rfl, ho9⟩
              have H9 := Lib.hid (And.intro (bel_trans HK.out.2 hb9) ho9); clear hb9 ho9
              go_wp2_with fail
              exact ⟨⟨k + 1, by omega, by simp, Lib.hid ⟨OwnI.sl H9.out.2, H9.out.1⟩⟩, by simp [intOf]; omega⟩
             ·obtain rfl : k = K := by omega
              have hbk := bel_trans H8.out.1 HK.out.2
              have HC9 := Lib.hid (cast_spec (HH.out.2.2.2.1.grow hbk))
              have HSL := Lib.hid (fun W' (hb : Below wr.heap.size wr W') => SameInts_spec (HK.out.1.mono hb) ((H8.out.2.2.2.mono HK.out.2).mono hb))
              have HFI := Lib.hid (And.intro hbk (show (intsL (listU (goneR m k)) == intsL (listU G)) = true by rw [H8.out.2.2.1, HQ.out.2]; simp))
              clear hbk
              go_wp2_with fail
              refine HC9.out.mono ?_
              rintro e w9 ⟨rfl, hb9⟩
              have H9 := Lib.hid hb9; clear hb9
              go_wp2_with fail
              refine (HSL.out w9 H9.out).mono ?_
              rintro e w10 ⟨rfl, hb10⟩
              rw [HFI.out.2]
              have H10 := Lib.hid hb10; clear hb10
              go_wp2_with fail
              go_ret
              exact ⟨rfl, bel_trans HFI.out.1 (bel_trans H9.out H10.out)⟩
    ·have e0 : (errM m != 0) = true := by simpa using hE
     have hbe := H3.out.2.2 hE
     subst hbe
     clear hE
     go_wp2_with fail
     refine HC3.out.mono ?_
     rintro e w4 ⟨rfl, hb4⟩
     have H4 := Lib.hid hb4; clear hb4
     go_wp2_with fail
     go_ret
     exact ⟨ret_bool (by simp), bel_trans H3.out.1 H4.out⟩
  ·have hln : 20 < (ls.length : Int) := by omega
   have hld : decide (20 < (ls.length : Int)) = true := decide_eq_true hln
   go_enter Tryd.func8, Tryd.ntmps8
   go_wp2_with fail
   refine HF.out.mono ?_
   rintro e w1 ⟨rfl, hw1⟩
   have hw2 := hw1.symm
   subst hw2
   clear hw1
   go_wp2_with fail
   refine HC.out.mono ?_
   rintro e w4 ⟨rfl, hb4⟩
   have H4 := Lib.hid hb4; clear hb4
   go_wp2_with fail
   go_ret
   exact ⟨rfl, H4.out⟩
 ·rw [few_bad hfew] at HF
  clear hfew
  go_enter Tryd.func8, Tryd.ntmps8
  go_wp2_with fail
  refine HF.out.mono ?_
  rintro e w1 ⟨rfl, hw1⟩
  have hw2 := hw1.symm
  subst hw2
  clear hw1
  go_wp2_with fail
  refine HC.out.mono ?_
  rintro e w4 ⟨rfl, hb4⟩
  have H4 := Lib.hid hb4; clear hb4
  go_wp2_with fail
  go_ret
  exact ⟨rfl, H4.out⟩
end Go.Proofs.YtmngjhfhpldifaaDoor
end
