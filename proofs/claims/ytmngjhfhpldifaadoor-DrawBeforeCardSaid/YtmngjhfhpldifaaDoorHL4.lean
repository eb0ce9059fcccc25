import Derived.Test.YtmngjhfhpldifaaDoorHL1
/-
  Given contracts of functions of the program, and laws for them, one behind the other.
-/
set_option linter.unusedVariables false
set_option linter.unusedSimpArgs false
set_option linter.unusedSectionVars false
section
namespace Go.Proofs.YtmngjhfhpldifaaDoor
open Go.RowKit Go.Rel Go.Draw
set_option maxRecDepth 100000
/-! DrawBefore -/
theorem askE_pt {l : List Sol} {p : Int} (h : askE l [] [p] = 0) : l.length ≤ 12 ∧ errM l = 0 ∧ ∃ q : Nat, p = (q : Int) ∧ q < l.length := by
 unfold askE at h
 split at h
 ·rename_i h1; exact absurd h h1
 ·rename_i h1
  have h1 : errM l = 0 := by simpa using h1
  refine ⟨(errM_zero.1 h1).1, h1, ?_⟩
  split at h
  ·cases h
  ·rename_i G hG
   split at h
   ·cases h
   ·rename_i ha
    exact askE_p (by simpa using ha)
theorem all_take {α : Type} (f : α → Bool) {l : List α} {k : Nat} {x : α} (hx : l[k]? = some x) : (l.take (k + 1)).all f = ((l.take k).all f && f x) := by
 rw [List.take_add_one, hx, List.all_append]
 simp
set_option maxHeartbeats 16000000 in
theorem DrawBefore_walk {W : World} {v : Value} {m : List Sol} {p : Int} (H : SlS W v m) (hT : Tab W) : Calls Tryd.prog 4 #[v, .int .i64 p] W fun e w' => e = .returned (.bool true) ∧ Below W.heap.size W w' := by
 have HF := Lib.hid (few_spec 6 H)
 have HH := Lib.hid (And.intro H hT)
 have HC := Lib.hid (cast_spec hT)
 obtain ⟨bm, nm, cm, rfl, hnm, hcm, hcc⟩ := SlS.out H
 subst hnm
 clear H hT
 by_cases hfew : (m.length : Int) ≤ 6 ∨ 12 < m.length ∧ m.length ≤ 15
 ·rw [few_ok hfew] at HF
  clear hfew
  go_enter Tryd.func4, Tryd.ntmps4
  go_wp2_with fail
  refine HF.out.mono ?_
  rintro e w1 ⟨rfl, hw1⟩
  have hw2 := hw1.symm
  subst hw2
  clear hw1
  go_wp2_with fail
  refine (Paths_spec HH.out.1 HH.out.2).mono ?_
  rintro e w2 ⟨hb2, u, rfl, hu0, hu1⟩
  have H2 := Lib.hid (And.intro hb2 (And.intro hu0 hu1)); clear hb2 hu0 hu1
  go_wp2_with fail
  refine (Needs_spec (HH.out.1.mono H2.out.1) (HH.out.2.grow H2.out.1)).mono ?_
  rintro e w3 ⟨hb3, z, rfl, hz0, hz1⟩
  have H3 := Lib.hid (And.intro (bel_trans H2.out.1 hb3) (And.intro hz0 (And.intro hz1 hb3))); clear hb3 hz0 hz1
  have HC3 := Lib.hid (cast_spec (HH.out.2.grow H3.out.1))
  by_cases h0 : askE m [] [p] = 0
  ·have HZ := Lib.hid h0
   obtain ⟨hm, hE, q, rfl, hq⟩ := askE_pt h0
   rw [h0]
   obtain ⟨L, hL⟩ : ∃ L, L = pathsM m q := ⟨_, rfl⟩
   have hnE : needE m (q : Int) = if L.isEmpty then 30 else 0 := by unfold needE; rw [if_neg (by simpa using HZ.out), Int.toNat_natCast, ← hL]
   have hLL := (H2.out.2.1 h0).sll.up H3.out.2.2.2
   rw [Int.toNat_natCast, ← hL] at hLL
   clear h0
   by_cases hLe : L = []
   ·rw [hLe] at hnE hLL
    replace hnE : needE m (q : Int) = 30 := hnE
    have hz := H3.out.2.2.1 (by rw [hnE]; decide)
    subst hz
    obtain ⟨br, cr, rfl, hrmx, -⟩ := sll_cell hLL
    rw [hnE]
    clear hL hLe hLL hnE
    go_wp2_with fail
    refine HC3.out.mono ?_
    rintro e w4 ⟨rfl, hb4⟩
    have H4 := Lib.hid hb4; clear hb4
    go_wp2_with fail
    go_ret
    exact ⟨rfl, bel_trans H3.out.1 H4.out⟩
   ·have hnE : needE m (q : Int) = 0 := by rw [hnE, if_neg (by simpa using hLe)]
    have hzo := H3.out.2.1 hnE
    rw [Int.toNat_natCast] at hzo
    obtain ⟨br, cr, rfl, hrmx, hrc⟩ := sll_cell hLL
    rw [List.length_map, List.length_map] at hrmx ⊢
    have hLl : 0 < L.length := List.length_pos_iff.2 hLe
    have e0 : ((L.length : Int) == 0) = false := by simp; exact hLe
    have hlaw := before_law hm hq
    rw [← hL] at hlaw
    have hin := fun (x : Nat) => In_spec (x : Int) (OwnI.sl hzo)
    rw [hnE]
    have HX := Lib.hid (And.intro hm (And.intro hE (And.intro hq (And.intro hlaw (And.intro hrc hin)))))
    clear hL hLe hLL hnE hzo hrc hlaw hin hm hE
    go_wp2_with fail
    go_loopw [9] (fun xv wx => ∃ (x : Nat), x ≤ m.length ∧ xv = .int .i64 x ∧ Hid (wx = w3)) (fun xv _ => m.length - (intOf xv).toNat)
    case atStart => exact ⟨0, Nat.zero_le _, rfl, Lib.hid rfl⟩
    case round =>
     obtain ⟨x, hx, rfl, hwr⟩ := hrel
     have hwr := hwr.out.symm
     subst hwr
     by_cases hlt : x < m.length
     ·have hdl : decide ((x : Int) < (m.length : Int)) = true := decide_eq_true (by omega)
      go_wp2_with fail
      go_loopw [10, 11] (fun bv iv wx => ∃ (i : Nat), i ≤ L.length ∧ bv = .bool ((L.take i).all fun s => s.getLsbD x) ∧ iv = .int .i64 i ∧ Hid (wx = w3)) (fun _ iv _ => L.length - (intOf iv).toNat)
      case atStart => exact ⟨0, Nat.zero_le _, by simp, rfl, Lib.hid rfl⟩
      case round =>
       obtain ⟨i, hi, rfl, rfl, hwr⟩ := hrel
       have hwr := hwr.out.symm
       subst hwr
       by_cases hil : i < L.length
       ·have hdi : decide ((i : Int) < (L.length : Int)) = true := decide_eq_true (by omega)
        obtain ⟨s, hs⟩ : ∃ s, L[i]? = some s := ⟨_, List.getElem?_eq_getElem hil⟩
        obtain ⟨jb, jo, us, rfl, ljb, hju, hSu⟩ := HX.out.2.2.2.2.1 i (intsL (listU s)) (by rw [List.getElem?_map, List.getElem?_map, hs]; rfl)
        have HIn := Lib.hid (In_spec (x : Int) hSu)
        rw [contains_listU] at HIn
        have hta := all_take (fun s : U => s.getLsbD x) hs
        obtain ⟨t, ht⟩ : ∃ t, t = (L.take i).all fun s => s.getLsbD x := ⟨_, rfl⟩
        rw [← ht] at hta ⊢
        have HTA := Lib.hid hta
        clear hta ht hSu hs
        cases t
        ·go_wp2_with fail
         exact ⟨⟨i + 1, by omega, by rw [HTA.out]; rfl, by simp, Lib.hid (by trivial)⟩, by simp [intOf]; omega⟩
        ·go_wp2_with fail
         refine HIn.out.mono ?_
         rintro e w7 ⟨rfl, hw7⟩
         have hw8 := hw7.symm
         subst hw8
         clear hw7
         go_wp2_with fail
         exact ⟨⟨i + 1, by omega, by rw [HTA.out, Bool.true_and], by simp, Lib.hid (by trivial)⟩, by simp [intOf]; omega⟩
       ·obtain rfl : i = L.length := by omega
        rw [List.take_length]
        have HIn := Lib.hid (HX.out.2.2.2.2.2 x)
        rw [contains_listU] at HIn
        have hne : Hid (x ≠ q → (L.all fun s => s.getLsbD x) = (needsU m q).getLsbD x) := Lib.hid (HX.out.2.2.2.1.1 x hlt)
        obtain ⟨t, ht⟩ : ∃ t, t = L.all fun s => s.getLsbD x := ⟨_, rfl⟩
        rw [← ht] at hne ⊢
        clear ht
        by_cases hxq : x = q
        ·subst hxq
         have e1 : ((x : Int) != (x : Int)) = false := by simp
         go_wp2_with fail
         exact ⟨⟨x + 1, by omega, by simp, Lib.hid (by trivial)⟩, by simp [intOf]; omega⟩
        ·have e1 : ((x : Int) != (q : Int)) = true := by simp only [bne_iff_ne, ne_eq]; omega
         rw [← hne.out hxq] at HIn
         have e2 : (t != t) = false := by simp
         go_wp2_with fail
         refine HIn.out.mono ?_
         rintro e w7 ⟨rfl, hw7⟩
         have hw8 := hw7.symm
         subst hw8
         clear hw7
         go_wp2_with fail
         exact ⟨⟨x + 1, by omega, by simp, Lib.hid (by trivial)⟩, by simp [intOf]; omega⟩
     ·obtain rfl : x = m.length := by omega
      go_wp2_with fail
      go_loopw [12] (fun iv wx => ∃ (i : Nat), i ≤ L.length ∧ iv = .int .i64 i ∧ Hid (Below w3.heap.size w3 wx)) (fun iv _ => L.length - (intOf iv).toNat)
      case atStart => exact ⟨0, Nat.zero_le _, rfl, Lib.hid (Below.refl _ _)⟩
      case round =>
       obtain ⟨i, hi, rfl, HI⟩ := hrel
       have hbr := bel_trans H3.out.1 HI.out
       by_cases hil : i < L.length
       ·have hdi : decide ((i : Int) < (L.length : Int)) = true := decide_eq_true (by omega)
        obtain ⟨s, hs⟩ : ∃ s, L[i]? = some s := ⟨_, List.getElem?_eq_getElem hil⟩
        obtain ⟨jb, jo, us, rfl, ljb, hju, hSu⟩ := HX.out.2.2.2.2.1 i (intsL (listU s)) (by rw [List.getElem?_map, List.getElem?_map, hs]; rfl)
        have hl := HX.out.2.2.2.1.2.1 s (List.mem_of_getElem? hs)
        have c1 := (HI.out.cell (p := ⟨jb, jo + i, none⟩) ljb).trans hju
        have l1 : jb < wr.heap.size := Nat.lt_of_lt_of_le ljb HI.out.size
        have HFi := Lib.hid (First_spec (HH.out.1.mono hbr) (hSu.mono HI.out) (HH.out.2.grow hbr))
        have HSS := Lib.hid (And.intro hs (And.intro hl (And.intro hSu hju)))
        clear hs hl hSu hju hbr
        go_wp2_with fail
        refine HFi.out.mono ?_
        rintro e w6 ⟨hb6, b, rfl, hb0, -⟩
        have hE3 : askE m (intsL (listU s)) [] = 0 := askE_of HX.out.2.1 HSS.out.2.1.1
        obtain ⟨C, hC, rfl⟩ := hb0 hE3
        have hCe : C = s := Option.some.inj (hC.symm.trans (setI_of HX.out.1 HSS.out.2.1.1))
        replace hCe := hCe.symm
        subst hCe
        rw [hE3, HSS.out.2.1.2.1]
        have hb36 := bel_trans HI.out hb6
        have c2 := (hb36.cell (p := ⟨jb, jo + i, none⟩) ljb).trans HSS.out.2.2.2
        have l2 : jb < w6.heap.size := Nat.lt_of_lt_of_le ljb hb36.size
        have HIn := Lib.hid (In_spec (q : Int) (HSS.out.2.2.1.mono hb36))
        rw [contains_listU, HSS.out.2.1.2.2] at HIn
        have H6 := Lib.hid hb36
        clear hb6 hb0 hE3 hC hb36 c1 l1
        go_wp2_with fail
        refine HIn.out.mono ?_
        rintro e w7 ⟨rfl, hw7⟩
        have hw8 := hw7.symm
        subst hw8
        clear hw7
        go_wp2_with fail
        go_loopw [15] (fun kv wx => ∃ (k : Nat), k ≤ L.length ∧ kv = .int .i64 k ∧ Hid (Below w3.heap.size w3 wx)) (fun kv _ => L.length - (intOf kv).toNat)
        case atStart => exact ⟨0, Nat.zero_le _, rfl, H6⟩
        case round =>
         obtain ⟨k, hk, rfl, HK⟩ := hrel
         by_cases hkl : k < L.length
         ·have hdk : decide ((k : Int) < (L.length : Int)) = true := decide_eq_true (by omega)
          by_cases hki : k = i
          ·subst hki
           have e1 : ((k : Int) != (k : Int)) = false := by simp
           go_wp2_with fail
           refine Go.Rel.region_still_tail 12 (by kernel_rfl) (by kernel_rfl) ?_
           simp only [List.take_succ_cons, List.take_zero, List.drop_succ_cons, List.drop_zero]
           iterate 4 (with_reducible refine wpStill_yes (by kernel_rfl) (fun K hK => ?_); go_simp; refine hK _ ?_; clear hK K)
           iterate 8 (with_reducible refine wpStill_no (by kernel_rfl) (fun K hK => ?_); simp only [Act.put, List.setIfInBounds_toArray, List.set_cons_succ, List.set_cons_zero]; refine hK _ ?_; clear hK K)
           refine wpStill_nil ?_
           go_wp2_with fail
           exact ⟨⟨k + 1, by omega, by simp, Lib.hid (bel_drew HK.out)⟩, by simp [intOf]; omega⟩
          ·have e1 : ((k : Int) != (i : Int)) = true := by simp only [bne_iff_ne, ne_eq]; omega
           obtain ⟨r, hr⟩ : ∃ r, L[k]? = some r := ⟨_, List.getElem?_eq_getElem hkl⟩
           obtain ⟨jb', jo', ur, hjj, ljr, hjr, hSr⟩ := HX.out.2.2.2.2.1 k (intsL (listU r)) (by rw [List.getElem?_map, List.getElem?_map, hr]; rfl)
           simp only [Option.some.injEq, Addr.mk.injEq, and_true] at hjj
           obtain ⟨rfl, rfl⟩ := hjj
           have hbk := bel_drew HK.out
           have c3 := (hbk.cell (p := ⟨jb, jo + i, none⟩) ljb).trans HSS.out.2.2.2
           have c4 := (hbk.cell (p := ⟨jb, jo + k, none⟩) ljb).trans hjr
           have l3 : jb < wr.drew.heap.size := Nat.lt_of_lt_of_le ljb hbk.size
           have HCo := Lib.hid (Contains_spec (HSS.out.2.2.1.mono hbk) (hSr.mono hbk))
           rw [all_subB, HX.out.2.2.2.1.2.2 i k s r HSS.out.1 hr hki] at HCo
           have HBK := Lib.hid hbk
           clear hbk hr hSr hjr c2 l2
           go_wp2_with fail
           refine Go.Rel.region_still_tail 12 (by kernel_rfl) (by kernel_rfl) ?_
           simp only [List.take_succ_cons, List.take_zero, List.drop_succ_cons, List.drop_zero]
           iterate 12 (with_reducible refine wpStill_yes (by kernel_rfl) (fun K hK => ?_); go_simp; refine hK _ ?_; clear hK K)
           refine wpStill_nil ?_
           go_wp2_with fail
           refine HCo.out.mono ?_
           rintro e w7 ⟨rfl, hw7⟩
           have hw8 := hw7.symm
           subst hw8
           clear hw7
           go_wp2_with fail
           exact ⟨⟨k + 1, by omega, by simp, HBK⟩, by simp [intOf]; omega⟩
         ·obtain rfl : k = L.length := by omega
          go_wp2_with fail
          exact ⟨⟨i + 1, by omega, by simp, HK⟩, by simp [intOf]; omega⟩
       ·obtain rfl : i = L.length := by omega
        have HC9 := Lib.hid (cast_spec (HH.out.2.grow hbr))
        have HBR := Lib.hid hbr
        clear hbr
        go_wp2_with fail
        refine HC9.out.mono ?_
        rintro e w4 ⟨rfl, hb4⟩
        have H4 := Lib.hid hb4; clear hb4
        go_wp2_with fail
        go_ret
        exact ⟨rfl, bel_trans HBR.out H4.out⟩
  ·have e0 : (askE m [] [p] != 0) = true := by simpa using h0
   have hnE : needE m p = askE m [] [p] := by unfold needE; rw [if_pos h0]
   have hu := H2.out.2.2 h0
   have hz := H3.out.2.2.1 (by rw [hnE]; exact h0)
   subst hu hz
   rw [hnE]
   obtain ⟨x, hx⟩ : ∃ x, x = askE m [] [p] := ⟨_, rfl⟩
   rw [← hx] at e0 ⊢
   clear hx hnE h0
   go_wp2_with fail
   refine HC3.out.mono ?_
   rintro e w4 ⟨rfl, hb4⟩
   have H4 := Lib.hid hb4; clear hb4
   go_wp2_with fail
   go_ret
   exact ⟨rfl, bel_trans H3.out.1 H4.out⟩
 ·rw [few_bad hfew] at HF
  clear hfew
  go_enter Tryd.func4, Tryd.ntmps4
  go_wp2_with fail
  refine HF.out.mono ?_
  rintro e w1 ⟨rfl, hw1⟩
  have hw2 := hw1.symm
  subst hw2
  clear hw1
  go_wp2_with fail
  refine HC.out.mono ?_
  rintro e w4 ⟨rfl, hb4⟩
  have H4 := Lib.hid hb4; clear hb4
  go_wp2_with fail
  go_ret
  exact ⟨rfl, H4.out⟩
end Go.Proofs.YtmngjhfhpldifaaDoor
end
section
namespace Go.Proofs.YtmngjhfhpldifaaDoor
open Go.ChangeShapes Go.WideShapes Go.ChangeAt Go.RowKit Go.Draw
set_option maxRecDepth 100000
set_option maxHeartbeats 4000000
namespace DrawRounds
theorem contract (H : Type) (enc : TypeId × Value → H) (W : World) (base : Nat) (args : Array Value) (ds gs : List (DataW H)) (before : List MemPlace)
  (hval : ∀ (j : Nat) t v, Tryd.f7.params[j]? = some t → args[j]? = some v → Value.okWide Tryd.prog W .any base t v)
  (hW : DataW.Whole enc Tryd.prog Tryd.f7.params.toList Rows.drawRoundsSpec.vars false W args.toList ds gs before) (hL : laidMetH Tryd.prog Rows.drawRoundsRow.laid W) :
  Calls Tryd.prog 7 args W fun e W' => ∃ v, e = .returned v ∧ Rows.drawRoundsSpec.post enc Tryd.prog Tryd.f7 false true false false W args v W' := by
 have hW' := hW
 obtain ⟨p, q, hA0, hV, rfl, hfz, hnd⟩ := hW
 have hA : DataW.TrodAll enc Tryd.prog W 0 (fun _ => true) true Tryd.f7.params.toList args.toList ds p := hA0
 rw [Tryd.params7] at hA hval
 obtain ⟨v0, v1, d0, d1, p0, p1, rfl, rfl, rfl, h0, h1⟩ := trodAll_two hA
 obtain ⟨rfl, rfl⟩ := trodVars_none hV
 obtain ⟨l0, S0⟩ := open_sols (hval 0 22 v0 rfl rfl) h0
 obtain ⟨l1, S1⟩ := open_mvs (hval 1 53 v1 rfl rfl) h1
 clear hA0
 simp only [List.append_nil] at hW'
 have hlt : ∀ x ∈ p0 ++ p1, x.block < W.heap.size := fun x hx => by simpa using hW'.lt x (by simpa using hx)
 refine (DrawRounds_walk S0 S1 (table hL)).mono fun e W' ⟨he, hb⟩ => ?_
 subst he
 exact ⟨_, rfl, _, _, _, [], p0 ++ p1, [], hW', trodAll_mk1 (shut_bool Tryd.underlying4 _), trodAll_mk2 (Below.trod laidO (by kernel_rfl) (of_decide_eq_true (by kernel_rfl)) h0 hb (fun x hx => hlt x (by simp [hx]))) (Below.trod laidO (by kernel_rfl) (of_decide_eq_true (by kernel_rfl)) h1 hb (fun x hx => hlt x (by simp [hx]))), rfl, hb.frame _, fun h => by cases h⟩
/-- a call for the witness -/
abbrev wargs : Array Value := #[.slice none 0 0, .slice none 0 0]
theorem reads (os : Os) {H : Type} (enc : TypeId × Value → H) : ∃ places, DataW.whole enc Tryd.prog ((laidWorld os).forCall (fun _ _ => 0) ⟨#[], wargs, []⟩).memory Tryd.f7.params.toList Rows.drawRoundsSpec.vars false wargs.toList 8 = some ([.nil, .nil], [], places) :=
 ⟨[], by kernel_rfl⟩
theorem lifted (os : Os) (started : os.Started) (H : Type) (enc : TypeId × Value → H) (F : Stop.Interp) :
  ReturnsInHanded {} Tryd.checked os 7 .any ((OpenSpec.ofChange Rows.drawRoundsSpec).preRow enc Tryd.prog Tryd.f7 Rows.drawRoundsRow.domain false Rows.drawRoundsRow.laid) (((OpenSpec.ofChange Rows.drawRoundsSpec).at F).post enc Tryd.prog Tryd.f7 false true false false) := by
 obtain ⟨places, hx⟩ := reads os enc
 refine returnsInHanded_of_row (C := Tryd.checked) (s := OpenSpec.ofChange Rows.drawRoundsSpec) ownK started (by as_aux_lemma => kernel_rfl) Tryd.func7
  (witness_row_at (enc := enc) (C := Tryd.checked) false (laidWorld os) wargs rfl (by as_aux_lemma => kernel_rfl) (by as_aux_lemma => kernel_rfl) (by as_aux_lemma => kernel_rfl)
   (OpenSpec.preRow_of_cond 8 hx (by as_aux_lemma => kernel_rfl) (fun k hk => by cases hk) (by as_aux_lemma => kernel_rfl) (laid_met os _))) ?_
 intro W base args ds gs before hval hW _ _ _ hL _ _
 exact contract H enc W base args ds gs before hval hW hL
theorem fIn : (Rows.drawRoundsRow.inPlace == Tryd.prog.inPlace 7) = true := by kernel_rfl
theorem fUn : (Rows.drawRoundsRow.unfollowed == Tryd.prog.unfollowed 7) = true := by kernel_rfl
theorem fRe : (Rows.drawRoundsRow.recurses == Tryd.prog.recurses 7) = true := by kernel_rfl
theorem fNa : (Rows.drawRoundsRow.named == Tryd.prog.varsNamed 7) = true := by kernel_rfl
theorem facts : joinedFacts Tryd.prog 7 Tryd.f7 (OpenSpec.ofChange Rows.drawRoundsSpec).bare Rows.drawRoundsRow = true := by
 unfold joinedFacts
 repeat' with_reducible apply and_t
 all_goals first | with_reducible exact fIn | with_reducible exact fUn | with_reducible exact fRe | with_reducible exact fNa | with_reducible exact laidO | with_reducible exact gMaps | with_reducible exact gStops | with_reducible exact gKnobs | with_reducible exact gHeard | with_reducible exact gEnter | (as_aux_lemma => kernel_rfl)
theorem fNm : Tryd.prog.funcNamed "strickle/stricklelaw03.DrawRounds" = some 7 := by kernel_rfl
theorem said : Rows.DrawRoundsSaid :=
 OpenClaim.holds_of_cond 7 Tryd.f7 rfl rfl rfl rfl rfl rfl rfl ⟨rfl, rfl, rfl, rfl, rfl⟩ rfl rfl rfl rfl rfl fNm Tryd.func7 facts
  (of_decide_eq_true (by as_aux_lemma => kernel_rfl)) (by unfold Func.isWrapper; first | (rw [if_pos (by decide +kernel)]; kernel_rfl) | (rw [if_neg (by decide +kernel)]; exact ⟨rfl, rfl⟩))
  (fun os started H enc _ F => by rw [OpenClaim.pre_eq_preRow]; exact lifted os started H enc F)
theorem cWf : Rows.drawRoundsRow.wfByText (OpenSpec.ofChange Rows.drawRoundsSpec) = true := by kernel_rfl
theorem cGoes : false = Rows.drawRoundsRow.goesBy Tryd.pinned.checked.prog := by kernel_rfl
theorem cLooks : false = Tryd.pinned.checked.prog.looks [] := by kernel_rfl
theorem plain (f : FuncId) (fn : Func) (hf : Tryd.pinned.checked.prog.funcNamed "strickle/stricklelaw03.DrawRounds" = some f) (hfn : Tryd.pinned.checked.prog.funcs[f]? = some fn) :
  false = Tryd.pinned.checked.prog.looks [] ∧ ∀ (j : Nat) t, fn.params[j]? = some t → Tryd.pinned.checked.prog.wantsStandIn t = false := by
 obtain rfl : f = 7 := Option.some.inj (fNm.symm.trans hf) |>.symm
 obtain rfl : fn = Tryd.f7 := (Option.some.inj (Tryd.func7.symm.trans hfn)).symm
 refine ⟨cLooks, fun j t ht => ?_⟩
 rw [Tryd.params7] at ht
 have hm := Array.mem_of_getElem? ht
 simp only [List.mem_toArray, List.mem_cons, List.not_mem_nil, or_false] at hm
 rcases hm with rfl | rfl
 ·exact (show Tryd.prog.wantsStandIn 22 = false by as_aux_lemma => kernel_rfl)
 ·exact (show Tryd.prog.wantsStandIn 53 = false by as_aux_lemma => kernel_rfl)
theorem card : Rows.DrawRoundsCardSaid :=
 Claim7.holds_tied_plain_at .later [] _ _ _ _ said (fun _ h => by cases h) cWf (fun _ h => by cases h) drawRounds_row_tie rfl ⟨rfl, rfl⟩ cMain rfl plain cGoes
#print axioms card
end DrawRounds
end Go.Proofs.YtmngjhfhpldifaaDoor
end
section
namespace Go.Proofs.YtmngjhfhpldifaaDoor
open Go.ChangeShapes Go.WideShapes Go.ChangeAt Go.RowKit Go.Draw
set_option maxRecDepth 100000
set_option maxHeartbeats 4000000
namespace DrawUnions
theorem contract (H : Type) (enc : TypeId × Value → H) (W : World) (base : Nat) (args : Array Value) (ds gs : List (DataW H)) (before : List MemPlace)
  (hval : ∀ (j : Nat) t v, Tryd.f3.params[j]? = some t → args[j]? = some v → Value.okWide Tryd.prog W .any base t v)
  (hW : DataW.Whole enc Tryd.prog Tryd.f3.params.toList Rows.drawUnionsSpec.vars false W args.toList ds gs before) (hL : laidMetH Tryd.prog Rows.drawUnionsRow.laid W) :
  Calls Tryd.prog 3 args W fun e W' => ∃ v, e = .returned v ∧ Rows.drawUnionsSpec.post enc Tryd.prog Tryd.f3 false true false false W args v W' := by
 have hW' := hW
 obtain ⟨p, q, hA0, hV, rfl, hfz, hnd⟩ := hW
 have hA : DataW.TrodAll enc Tryd.prog W 0 (fun _ => true) true Tryd.f3.params.toList args.toList ds p := hA0
 rw [Tryd.params3] at hA hval
 obtain ⟨v0, v1, v2, d0, d1, d2, p0, p1, p2, rfl, rfl, rfl, h0, h1, h2⟩ := trodAll_three hA
 obtain ⟨rfl, rfl⟩ := trodVars_none hV
 obtain ⟨l0, S0⟩ := open_sols (hval 0 22 v0 rfl rfl) h0
 obtain ⟨l1, S1⟩ := open_is (hval 1 23 v1 rfl rfl) h1
 obtain ⟨l2, S2⟩ := open_is (hval 2 23 v2 rfl rfl) h2
 clear hA0
 simp only [List.append_nil] at hW'
 have hlt : ∀ x ∈ p0 ++ (p1 ++ p2), x.block < W.heap.size := fun x hx => by simpa using hW'.lt x (by simpa using hx)
 refine (DrawUnions_walk S0 S1 S2 (table hL)).mono fun e W' ⟨he, hb⟩ => ?_
 subst he
 exact ⟨_, rfl, _, _, _, [], p0 ++ (p1 ++ p2), [], hW', trodAll_mk1 (shut_bool Tryd.underlying4 _), trodAll_mk3 (Below.trod laidO (by kernel_rfl) (of_decide_eq_true (by kernel_rfl)) h0 hb (fun x hx => hlt x (by simp [hx]))) (Below.trod laidO (by kernel_rfl) (of_decide_eq_true (by kernel_rfl)) h1 hb (fun x hx => hlt x (by simp [hx]))) (Below.trod laidO (by kernel_rfl) (of_decide_eq_true (by kernel_rfl)) h2 hb (fun x hx => hlt x (by simp [hx]))), rfl, hb.frame _, fun h => by cases h⟩
/-- a call for the witness -/
abbrev wargs : Array Value := #[.slice none 0 0, .slice none 0 0, .slice none 0 0]
theorem reads (os : Os) {H : Type} (enc : TypeId × Value → H) : ∃ places, DataW.whole enc Tryd.prog ((laidWorld os).forCall (fun _ _ => 0) ⟨#[], wargs, []⟩).memory Tryd.f3.params.toList Rows.drawUnionsSpec.vars false wargs.toList 8 = some ([.nil, .nil, .nil], [], places) :=
 ⟨[], by kernel_rfl⟩
theorem lifted (os : Os) (started : os.Started) (H : Type) (enc : TypeId × Value → H) (F : Stop.Interp) :
  ReturnsInHanded {} Tryd.checked os 3 .any ((OpenSpec.ofChange Rows.drawUnionsSpec).preRow enc Tryd.prog Tryd.f3 Rows.drawUnionsRow.domain false Rows.drawUnionsRow.laid) (((OpenSpec.ofChange Rows.drawUnionsSpec).at F).post enc Tryd.prog Tryd.f3 false true false false) := by
 obtain ⟨places, hx⟩ := reads os enc
 refine returnsInHanded_of_row (C := Tryd.checked) (s := OpenSpec.ofChange Rows.drawUnionsSpec) ownK started (by as_aux_lemma => kernel_rfl) Tryd.func3
  (witness_row_at (enc := enc) (C := Tryd.checked) false (laidWorld os) wargs rfl (by as_aux_lemma => kernel_rfl) (by as_aux_lemma => kernel_rfl) (by as_aux_lemma => kernel_rfl)
   (OpenSpec.preRow_of_cond 8 hx (by as_aux_lemma => kernel_rfl) (fun k hk => by cases hk) (by as_aux_lemma => kernel_rfl) (laid_met os _))) ?_
 intro W base args ds gs before hval hW _ _ _ hL _ _
 exact contract H enc W base args ds gs before hval hW hL
theorem fIn : (Rows.drawUnionsRow.inPlace == Tryd.prog.inPlace 3) = true := by kernel_rfl
theorem fUn : (Rows.drawUnionsRow.unfollowed == Tryd.prog.unfollowed 3) = true := by kernel_rfl
theorem fRe : (Rows.drawUnionsRow.recurses == Tryd.prog.recurses 3) = true := by kernel_rfl
theorem fNa : (Rows.drawUnionsRow.named == Tryd.prog.varsNamed 3) = true := by kernel_rfl
theorem facts : joinedFacts Tryd.prog 3 Tryd.f3 (OpenSpec.ofChange Rows.drawUnionsSpec).bare Rows.drawUnionsRow = true := by
 unfold joinedFacts
 repeat' with_reducible apply and_t
 all_goals first | with_reducible exact fIn | with_reducible exact fUn | with_reducible exact fRe | with_reducible exact fNa | with_reducible exact laidO | with_reducible exact gMaps | with_reducible exact gStops | with_reducible exact gKnobs | with_reducible exact gHeard | with_reducible exact gEnter | (as_aux_lemma => kernel_rfl)
theorem fNm : Tryd.prog.funcNamed "strickle/stricklelaw03.DrawUnions" = some 3 := by kernel_rfl
theorem said : Rows.DrawUnionsSaid :=
 OpenClaim.holds_of_cond 3 Tryd.f3 rfl rfl rfl rfl rfl rfl rfl ⟨rfl, rfl, rfl, rfl, rfl⟩ rfl rfl rfl rfl rfl fNm Tryd.func3 facts
  (of_decide_eq_true (by as_aux_lemma => kernel_rfl)) (by unfold Func.isWrapper; first | (rw [if_pos (by decide +kernel)]; kernel_rfl) | (rw [if_neg (by decide +kernel)]; exact ⟨rfl, rfl⟩))
  (fun os started H enc _ F => by rw [OpenClaim.pre_eq_preRow]; exact lifted os started H enc F)
theorem cWf : Rows.drawUnionsRow.wfByText (OpenSpec.ofChange Rows.drawUnionsSpec) = true := by kernel_rfl
theorem cGoes : false = Rows.drawUnionsRow.goesBy Tryd.pinned.checked.prog := by kernel_rfl
theorem cLooks : false = Tryd.pinned.checked.prog.looks [] := by kernel_rfl
theorem plain (f : FuncId) (fn : Func) (hf : Tryd.pinned.checked.prog.funcNamed "strickle/stricklelaw03.DrawUnions" = some f) (hfn : Tryd.pinned.checked.prog.funcs[f]? = some fn) :
  false = Tryd.pinned.checked.prog.looks [] ∧ ∀ (j : Nat) t, fn.params[j]? = some t → Tryd.pinned.checked.prog.wantsStandIn t = false := by
 obtain rfl : f = 3 := Option.some.inj (fNm.symm.trans hf) |>.symm
 obtain rfl : fn = Tryd.f3 := (Option.some.inj (Tryd.func3.symm.trans hfn)).symm
 refine ⟨cLooks, fun j t ht => ?_⟩
 rw [Tryd.params3] at ht
 have hm := Array.mem_of_getElem? ht
 simp only [List.mem_toArray, List.mem_cons, List.not_mem_nil, or_false] at hm
 rcases hm with rfl | rfl | rfl
 ·exact (show Tryd.prog.wantsStandIn 22 = false by as_aux_lemma => kernel_rfl)
 ·exact (show Tryd.prog.wantsStandIn 23 = false by as_aux_lemma => kernel_rfl)
 ·exact (show Tryd.prog.wantsStandIn 23 = false by as_aux_lemma => kernel_rfl)
theorem card : Rows.DrawUnionsCardSaid :=
 Claim7.holds_tied_plain_at .later [] _ _ _ _ said (fun _ h => by cases h) cWf (fun _ h => by cases h) drawUnions_row_tie rfl ⟨rfl, rfl⟩ cMain rfl plain cGoes
#print axioms card
end DrawUnions
end Go.Proofs.YtmngjhfhpldifaaDoor
end
