import Derived.Test.YtlbhjikkpbknnaaGreatDoorHQ22
import Derived.Laws.AppendOwnNone
/-
  Given contracts of functions of the program, and laws for them, one behind the other.
-/
set_option linter.unusedVariables false
set_option linter.unusedSimpArgs false
set_option linter.unusedSectionVars false
section
namespace Go.Proofs.YtlbhjikkpbknnaaGreatDoor
open Go.RowKit Go.Rel Go.Draw
set_option maxRecDepth 100000
/-! Rounds of both -/
set_option maxHeartbeats 4000000 in
theorem Rounds_nil {w : World} {v : Value} {l : List Sol} (H : SlS w v l) (hT : Tab w) : Calls Tryz.prog 45 #[v] w fun e w' => Below w.heap.size w w' ∧ ∃ u, e = .returned (.tuple #[u, .int .i64 (errM l)]) ∧ (errM l = 0 → OwnLL w' w.heap.size u (roundsM l).1) ∧ (errM l ≠ 0 → u = .slice none 0 0) := by
 have HM := Lib.hid (moulded_x H)
 have HT := Lib.hid hT
 clear H hT
 go_enter Tryz.func45, Tryz.ntmps45
 go_wp2_with fail
 refine HM.out.mono ?_
 rintro e w1 ⟨hb, p, rfl, hx, -⟩
 by_cases h0 : errM l = 0
 ·obtain ⟨hl, g, mb, rfl, hg, hmb, hM⟩ := hx h0
  have HR := Lib.hid (rounds_spec' hM hl (HT.out.grow hb))
  have HB := Lib.hid (And.intro hb (And.intro hmb h0))
  rw [h0]
  clear hb hx h0 hM hl
  go_wp2_with fail
  refine HR.out.mono ?_
  rintro e w2 ⟨u, rfl, hO, hW, hgr⟩
  go_wp2_with fail
  go_ret2
  exact ⟨gb_base HB.out.1 hgr HB.out.2.1, u, by rw [HB.out.2.2]; rfl, fun _ => hO.weak HB.out.1.size, fun h => absurd HB.out.2.2 h⟩
 ·have e0 : (errM l != 0) = true := by simpa using h0
  have HB := Lib.hid (And.intro hb h0)
  clear hb hx h0
  go_wp2_with fail
  go_ret2
  exact ⟨HB.out.1, _, by rfl, fun h => absurd h HB.out.2, fun _ => rfl⟩
def rndL (m : List Sol) : List (List Int) := if errM m = 0 then (roundsM m).1.map intsL else []
theorem slLL_nil {w : World} : SlLL w (.slice none 0 0) [] := ⟨[], sl_nil, rfl, fun i u l h => by simp at h⟩
theorem Rounds_n {w : World} {v : Value} {m : List Sol} (H : SlS w v m) (hT : Tab w) : Calls Tryz.prog 45 #[v] w fun e w' => ∃ u, e = .returned (.tuple #[u, .int .i64 (errM m)]) ∧ SlLL w' u (rndL m) ∧ Below w.heap.size w w' := by
 refine (Rounds_nil H hT).mono ?_
 rintro e w2 ⟨hb, u, rfl, h0, h1⟩
 refine ⟨u, rfl, ?_, hb⟩
 unfold rndL
 by_cases h : errM m = 0
 ·rw [if_pos h]; exact (h0 h).sll
 ·rw [if_neg h, h1 h]; exact slLL_nil
theorem own_news {w : World} {base : Nat} {l : List Nat} {a : Addr} {n c : Nat} (h : OwnI w base (.slice (some a) n c) (intsL l)) : n = l.length ∧ ∀ (j : Nat) (u : Value), ((intsL l).map (Value.int .i64))[j]? = some u → w.cell? (a.add j) = some u := by
 obtain ⟨hl, ⟨h0, _⟩ | ⟨g, cap, cur, hv, hb, hg, hnc, hcm, hcs, htake⟩⟩ := h
 ·cases h0
 ·simp only [Value.slice.injEq, Option.some.injEq] at hv
  obtain ⟨rfl, hn, rfl⟩ := hv
  rw [intsL_length] at hn
  refine ⟨hn, fun j u hu => ?_⟩
  have hj : j < (intsL l).length := by
   have := (List.getElem?_eq_some_iff.1 hu).1
   simpa using this
  rw [← htake, List.getElem?_take, if_pos (by omega)] at hu
  rw [Go.WideShapes.add_plain, Nat.zero_add, cell_of_row w g _ cur _ (0, 0) hg, ← hu, Array.getElem?_toList]
theorem bel_app {w w' W : World} {e : TypeId} {size n : Nat} {v : Value} {xs : List Value} (hb : Below w.heap.size w W) (hr : W.ownsRow w.heap.size e size v n xs) (hg : W.grownBy w' v.ownBlock) : Below w.heap.size w w' := hb.grown hg hb.size (fun j hj => (hr.lt j hj).1)
theorem card_readyG {A G R : U} (hR : R ≠ 0) (h : ∀ i : Nat, R.getLsbD i = true → A.getLsbD i = true ∧ G.getLsbD i = false) : cardU (A &&& ~~~(G ||| R)) < cardU (A &&& ~~~G) := card_ready hR h
theorem readyR_le {m : List Sol} (of g : List Nat) : (readyR m of g).length ≤ of.length := by unfold readyR; exact List.length_filter_le _ _
set_option maxHeartbeats 8000000 in
theorem refRounds_n {w : World} {v : Value} {m : List Sol} (H : SlS w v m) : Calls Tryz.prog 46 #[v] w fun e w' => ∃ u, e = .returned (.tuple #[u, .int .i64 (errM m)]) ∧ SlLL w' u (rndL m) ∧ Below w.heap.size w w' := by
 obtain ⟨i0, hi, hz0, hz1, hz2⟩ := info_parts infoInt
 have HI0 := Lib.hid (And.intro hi (And.intro hz0 (And.intro hz1 hz2))); clear hi hz0 hz1 hz2
 obtain ⟨i1, hi, hz0, hz1, hz2⟩ := info_parts infoInts
 have HI1 := Lib.hid (And.intro hi (And.intro hz0 (And.intro hz1 hz2))); clear hi hz0 hz1 hz2
 obtain ⟨R, hR⟩ : ∃ R, R = rndL m := ⟨_, rfl⟩
 obtain ⟨F, hF⟩ : ∃ F, F = errM m := ⟨_, rfl⟩
 rw [← hR, ← hF]
 unfold rndL at hR
 have H1 := Lib.hid (refMould_spec H)
 rw [← hF] at H1 hR
 obtain ⟨ai, nn, c, rfl, hnn, hc, hcm⟩ := H.out
 subst hnn
 have HH := Lib.hid (And.intro H (And.intro hR hF))
 clear H hR hF
 go_enter Tryz.func46, Tryz.ntmps46
 go_wp2_with fail
 refine H1.out.mono ?_
 rintro e w2 ⟨rfl, hb2⟩
 have HB := Lib.hid hb2
 clear hb2
 by_cases hF0 : F = 0
 ·obtain ⟨h12, hg⟩ := errM_zero.1 (HH.out.2.2.symm.trans hF0)
  have HQ := Lib.hid (And.intro h12 hg)
  have HWO := Lib.hid (WaysOf_spec (HH.out.1.mono HB.out) h12)
  have hRR : R = (roundsR m 13 [] []).map intsL := by
   rw [HH.out.2.1, if_pos hF0, rounds_ref (good_apart hg) h12 13 [] [] (fun i hi => by cases hi)]; rfl
  have HRR := Lib.hid hRR
  subst hF0
  clear h12 hg hRR
  go_wp2_with fail
  refine HWO.out.mono ?_
  rintro e w4 ⟨hb4, mv, nv, rfl, hW⟩
  obtain ⟨bm, nm, cm, bn, nn, cn, rfl, rfl⟩ := hW.sls
  have H4 := Lib.hid (And.intro (bel_trans HB.out hb4) hW)
  clear hb4 hW HWO
  obtain ⟨n, hn⟩ : ∃ n, n = m.length := ⟨_, rfl⟩
  have hn12 : n ≤ 12 := by rw [hn]; exact HQ.out.1
  rw [← hn] at hc ⊢
  have HN := Lib.hid hn
  clear hn
  go_wp2_with fail
  obtain ⟨wb, hwb⟩ : ∃ wb, wb = w4.alloc (.cells #[.slice bm nm cm, .slice bn nn cn] 111) := ⟨_, rfl⟩
  have hb5 : Below w4.heap.size w4 wb := by subst hwb; exact bel_alloc (bel_refl _) _
  have hB5 : Blk wb w4.heap.size #[.slice bm nm cm, .slice bn nn cn] 111 := by subst hwb; exact Blk.new _ _ _
  rw [← hwb]
  obtain ⟨N0, hN0⟩ : ∃ N, N = w4.heap.size := ⟨_, rfl⟩
  rw [← hN0] at hB5 ⊢
  have H5 := Lib.hid (And.intro (bel_trans H4.out.1 hb5) (And.intro hB5 (H4.out.2.mono hb5)))
  clear hwb hb5 hB5 hN0
  have HAL := Lib.hid fun W => all_ref (w := W) ai n c (by omega)
  have HRD := Lib.hid fun W (h : Below wb.heap.size wb W) ov (ho : SlI W ov (intsL (List.range n))) gv g (hg : SlI W gv (intsL g)) => readyR_spec (H5.out.2.2.mono h) ho hg (fun p hp => by have := List.mem_range.1 hp; have := HN.out; omega) (by rw [List.length_range]; omega)
  have HRA := Lib.hid (show listU (allU m.length) = List.range n by rw [all_list HQ.out.1, HN.out])
  go_loopw [6, 7] (fun gv ov wx => ∃ (k : Nat) (g : List Nat) (out : List (List Nat)), lenV ov = out.length ∧ Hid (R = (roundsR m k g out).map intsL ∧ out.length + k = 13 ∧ g.length ≤ 12 * out.length ∧ (∀ i ∈ g, i < 64) ∧ cardU (allU m.length &&& ~~~(setF g)) < k ∧ OwnI wx wb.heap.size gv (intsL g) ∧ OwnLL wx wb.heap.size ov out ∧ Below wb.heap.size wb wx)) (fun _ ov _ => 13 - lenV ov)
  case atStart => exact ⟨13, [], [], rfl, Lib.hid ⟨HRR.out, rfl, Nat.le_refl _, (fun i hi => by cases hi), Nat.lt_of_le_of_lt (card_sub HQ.out.1 (sub_andl _ _)) (by omega), World.ownsRow_nil _ _ _ _, OwnLL.nil _ _, Below.refl _ _⟩⟩
  case round =>
   obtain ⟨k, g, out, hlv, HI⟩ := hrel
   obtain ⟨p6, n6, c6, hu6⟩ := own_shapeN HI.out.2.2.2.2.2.1
   obtain ⟨p7, n7, c7, hu7⟩ := own_shapeN HI.out.2.2.2.2.2.2.1.choose_spec.1
   subst hu6 hu7
   have hn7 : n7 = out.length := hlv
   have HN7 := Lib.hid hn7
   clear hlv hn7
   obtain ⟨RD, hRD⟩ : ∃ L, L = readyR m (List.range n) g := ⟨_, rfl⟩
   have HRDe := Lib.hid hRD
   clear hRD
   have B5 := H5.out.2.1.grow HI.out.2.2.2.2.2.2.2
   have HC0 := Lib.hid fun W (h : Below wr.heap.size wr W) => (show W.cell? ⟨N0, 0, none⟩ = some (.slice bm nm cm) ∧ W.cell? ⟨N0, 1, none⟩ = some (.slice bn nn cn) ∧ N0 < W.heap.size from ⟨(B5.grow h).cell 0, (B5.grow h).cell 1, (B5.grow h).lt⟩)
   clear B5
   go_wp2_with fail
   refine wp_region_val Grows (fun _ _ _ => True) [Is (.agg #[.slice bm nm cm, .slice bn nn cn]), Is (.slice ai n c), (fun u W => SlI W u (intsL (List.range n))), Is (.slice p6 n6 c6), (fun u W => OwnI W wr.heap.size u (intsL RD)), (fun u W => OwnI W wr.heap.size u (intsL RD))] (by kernel_rfl) (by kernel_rfl) rfl Grows.refl (fun _ _ _ => Grows.trans) (stable_mem ⟨fun _ _ _ h _ => h, fun _ _ _ h _ => h, (fun _ _ _ h g => h.mono g), fun _ _ _ h _ => h, (fun _ _ _ h g => own_bel h g), (fun _ _ _ h g => own_bel h g), trivial⟩) wr (Below.drew (Below.refl _ _)) trivial ?_
   refine val_cons ?_ (fun v0 => ?_)
   ·intro L vs w1 hvs hat hb hI hF; try simp [factsI, Region.binds, Is] at hF
    obtain ⟨c0, c1, l3⟩ := HC0.out w1 hb
    clear hI
    go_simp
    try simp [upd]
    try exact Grows.refl _
   refine val_cons ?_ (fun v1 => ?_)
   ·intro L vs w1 hvs hat hb hI hF; try simp [factsI, Region.binds, Is] at hF
    have hc := (Grows.cells hb).1
    clear hI
    go_simp
    try simp [upd]
    try first | exact Grows.refl _ | exact trivial | exact ⟨Grows.refl _, trivial⟩
   refine val_cons ?_ (fun v2 => ?_)
   ·intro L vs w1 hvs hat hb hI hF; try simp [factsI, Region.binds, Is] at hF
    clear hI
    go_simp
    refine (HAL.out w1).mono ?_
    rintro e w3 ⟨hb3, o, rfl, ho⟩
    exact ⟨o, rfl, hb3, ho.sl⟩
   refine val_cons ?_ (fun v3 => ?_)
   ·intro L vs w1 hvs hat hb hI hF; try simp [factsI, Region.binds, Is] at hF
    have hc := (Grows.cells hb).1
    clear hI
    go_simp
    try simp [upd]
    try first | exact Grows.refl _ | exact trivial | exact ⟨Grows.refl _, trivial⟩
   refine val_cons ?_ (fun v4 => ?_)
   ·intro L vs w1 hvs hat hb hI hF; try simp [factsI, Region.binds, Is] at hF
    clear hI
    go_simp
    refine (HRD.out w1 (bel_trans HI.out.2.2.2.2.2.2.2 hb) _ hF.2.1 _ g ((OwnI.sl HI.out.2.2.2.2.2.1).mono hb)).mono ?_
    rintro e w3 ⟨hb3, o, rfl, ho⟩
    rw [← HRDe.out] at ho
    exact ⟨o, rfl, hb3, own_weak ho hb.size⟩
   refine val_cons ?_ (fun v5 => ?_)
   ·intro L vs w1 hvs hat hb hI hF; try simp [factsI, Region.binds, Is] at hF
    clear hI
    go_simp
    exact Grows.refl _
   refine val_nil ?_
   intro vs w1 hvs hb hI hF
   simp [Is, Nat.forall_lt_succ_right] at hF
   have e0 := hF.1.1.1.1.1
   have e1 := hF.1.1.1.1.2
   have e2 := hF.1.1.1.2
   have e3 := hF.1.1.2
   have e4 := hF.1.2
   have e5 := hF.2
   clear hF
   simp only [Act.put, List.setIfInBounds_toArray, List.set_cons_succ, List.set_cons_zero, e0, e1, e3]
   clear e0 e1 e3
   obtain ⟨p8, c8, hu8⟩ := ints_shape (OwnI.sl e5)
   rw [intsL_length] at hu8
   subst hu8
   have HZ := Lib.hid (And.intro (bel_trans HI.out.2.2.2.2.2.2.2 hb) (And.intro (own_bel HI.out.2.2.2.2.2.1 hb) (And.intro (HI.out.2.2.2.2.2.2.1.bel hb) e5)))
   have hwr : wb.heap.size ≤ wr.heap.size := HI.out.2.2.2.2.2.2.2.size
   clear hb hI hvs e2 e4 e5
   obtain ⟨k', hk'⟩ : ∃ k', k = k' + 1 := ⟨k - 1, by have := HI.out.2.2.2.2.1; omega⟩
   have hstep : R = (if RD.isEmpty then out else roundsR m k' (g ++ RD) (out ++ [RD])).map intsL := by
    rw [HI.out.1, hk', roundsR, HRA.out, ← HRDe.out]
   have hRDl : RD.length ≤ 12 := by rw [HRDe.out]; exact Nat.le_trans (readyR_le _ _) (by rw [List.length_range]; exact hn12)
   have HST := Lib.hid (And.intro hstep (And.intro hk' hRDl))
   clear hstep hk' hRDl
   obtain ⟨r8, hr8⟩ : ∃ r, r = RD.length := ⟨_, rfl⟩
   rw [← hr8]
   have HR8 := Lib.hid hr8
   clear hr8
   by_cases h0 : r8 = 0
   ·subst h0
    have HE := Lib.hid (show R = out.map intsL by
     rw [HST.out.1, show RD = [] from List.eq_nil_of_length_eq_zero HR8.out.symm]; rfl)
    go_wp2_with fail
    go_ret2
    exact ⟨_, rfl, by rw [HE.out]; exact HZ.out.2.2.1.sll, bel_trans H5.out.1 HZ.out.1⟩
   ·have h0b : ((r8 : Int) == 0) = false := by simp; omega
    have hne : RD ≠ [] := fun h => h0 (by rw [HR8.out, h]; rfl)
    have HE := Lib.hid (show R = (roundsR m k' (g ++ RD) (out ++ [RD])).map intsL by
     rw [HST.out.1, if_neg (by cases RD with
      | nil => exact absurd rfl hne
      | cons a l => simp)])
    obtain ⟨us, hus, hul, hin⟩ := HZ.out.2.2.1
    have hus2 : w1.ownsRow wb.heap.size 23 1 (.slice p7 n7 c7) out.length us := by rw [← hul]; exact hus
    have hol : out.length ≤ 13 := by have := HI.out.2.1; omega
    have hbw : wb.heap.size ≤ w1.heap.size := HZ.out.1.size
    have HX := Lib.hid (And.intro hus2 (And.intro hul (And.intro hin hus)))
    clear hus hus2 hul hin hne
    go_upto_region 11 with (first
     | (at_builtin; refine wpList_append_own _ rfl _ _ 40 rfl wb.heap.size 23 i1 (.slice none 0 0) 1 24 Tryz.underlying40 HI1.out.1 HI1.out.2.1 HI1.out.2.2.1 HI1.out.2.2.2 rfl (by decide) _ _ _ rfl (HX.out.1.alloc _) ⟨w1.heap.size, 0, none⟩ 1 1 [.slice p8 r8 c8] rfl rfl (cell_one_new _ _ _) (fun x hx => by simp at hx; subst hx; rfl) (by unfold maxLen; omega) (by omega) (by simp; omega) ?_; intro v7 w7 hown7 hgrow7 hnil7))
    have hR := HX.out.1.alloc (.cells #[.slice p8 r8 c8] 23)
    have hg7 := own_keptT (HZ.out.2.1.alloc _) hR (by decide) hgrow7
    have hu0 : OwnI w1 wb.heap.size (.slice p8 r8 c8) (intsL RD) := by rw [HR8.out]; exact own_weak HZ.out.2.2.2 hwr
    have hr7 : OwnI w7 wb.heap.size (.slice p8 r8 c8) (intsL RD) := own_keptT (hu0.alloc _) hR (by decide) hgrow7
    have ho7 : OwnLL w7 wb.heap.size v7 (out ++ [RD]) := OwnG.join ownI_grown (ownI_kept (by decide)) HX.out.2.2.2 HX.out.2.1 HX.out.2.2.1 hu0 (by rw [HX.out.2.1]; exact hown7) hgrow7
    have hb7 : Below wb.heap.size w1 w7 := ((bel_alloc (bel_refl w1) _).mono hbw).grown hgrow7 (by simp; omega) (fun j hj => (hR.lt j hj).1)
    obtain ⟨pv, cv, hv7, _, _⟩ := own_shape' hown7
    have HY := Lib.hid (And.intro hg7 (And.intro hr7 (And.intro ho7 (And.intro hb7 hv7))))
    have hbw7 : wb.heap.size ≤ w7.heap.size := Nat.le_trans hbw hb7.size
    clear hR hg7 hu0 hr7 ho7 hb7 hgrow7 hnil7 hown7 hv7
    have h64 : ∀ i ∈ g ++ RD, i < 64 := fun i hi => by
     rcases List.mem_append.1 hi with h | h
     ·exact HI.out.2.2.2.1 i h
     ·rw [HRDe.out] at h
      have := List.mem_range.1 (List.mem_filter.1 h).1; omega
    have hcard : cardU (allU m.length &&& ~~~(setF (g ++ RD))) < k' := by
     have hre : RD = listU (readyM m (setF g)) := by
      have h := readyR_set (good_apart HQ.out.2) HQ.out.1 (Sub.refl (allU m.length)) HI.out.2.2.2.1
      rw [HRA.out] at h
      rw [HRDe.out, h]
      congr 1
      apply Sub.antisymm
      ·intro i hi; rw [BitVec.getLsbD_and, Bool.and_eq_true] at hi; exact hi.2
      ·intro i hi; rw [BitVec.getLsbD_and, hi, ready_all' HQ.out.1 (setF g) i hi]; rfl
     have hrl : ∀ i ∈ RD, i < 64 := fun i hi => h64 i (List.mem_append.2 (.inr hi))
     rw [setF_append HI.out.2.2.2.1 hrl, hre, setF_list]
     have hne : readyM m (setF g) ≠ 0 := fun h => h0 (by rw [HR8.out, hre, h]; rfl)
     have hlt := card_readyG (A := allU m.length) (G := setF g) hne (fun i hi => by
      rw [ready_bit m (by have := HQ.out.1; omega)] at hi
      simp only [Bool.and_eq_true, decide_eq_true_eq, Bool.not_eq_true'] at hi
      rw [allU_bit _ _ (by have := HQ.out.1; omega)]
      exact ⟨decide_eq_true hi.1.1, hi.2⟩)
     have := HI.out.2.2.2.2.1; have := HST.out.2.1; omega
    have hfin : ∀ vZ wZ, OwnI wZ w7.heap.size vZ (intsL (g ++ RD)) → Below w7.heap.size w7 wZ → (∃ (k : Nat) (g : List Nat) (out : List (List Nat)), lenV v7 = out.length ∧ Hid (R = (roundsR m k g out).map intsL ∧ out.length + k = 13 ∧ g.length ≤ 12 * out.length ∧ (∀ i ∈ g, i < 64) ∧ cardU (allU m.length &&& ~~~(setF g)) < k ∧ OwnI wZ wb.heap.size vZ (intsL g) ∧ OwnLL wZ wb.heap.size v7 out ∧ Below wb.heap.size wb wZ)) ∧ 13 - lenV v7 < 13 - lenV (.slice p7 n7 c7) := by
     intro vZ wZ hZ hb
     have hlv : lenV v7 = out.length + 1 := by rw [HY.out.2.2.2.2]; rfl
     refine ⟨⟨k', g ++ RD, out ++ [RD], by rw [hlv]; simp, Lib.hid ⟨HE.out, ?_, ?_, h64, hcard, own_weak hZ hbw7, HY.out.2.2.1.bel hb, (HZ.out.1.trans HY.out.2.2.2.1).trans (hb.mono hbw7)⟩⟩, ?_⟩
     ·have := HI.out.2.1; have := HST.out.2.1; simp; omega
     ·have := HI.out.2.2.1; have := HST.out.2.2; simp; omega
     ·rw [hlv]; show 13 - (out.length + 1) < 13 - n7
      have := HI.out.2.1; have := HST.out.2.1; have := HN7.out; omega
    have HFIN := Lib.hid hfin
    clear hfin h64 hcard
    have hgl : g.length ≤ 200 := by have := HI.out.2.2.1; omega
    have hr8l : r8 ≤ 12 := by rw [HR8.out]; exact HST.out.2.2
    obtain ⟨a8, rfl⟩ : ∃ a, p8 = some a := by
     rcases HY.out.2.1.2 with ⟨h, _⟩ | ⟨gq, _, _, h, _⟩
     ·simp only [Value.slice.injEq] at h; exact absurd h.2.1 h0
     ·simp only [Value.slice.injEq] at h; exact ⟨_, h.1⟩
    have HROW := Lib.hid (show (w7.alloc (.cells #[] 3)).ownsRow w7.heap.size 3 1 (.slice (some ⟨w7.heap.size, 0, none⟩) 0 0) 0 [] from ⟨rfl, .inr ⟨w7.heap.size, 0, #[], rfl, Nat.le_refl _, Blk.new w7 #[] 3, Nat.le_refl _, Nat.zero_le _, rfl, rfl⟩⟩)
    rcases HY.out.1.2 with ⟨hgn, hg0⟩ | ⟨gq, _, _, hgs, _⟩
    ·simp only [Value.slice.injEq] at hgn
     obtain ⟨rfl, rfl, rfl⟩ := hgn
     have hg00 : g = [] := by rw [intsL_length] at hg0; exact List.eq_nil_of_length_eq_zero hg0
     subst hg00
     clear hg0
     have HN8 := Lib.hid (own_news (HY.out.2.1.alloc (.cells #[] 3)))
     go_wp2_with (first
      | (at_builtin; refine wpList_append_own_none rfl _ _ 23 rfl w7.heap.size 3 i0 1 Tryz.underlying23 HI0.out.1 _ 0 [] rfl HROW.out rfl ?_)
      | (at_builtin; refine wpList_append_own _ rfl _ _ 23 rfl w7.heap.size 3 i0 (.int .i64 0) 1 8 Tryz.underlying23 HI0.out.1 HI0.out.2.1 HI0.out.2.2.1 HI0.out.2.2.2 rfl (by decide) _ _ _ rfl HROW.out a8 r8 _ ((intsL RD).map (Value.int .i64)) rfl (by rw [List.length_map, intsL_length, Nat.mul_one]; exact HR8.out.symm) HN8.out.2 (fun x hx => by obtain ⟨q, _, rfl⟩ := List.mem_map.1 hx; rfl) (by unfold maxLen; omega) (by omega) (by simp) ?_; intro vZ wZ hownZ hgrowZ hnilZ; have hbZ := bel_app (bel_alloc (bel_refl w7) _) HROW.out hgrowZ))
     refine HFIN.out _ _ ?_ hbZ
     have e1 : (intsL ([] ++ RD)).length = 0 + r8 := by rw [intsL_length, HR8.out]; simp
     have e2 : (intsL ([] ++ RD)).map (Value.int .i64) = [] ++ (intsL RD).map (Value.int .i64) := rfl
     unfold OwnI
     rw [e1, e2]; exact hownZ
    ·simp only [Value.slice.injEq] at hgs
     obtain ⟨rfl, hn6, rfl⟩ := hgs
     have HN9 := Lib.hid (own_news (HY.out.1.alloc (.cells #[] 3)))
     have hn6g : n6 = g.length := HN9.out.1
     go_wp2_with (first
      | (at_builtin; refine wpList_append_own _ rfl _ _ 23 rfl w7.heap.size 3 i0 (.int .i64 0) 1 8 Tryz.underlying23 HI0.out.1 HI0.out.2.1 HI0.out.2.2.1 HI0.out.2.2.2 rfl (by decide) _ _ _ rfl HROW.out ⟨gq, 0, none⟩ n6 _ ((intsL g).map (Value.int .i64)) rfl (by rw [List.length_map, intsL_length, Nat.mul_one]; exact hn6g.symm) HN9.out.2 (fun x hx => by obtain ⟨q, _, rfl⟩ := List.mem_map.1 hx; rfl) (by unfold maxLen; omega) (by omega) (by simp) ?_; intro v9 w9 hown9 hgrow9 hnil9; have hb9 := bel_app (bel_alloc (bel_refl w7) _) HROW.out hgrow9; have hn9 := (own_news (own_bel HY.out.2.1 hb9)).2)
      | (at_builtin; refine wpList_append_own _ rfl _ _ 23 rfl w7.heap.size 3 i0 (.int .i64 0) 1 8 Tryz.underlying23 HI0.out.1 HI0.out.2.1 HI0.out.2.2.1 HI0.out.2.2.2 rfl (by decide) _ _ _ rfl hown9 a8 r8 _ ((intsL RD).map (Value.int .i64)) rfl (by rw [List.length_map, intsL_length, Nat.mul_one]; exact HR8.out.symm) hn9 (fun x hx => by obtain ⟨q, _, rfl⟩ := List.mem_map.1 hx; rfl) (by unfold maxLen; omega) (by omega) hb9.size ?_; intro vZ wZ hownZ hgrowZ hnilZ; have hbZ := bel_app hb9 hown9 hgrowZ))
     refine HFIN.out _ _ ?_ hbZ
     have e1 : (intsL (g ++ RD)).length = 0 + n6 + r8 := by rw [intsL_length, HR8.out, hn6g]; simp
     have e2 : (intsL (g ++ RD)).map (Value.int .i64) = [] ++ (intsL g).map (Value.int .i64) ++ (intsL RD).map (Value.int .i64) := by simp [intsL]
     unfold OwnI
     rw [e1, e2]; exact hownZ
 ·have h1 : ¬ (F = 0) := hF0
  go_wp2_with fail
  refine bodyPost_ret (v := .tuple #[.slice none 0 0, .int .i64 F]) (by simp [results, Tryz.results46, go_sem]) rfl ⟨.slice none 0 0, rfl, ?_, HB.out⟩
  rw [HH.out.2.1, if_neg hF0]; exact slLL_nil
end Go.Proofs.YtlbhjikkpbknnaaGreatDoor
end
section
namespace Go.Proofs.YtlbhjikkpbknnaaGreatDoor
open Go.RowKit Go.Rel Go.Draw
set_option maxRecDepth 100000
/-! Needs of both; Paths -/
def ndL (m : List Sol) (p : Int) : List Int := if needE m p = 0 then intsL (listU (needsU m p.toNat)) else []
theorem Needs_n {w : World} {v : Value} {m : List Sol} {p : Int} (H : SlS w v m) (hT : Tab w) : Calls Tryz.prog 20 #[v, .int .i64 p] w fun e w' => ∃ u, e = .returned (.tuple #[u, .int .i64 (needE m p)]) ∧ SlI w' u (ndL m p) ∧ Below w.heap.size w w' := by
 refine (Needs_spec H hT).mono ?_
 rintro e w2 ⟨hb, u, rfl, h0, h1⟩
 refine ⟨u, rfl, ?_, hb⟩
 unfold ndL
 by_cases h : needE m p = 0
 ·rw [if_pos h]; exact (h0 h).sl
 ·rw [if_neg h, h1 h]; exact sl_nil
def ptL (m : List Sol) (p : Int) : List (List Int) := if askE m [] [p] = 0 then ((pathsM m p.toNat).map listU).map intsL else []
theorem Paths_n {w : World} {v : Value} {m : List Sol} {p : Int} (H : SlS w v m) (hT : Tab w) : Calls Tryz.prog 22 #[v, .int .i64 p] w fun e w' => ∃ u, e = .returned (.tuple #[u, .int .i64 (askE m [] [p])]) ∧ SlLL w' u (ptL m p) ∧ Below w.heap.size w w' := by
 refine (Paths_spec H hT).mono ?_
 rintro e w2 ⟨hb, u, rfl, h0, h1⟩
 refine ⟨u, rfl, ?_, hb⟩
 unfold ptL
 by_cases h : askE m [] [p] = 0
 ·rw [if_pos h]; exact (h0 h).sll
 ·rw [if_neg h, h1 h]; exact slLL_nil
def ndK (m : List Sol) (p k : Nat) : List Nat := (List.range k).filter fun q => decide (q ≠ p) && !(goR m (allU m.length &&& ~~~(bit q))).contains p
theorem ndK_succ (m : List Sol) (p k : Nat) : ndK m p (k + 1) = ndK m p k ++ (if decide (k ≠ p) && !(goR m (allU m.length &&& ~~~(bit k))).contains p then [k] else []) := by
 unfold ndK
 rw [List.range_succ, List.filter_append]
 congr 1
 cases h : (decide (k ≠ p) && !(goR m (allU m.length &&& ~~~(bit k))).contains p) <;> simp only [List.filter_cons, List.filter_nil, h] <;> rfl
theorem ndK_len (m : List Sol) (p k : Nat) : (ndK m p k).length ≤ k := by
 unfold ndK
 exact Nat.le_trans (List.length_filter_le _ _) (by rw [List.length_range]; exact Nat.le_refl _)
theorem needs_sub (m : List Sol) (p : Nat) : Sub (needsU m p) (allU m.length) := fun i hi => by
 unfold needsU at hi
 have : ∀ (L : List U) (a : U), (L.foldl (· &&& ·) a).getLsbD i = true → a.getLsbD i = true := by
  intro L
  induction L with
  | nil => exact fun a h => h
  | cons b L ih => intro a h; have := ih _ h; rw [BitVec.getLsbD_and, Bool.and_eq_true] at this; exact this.1
 have h := this _ _ hi
 rw [BitVec.getLsbD_and, Bool.and_eq_true] at h; exact h.1
theorem needs_list {m : List Sol} (hg : goodM m = true) (hm : m.length ≤ 12) {p : Nat} (hp : p < m.length) : ndK m p m.length = listU (needsU m p) := by
 rw [listU_range hm (needs_sub m p)]
 unfold ndK
 refine List.filter_congr fun q hq => ?_
 have hql := List.mem_range.1 hq
 by_cases h : q = p
 ·subst h
  rw [needs_bit hm hql hql]; simp
 ·rw [needs_ref (good_apart hg) hm hp hql h, decide_eq_true h, Bool.true_and]
theorem asked_in {m : List Sol} {p : Int} (h : askE m [] [p] = 0) : errM m = 0 ∧ ∃ P : Nat, p = (P : Int) ∧ P < m.length := by
 rw [askE_one_eq] at h
 by_cases h0 : errM m = 0
 ·rw [if_neg (by simpa using h0)] at h
  refine ⟨h0, p.toNat, ?_⟩
  split at h
  ·rename_i hc
   simp only [Bool.and_eq_true, decide_eq_true_eq] at hc
   obtain ⟨⟨⟨_, h1⟩, h2⟩, _⟩ := hc
   omega
  ·cases h
 ·rw [if_pos h0] at h; exact absurd h h0
/-- a tuple of a row of numbers and what more -/
def TupI (l : List Nat) (u : Value) (W : World) : Prop := ∃ a b, u = .tuple #[a, b] ∧ SlI W a (intsL l)
theorem TupI.mono {l : List Nat} {u : Value} {W W' : World} (h : TupI l u W) (g : Below W.heap.size W W') : TupI l u W' := by
 obtain ⟨a, b, e, h⟩ := h; exact ⟨a, b, e, h.mono g⟩
set_option maxHeartbeats 8000000 in
theorem refNeeds_n {w : World} {v : Value} {m : List Sol} {p : Int} (H : SlS w v m) : Calls Tryz.prog 21 #[v, .int .i64 p] w fun e w' => ∃ u, e = .returned (.tuple #[u, .int .i64 (needE m p)]) ∧ SlI w' u (ndL m p) ∧ Below w.heap.size w w' := by
 obtain ⟨i0, hi, hz0, hz1, hz2⟩ := info_parts infoInt
 have HI0 := Lib.hid (And.intro hi (And.intro hz0 (And.intro hz1 hz2))); clear hi hz0 hz1 hz2
 obtain ⟨R, hR⟩ : ∃ R, R = ndL m p := ⟨_, rfl⟩
 obtain ⟨NE, hNE⟩ : ∃ F, F = needE m p := ⟨_, rfl⟩
 obtain ⟨F, hF⟩ : ∃ F, F = askE m [] [p] := ⟨_, rfl⟩
 rw [← hR, ← hNE]
 unfold ndL at hR
 rw [← hNE] at hR
 unfold needE at hNE
 have H1 := Lib.hid (refAsked_spec (gone := []) (gv := .slice none 0 0) p H sl_nil)
 rw [← hF] at H1 hNE
 obtain ⟨ai, nn, c, rfl, hnn, hc, hcm⟩ := H.out
 subst hnn
 have HH := Lib.hid (And.intro H (And.intro hR (And.intro hF hNE)))
 clear H hR hF hNE
 go_enter Tryz.func21, Tryz.ntmps21
 go_wp2_with fail
 refine H1.out.mono ?_
 rintro e w2 ⟨rfl, hb2⟩
 have HB := Lib.hid hb2
 clear hb2
 by_cases hF0 : F = 0
 ·obtain ⟨hE0, P, rfl, hP⟩ := asked_in (HH.out.2.2.1.symm.trans hF0)
  obtain ⟨h12, hg⟩ := errM_zero.1 hE0
  have hstk := stuck_ref (good_apart hg) h12 (p := P)
  unfold goR at hstk
  rw [all_list h12] at hstk
  have hnl := needs_list hg h12 hP
  obtain ⟨ST, hST⟩ : ∃ b, b = (pathsM m P).isEmpty := ⟨_, rfl⟩
  have hNE1 : NE = if ST then 30 else 0 := by
   rw [HH.out.2.2.2, if_neg (by simpa using hF0), hST]; rfl
  have hR1 : R = if NE = 0 then intsL (ndK m P m.length) else [] := by rw [HH.out.2.1, hnl]; rfl
  rw [← hST] at hstk
  have HQ := Lib.hid (And.intro h12 (And.intro hg (And.intro hP (And.intro hNE1 (And.intro hR1 hstk)))))
  have HWO := Lib.hid (WaysOf_spec (HH.out.1.mono HB.out) h12)
  subst hF0
  clear h12 hg hE0 hP hstk hnl hNE1 hR1 hST
  go_wp2_with fail
  refine HWO.out.mono ?_
  rintro e w4 ⟨hb4, mv, nv, rfl, hW⟩
  obtain ⟨bm, nm, cm, bn, nn, cn, rfl, rfl⟩ := hW.sls
  have H4 := Lib.hid (And.intro (bel_trans HB.out hb4) hW)
  clear hb4 hW HWO
  obtain ⟨n, hn⟩ : ∃ n, n = m.length := ⟨_, rfl⟩
  have hn12 : n ≤ 12 := by rw [hn]; exact HQ.out.1
  have hPn : P < n := by rw [hn]; exact HQ.out.2.2.1
  rw [← hn] at hc ⊢
  have HN := Lib.hid hn
  clear hn
  go_wp2_with fail
  obtain ⟨wb, hwb⟩ : ∃ wb, wb = w4.alloc (.cells #[.slice bm nm cm, .slice bn nn cn] 111) := ⟨_, rfl⟩
  have hb5 : Below w4.heap.size w4 wb := by subst hwb; exact bel_alloc (bel_refl _) _
  have hB5 : Blk wb w4.heap.size #[.slice bm nm cm, .slice bn nn cn] 111 := by subst hwb; exact Blk.new _ _ _
  rw [← hwb]
  obtain ⟨N0, hN0⟩ : ∃ N, N = w4.heap.size := ⟨_, rfl⟩
  rw [← hN0] at hB5 ⊢
  have H5 := Lib.hid (And.intro (bel_trans H4.out.1 hb5) (And.intro hB5 (H4.out.2.mono hb5)))
  clear hwb hb5 hB5 hN0
  have HAL := Lib.hid fun W => all_ref (w := W) ai n c (by omega)
  have HOT := Lib.hid fun W (k : Nat) => others_spec (w := W) ai n c (k : Int) (by omega)
  have HGA := Lib.hid fun W (h : Below wb.heap.size wb W) ov (ho : SlI W ov (intsL (List.range n))) => greedy_spec (H5.out.2.2.mono h) ho (fun p hp => by have := List.mem_range.1 hp; have := HN.out; omega) HQ.out.1 (by rw [List.length_range]; omega)
  have HGO := Lib.hid fun W (h : Below wb.heap.size wb W) (k : Nat) ov (ho : SlI W ov (intsL (othersL n k))) => greedy_spec (H5.out.2.2.mono h) ho (fun p hp => by have := List.mem_range.1 (List.mem_filter.1 hp).1; have := HN.out; omega) HQ.out.1 (Nat.le_trans (List.length_filter_le _ _) (by rw [List.length_range]; omega))
  obtain ⟨GA, hGA⟩ : ∃ G, G = (greedyF m (List.range n) 12 [] []).1 := ⟨_, rfl⟩
  have hctl : GA.contains P = !ST := by rw [hGA, HN.out]; exact HQ.out.2.2.2.2.2
  rw [← hGA] at HGA
  have HCT := Lib.hid hctl
  clear hGA hctl
  have HC0 := Lib.hid fun W (h : Below wb.heap.size wb W) => (show W.cell? ⟨N0, 0, none⟩ = some (.slice bm nm cm) ∧ W.cell? ⟨N0, 1, none⟩ = some (.slice bn nn cn) ∧ N0 < W.heap.size from ⟨(H5.out.2.1.grow h).cell 0, (H5.out.2.1.grow h).cell 1, (H5.out.2.1.grow h).lt⟩)
  refine wp_region_val Grows (fun _ _ _ => True) [Is (.agg #[.slice bm nm cm, .slice bn nn cn]), Is (.slice ai n c), (fun u W => SlI W u (intsL (List.range n))), (TupI GA), (TupI GA), (fun u W => SlI W u (intsL GA)), AnyV, (fun u W => SlI W u (intsL GA)), AnyV] (by kernel_rfl) (by kernel_rfl) rfl Grows.refl (fun _ _ _ => Grows.trans) (stable_mem ⟨fun _ _ _ h _ => h, fun _ _ _ h _ => h, (fun _ _ _ h g => h.mono g), (fun _ _ _ h g => h.mono g), (fun _ _ _ h g => h.mono g), (fun _ _ _ h g => h.mono g), fun _ _ _ h _ => h, (fun _ _ _ h g => h.mono g), fun _ _ _ h _ => h, trivial⟩) wb (Below.drew (Below.refl _ _)) trivial ?_
  refine val_cons ?_ (fun v0 => ?_)
  ·intro L vs w1 hvs hat hb hI hF; try simp [factsI, Region.binds, Is] at hF
   obtain ⟨c0, c1, l3⟩ := HC0.out w1 hb
   clear hI
   go_simp
   try simp [upd]
   try exact Grows.refl _
  refine val_cons ?_ (fun v1 => ?_)
  ·intro L vs w1 hvs hat hb hI hF; try simp [factsI, Region.binds, Is] at hF
   have hc := (Grows.cells hb).1
   clear hI
   go_simp
   try simp [upd]
   try first | exact Grows.refl _ | exact trivial | exact ⟨Grows.refl _, trivial⟩
  refine val_cons ?_ (fun v2 => ?_)
  ·intro L vs w1 hvs hat hb hI hF; try simp [factsI, Region.binds, Is] at hF
   clear hI
   go_simp
   refine (HAL.out w1).mono ?_
   rintro e w3 ⟨hb3, o, rfl, ho⟩
   exact ⟨o, rfl, hb3, ho.sl⟩
  refine val_cons ?_ (fun v3 => ?_)
  ·intro L vs w1 hvs hat hb hI hF; try simp [factsI, Region.binds, Is] at hF
   clear hI
   go_simp
   refine (HGA.out w1 hb _ hF.2).mono ?_
   rintro e w3 ⟨hb3, a, b, rfl, ha, _⟩
   exact ⟨_, rfl, hb3, a, b, rfl, ha.sl⟩
  refine val_cons ?_ (fun v4 => ?_)
  ·intro L vs w1 hvs hat hb hI hF; try simp [factsI, Region.binds, Is] at hF
   clear hI
   go_simp
   first | exact Grows.refl _ | exact ⟨Grows.refl _, hF⟩
  refine val_cons ?_ (fun v5 => ?_)
  ·intro L vs w1 hvs hat hb hI hF; try simp [factsI, Region.binds, Is] at hF
   clear hI
   obtain ⟨a, b, rfl, ha⟩ := hF
   go_simp
   first | exact Grows.refl _ | exact ⟨Grows.refl _, ha⟩
  refine val_cons ?_ (fun v6 => ?_)
  ·intro L vs w1 hvs hat hb hI hF; try simp [factsI, Region.binds, Is] at hF
   clear hI
   obtain ⟨a, b, rfl, ha⟩ := hF
   go_simp
   first | exact Grows.refl _ | exact ⟨Grows.refl _, trivial⟩
  refine val_cons ?_ (fun v7 => ?_)
  ·intro L vs w1 hvs hat hb hI hF; try simp [factsI, Region.binds, Is] at hF
   clear hI
   go_simp
   exact Grows.refl _
  refine val_cons ?_ (fun v8 => ?_)
  ·intro L vs w1 hvs hat hb hI hF; try simp [factsI, Region.binds, Is] at hF
   have hc := (Grows.cells hb).1
   clear hI
   go_simp
   try simp [upd]
   try first | exact Grows.refl _ | exact trivial | exact ⟨Grows.refl _, trivial⟩
  refine val_nil ?_
  intro vs w1 hvs hb hI hF
  simp [Is, Nat.forall_lt_succ_right] at hF
  have e0 := hF.1.1.1.1.1.1.1.1
  have e1 := hF.1.1.1.1.1.1.1.2
  have e2 := hF.1.1.1.1.1.1.2
  have e3 := hF.1.1.1.1.1.2
  have e4 := hF.1.1.1.1.2
  have e5 := hF.1.1.1.2
  have e6 := hF.1.1.2
  have e7 := hF.1.2
  have e8 := hF.2
  clear hF
  simp only [Act.put, List.setIfInBounds_toArray, List.set_cons_succ, List.set_cons_zero, e0, e1]
  clear e0 e1
  have HIn := Lib.hid (In_spec (P : Int) e7)
  rw [intsL_contains, HCT.out] at HIn
  have HZ0 := Lib.hid hb
  clear hb hI hvs e2 e3 e4 e5 e6 e7 e8
  go_wp2_with fail
  refine HIn.out.mono ?_
  rintro e w3 ⟨rfl, rfl⟩
  clear HIn
  cases ST with
  | true =>
   have HNE := Lib.hid (show NE = 30 from HQ.out.2.2.2.1)
   go_wp2_with fail
   refine bodyPost_ret (v := .tuple #[.slice none 0 0, .int .i64 30]) (by simp [results, Tryz.results21, go_sem]) rfl ⟨.slice none 0 0, by rw [HNE.out], ?_, bel_trans H5.out.1 HZ0.out⟩
   rw [HH.out.2.1, HNE.out, if_neg (by decide)]; exact sl_nil
  | false =>
   have HNE := Lib.hid (show NE = 0 from HQ.out.2.2.2.1)
   have HR := Lib.hid (show R = intsL (ndK m P m.length) by rw [HQ.out.2.2.2.2.1, HNE.out, if_pos rfl])
   go_wp2_with fail
   go_loopw [10, 11] (fun ov kv wx => ∃ (k : Nat), k ≤ n ∧ kv = .int .i64 k ∧ Hid (OwnI wx wb.heap.size ov (intsL (ndK m P k)) ∧ Below wb.heap.size wb wx)) (fun _ kv _ => n - (intOf kv).toNat)
   case atStart => exact ⟨0, Nat.zero_le _, rfl, Lib.hid ⟨World.ownsRow_nil _ _ _ _, HZ0.out⟩⟩
   case round =>
    obtain ⟨k, hk, rfl, HI⟩ := hrel
    by_cases hlt : k < n
    ·have hd : decide ((k : Int) < (n : Int)) = true := decide_eq_true (by omega)
     have hx := HI.out.1
     obtain ⟨p6, n6, c6, hu6⟩ := own_shapeN hx
     subst hu6
     clear hx
     by_cases hkP : k = P
     ·subst hkP
      have HKS := Lib.hid (show ndK m k (k + 1) = ndK m k k by rw [ndK_succ]; simp)
      go_wp2_with fail
      refine ⟨⟨k + 1, by omega, by simp, Lib.hid ⟨by rw [HKS.out]; exact HI.out.1, HI.out.2⟩⟩, by simp [intOf]; omega⟩
     ·have hkb : ((k : Int) == (P : Int)) = false := by simp; omega
      obtain ⟨GB, hGB⟩ : ∃ G, G = goR m (allU m.length &&& ~~~(bit k)) := ⟨_, rfl⟩
      have hks := ndK_succ m P k
      rw [← hGB, decide_eq_true hkP, Bool.true_and] at hks
      have hge : GB = (greedyF m (othersL n k) 12 [] []).1 := by rw [hGB]; unfold goR; rw [others_list HQ.out.1, ← HN.out]
      have HGB := Lib.hid fun W (h : Below wb.heap.size wb W) ov (ho : SlI W ov (intsL (othersL n k))) => HGO.out W h k ov ho
      rw [← hge] at HGB
      clear hGB hge
      obtain ⟨CT, hCT⟩ : ∃ b, b = GB.contains P := ⟨_, rfl⟩
      rw [← hCT] at hks
      have HKS := Lib.hid (And.intro hks hCT)
      clear hks hCT
      have hWB := HI.out.2
      have B5 := H5.out.2.1.grow hWB
      have HC1 := Lib.hid fun W (h : Below wr.heap.size wr W) => (show W.cell? ⟨N0, 0, none⟩ = some (.slice bm nm cm) ∧ W.cell? ⟨N0, 1, none⟩ = some (.slice bn nn cn) ∧ N0 < W.heap.size from ⟨(B5.grow h).cell 0, (B5.grow h).cell 1, (B5.grow h).lt⟩)
      clear B5 hWB
      go_wp2_with fail
      refine wp_region_val Grows (fun _ _ _ => True) [Is (.agg #[.slice bm nm cm, .slice bn nn cn]), Is (.slice ai n c), Is (.int .i64 (k : Int)), (fun u W => SlI W u (intsL (othersL n k))), (TupI GB), (TupI GB), (fun u W => SlI W u (intsL GB)), AnyV, (fun u W => SlI W u (intsL GB)), AnyV] (by kernel_rfl) (by kernel_rfl) rfl Grows.refl (fun _ _ _ => Grows.trans) (stable_mem ⟨fun _ _ _ h _ => h, fun _ _ _ h _ => h, fun _ _ _ h _ => h, (fun _ _ _ h g => h.mono g), (fun _ _ _ h g => h.mono g), (fun _ _ _ h g => h.mono g), (fun _ _ _ h g => h.mono g), fun _ _ _ h _ => h, (fun _ _ _ h g => h.mono g), fun _ _ _ h _ => h, trivial⟩) wr (Below.drew (Below.refl _ _)) trivial ?_
      refine val_cons ?_ (fun v0 => ?_)
      ·intro L vs w1 hvs hat hb hI hF; try simp [factsI, Region.binds, Is] at hF
       obtain ⟨c0, c1, l3⟩ := HC1.out w1 hb
       clear hI
       go_simp
       try simp [upd]
       try exact Grows.refl _
      refine val_cons ?_ (fun v1 => ?_)
      ·intro L vs w1 hvs hat hb hI hF; try simp [factsI, Region.binds, Is] at hF
       have hc := (Grows.cells hb).1
       clear hI
       go_simp
       try simp [upd]
       try first | exact Grows.refl _ | exact trivial | exact ⟨Grows.refl _, trivial⟩
      refine val_cons ?_ (fun v2 => ?_)
      ·intro L vs w1 hvs hat hb hI hF; try simp [factsI, Region.binds, Is] at hF
       have hc := (Grows.cells hb).1
       clear hI
       go_simp
       try simp [upd]
       try first | exact Grows.refl _ | exact trivial | exact ⟨Grows.refl _, trivial⟩
      refine val_cons ?_ (fun v3 => ?_)
      ·intro L vs w1 hvs hat hb hI hF; try simp [factsI, Region.binds, Is] at hF
       clear hI
       go_simp
       refine (HOT.out w1 k).mono ?_
       rintro e w3 ⟨hb3, o, rfl, ho⟩
       rw [othersI_nat] at ho
       exact ⟨o, rfl, hb3, ho.sl⟩
      refine val_cons ?_ (fun v4 => ?_)
      ·intro L vs w1 hvs hat hb hI hF; try simp [factsI, Region.binds, Is] at hF
       clear hI
       go_simp
       refine (HGB.out w1 (bel_trans HI.out.2 hb) _ hF.2).mono ?_
       rintro e w3 ⟨hb3, a, b, rfl, ha, _⟩
       exact ⟨_, rfl, hb3, a, b, rfl, ha.sl⟩
      refine val_cons ?_ (fun v5 => ?_)
      ·intro L vs w1 hvs hat hb hI hF; try simp [factsI, Region.binds, Is] at hF
       clear hI
       go_simp
       first | exact Grows.refl _ | exact ⟨Grows.refl _, hF⟩
      refine val_cons ?_ (fun v6 => ?_)
      ·intro L vs w1 hvs hat hb hI hF; try simp [factsI, Region.binds, Is] at hF
       clear hI
       obtain ⟨a, b, rfl, ha⟩ := hF
       go_simp
       first | exact Grows.refl _ | exact ⟨Grows.refl _, ha⟩
      refine val_cons ?_ (fun v7 => ?_)
      ·intro L vs w1 hvs hat hb hI hF; try simp [factsI, Region.binds, Is] at hF
       clear hI
       obtain ⟨a, b, rfl, ha⟩ := hF
       go_simp
       first | exact Grows.refl _ | exact ⟨Grows.refl _, trivial⟩
      refine val_cons ?_ (fun v8 => ?_)
      ·intro L vs w1 hvs hat hb hI hF; try simp [factsI, Region.binds, Is] at hF
       clear hI
       go_simp
       exact Grows.refl _
      refine val_cons ?_ (fun v9 => ?_)
      ·intro L vs w1 hvs hat hb hI hF; try simp [factsI, Region.binds, Is] at hF
       have hc := (Grows.cells hb).1
       clear hI
       go_simp
       try simp [upd]
       try first | exact Grows.refl _ | exact trivial | exact ⟨Grows.refl _, trivial⟩
      refine val_nil ?_
      intro vs w1 hvs hb hI hF
      simp [Is, Nat.forall_lt_succ_right] at hF
      have e0 := hF.1.1.1.1.1.1.1.1.1
      have e1 := hF.1.1.1.1.1.1.1.1.2
      have e2 := hF.1.1.1.1.1.1.1.2
      have e3 := hF.1.1.1.1.1.1.2
      have e4 := hF.1.1.1.1.1.2
      have e5 := hF.1.1.1.1.2
      have e6 := hF.1.1.1.2
      have e7 := hF.1.1.2
      have e8 := hF.1.2
      have e9 := hF.2
      clear hF
      simp only [Act.put, List.setIfInBounds_toArray, List.set_cons_succ, List.set_cons_zero, e0, e1, e2]
      clear e0 e1 e2
      have HIn := Lib.hid (In_spec (P : Int) e8)
      rw [intsL_contains, ← HKS.out.2] at HIn
      have HZ := Lib.hid (And.intro (own_bel HI.out.1 hb) (bel_trans HI.out.2 hb))
      clear hb hI hvs e3 e4 e5 e6 e7 e8 e9
      go_wp2_with fail
      refine HIn.out.mono ?_
      rintro e w4 ⟨rfl, rfl⟩
      clear HIn
      cases CT with
      | true =>
       go_wp2_with fail
       refine ⟨⟨k + 1, by omega, by simp, Lib.hid ⟨?_, HZ.out.2⟩⟩, by simp [intOf]; omega⟩
       rw [HKS.out.1]
       simpa using HZ.out.1
      | false =>
       have hx := HZ.out.1
       have hbs : wb.heap.size ≤ w4.heap.size := HZ.out.2.size
       try unfold OwnI at hx
       rw [intsL_length] at hx
       have hlen := ndK_len m P k
       have HX := Lib.hid hx; clear hx
       go_wp2_with (first
        | (at_builtin; refine wpList_append_own _ rfl _ _ 23 rfl wb.heap.size 3 i0 (.int .i64 0) 1 8 Tryz.underlying23 HI0.out.1 HI0.out.2.1 HI0.out.2.2.1 HI0.out.2.2.2 rfl (by decide) _ _ _ rfl (HX.out.alloc _) ⟨w4.heap.size, 0, none⟩ 1 1 [.int .i64 (k : Int)] rfl rfl (cell_one_new _ _ _) (fun x hx => by simp at hx; subst hx; rfl) (by unfold maxLen; omega) (by omega) (by simp; omega) ?_; intro v' w7 hown' hgrow7 hnil7))
       have hb7 : Below wb.heap.size w4 w7 := ((bel_alloc (bel_refl w4) (.cells #[.int .i64 (k : Int)] 3)).mono hbs).grown hgrow7 (by simp; omega) (fun j hj => ((HX.out.alloc (.cells #[.int .i64 (k : Int)] 3)).lt j hj).1)
       refine ⟨⟨k + 1, by omega, by simp, Lib.hid ⟨?_, HZ.out.2.trans hb7⟩⟩, by simp [intOf]; omega⟩
       rw [HKS.out.1, if_pos (by rfl)]
       unfold OwnI
       rw [intsL_length, List.length_append]
       unfold intsL at *
       rw [List.map_append, List.map_append]
       exact hown'
    ·have hd : decide ((k : Int) < (n : Int)) = false := decide_eq_false (by omega)
     have hfin := HI.out.1
     rw [show k = m.length by have := HN.out; omega] at hfin
     have HFI := Lib.hid (show SlI wr _ R by rw [HR.out]; exact hfin.sl)
     clear hfin
     go_wp2_with fail
     go_ret2
     have hne := HNE.out
     subst hne
     exact ⟨_, rfl, HFI.out, bel_trans H5.out.1 HI.out.2⟩
 ·have h1 : ¬ (F = 0) := hF0
  have HNE := Lib.hid (show NE = F by rw [HH.out.2.2.2, if_pos hF0])
  go_wp2_with fail
  refine bodyPost_ret (v := .tuple #[.slice none 0 0, .int .i64 F]) (by simp [results, Tryz.results21, go_sem]) rfl ⟨.slice none 0 0, by rw [HNE.out], ?_, HB.out⟩
  rw [HH.out.2.1, HNE.out, if_neg hF0]; exact sl_nil
end Go.Proofs.YtlbhjikkpbknnaaGreatDoor
end
