import Derived.Test.YtkfimbonmnoglaaGreatDoorG09
/-
  Given contracts of functions of the program, and laws for them, one behind the other.
-/
set_option linter.unusedVariables false
set_option linter.unusedSimpArgs false
set_option linter.unusedSectionVars false
section
namespace Go.Solid
open Go.Draw
set_option maxRecDepth 100000
/-! the laws of parts -/
abbrev partsS (s : Sol) : List Sol := classesS (stepsL false) s
/-- within a part everything is led together by cells of the part -/
theorem reach_in {St : List Cl} {s K : Sol} {c e : Cl} (hK : IsComp St s c K) (h : Reach St s c e) : Reach St K c e := by
 induction h with
 | start _ => exact Reach.start hK.has
 | step hr hd hh ih => exact ih.step hd (hK.closed _ (comp_all hK hr) _ hd hh)
theorem reach_trans {St : List Cl} {s : Sol} {a b c : Cl} (h : Reach St s a b) (k : Reach St s b c) : Reach St s a c := by
 induction k with
 | start _ => exact h
 | step _ hd hh ih => exact ih.step hd hh
theorem reach_one {St : List Cl} {s : Sol} {c d : Cl} (hc : hasS s c = true) (hd : d ∈ St) (h : hasS s (addC c d) = true) : Reach St s c (addC c d) := (Reach.start hc).step hd h
theorem reach_symm {St : List Cl} (hS : Sym St) {s : Sol} {a b : Cl} (h : Reach St s a b) : Reach St s b a := by
 induction h with
 | start h => exact Reach.start h
 | @step e d hr hd hh ih =>
  have h1 : Reach St s (addC e d) e := by
   have := reach_one (s := s) hh (hS d hd) (by rw [add_neg]; exact hr.has)
   rw [add_neg] at this; exact this
  exact reach_trans h1 ih
/-- a part is its only part -/
theorem comp_self {St : List Cl} (hS : Sym St) {s K : Sol} {c c' : Cl} (hK : IsComp St s c K) (hc' : hasS K c' = true) : IsComp St K c' K := by
 refine ⟨subS_refl _, hc', fun e he => ?_, fun e _ d _ h => h⟩
 exact reach_trans (reach_symm hS (reach_in hK (hK.reach c' hc'))) (reach_in hK (hK.reach e he))
theorem has_zero (c : Cl) : hasS 0 c = false := by
 rw [not_has]; intro h
 have := mem_cellsS.2 h
 rw [cellsS_zero] at this; cases this
theorem cut_self (K : Sol) : cutS K K = 0 := by
 refine Classical.byContradiction fun h => ?_
 obtain ⟨c, hc⟩ := has_some h
 obtain ⟨h1, h2⟩ := cut_has.1 hc
 rw [h1] at h2; cases h2
theorem clsR_zero (St : List Cl) : ∀ n, clsR St n 0 = []
 | 0 => rfl
 | n + 1 => by
  rw [clsR]
  split
  ·rfl
  ·rename_i h; rw [cellsS_zero] at h; cases h
theorem parts_part {St : List Cl} (hS : Sym St) {s K : Sol} {c : Cl} (hK : IsComp St s c K) : classesS St K = [K] := by
 rw [classes_ref St K (n := 513) (Nat.le_succ_of_le (count_512 K)), clsR]
 cases h : cellsS K with
 | nil =>
  have := mem_cellsS.2 hK.has
  rw [h] at this; cases this
 | cons c' t =>
  have hc' : hasS K c' = true := mem_cellsS.1 (by rw [h]; exact List.mem_cons_self)
  have e : partS St K c' = K := comp_unique (comp_spec hc') (comp_self hS hK hc')
  simp only
  rw [e, cut_self, clsR_zero]
/-! a solid with all cells that touch it -/
def grownS (s : Sol) : Sol := orF s (((cellsS s).flatMap fun c => (stepsL false).map fun d => addC c d).filter inG |>.map bitN)
theorem orF_has {s : Sol} {l : List Cl} (hl : ∀ c ∈ l, inG c = true) {e : Cl} : hasS (orF s (l.map bitN)) e = true ↔ hasS s e = true ∨ e ∈ l := by
 unfold hasS
 cases he : inG e with
 | false =>
  constructor
  ·intro h; simp at h
  ·rintro (h | h)
   ·simp at h
   ·rw [hl e h] at he; cases he
 | true =>
  rw [Bool.true_and, Bool.true_and, orF_bit _ _ (bitN_lt he), Bool.or_eq_true, decide_eq_true_eq, List.mem_map]
  refine or_congr Iff.rfl ⟨?_, fun h => ⟨e, h, rfl⟩⟩
  rintro ⟨c, hc, h⟩
  rw [← bitN_inj (hl c hc) he h]; exact hc
theorem grown_has {s : Sol} {e : Cl} : hasS (grownS s) e = true ↔ hasS s e = true ∨ inG e = true ∧ ∃ c d, hasS s c = true ∧ d ∈ stepsL false ∧ e = addC c d := by
 unfold grownS
 rw [orF_has (fun c hc => (List.mem_filter.1 hc).2), List.mem_filter, List.mem_flatMap]
 refine or_congr Iff.rfl ⟨?_, ?_⟩
 ·rintro ⟨⟨c, hc, h⟩, hg⟩
  obtain ⟨d, hd, rfl⟩ := List.mem_map.1 h
  exact ⟨hg, c, d, mem_cellsS.1 hc, hd, rfl⟩
 ·rintro ⟨hg, c, d, hc, hd, rfl⟩
  exact ⟨⟨c, mem_cellsS.2 hc, List.mem_map.2 ⟨d, hd, rfl⟩⟩, hg⟩
theorem meet_zero {a b : Sol} : a &&& b = 0 ↔ ∀ c, hasS a c = true → hasS b c = false := by
 have hm : ∀ c, hasS (a &&& b) c = (hasS a c && hasS b c) := fun c => by
  unfold hasS
  cases inG c with
  | false => rfl
  | true => rw [Bool.true_and, Bool.true_and, Bool.true_and, BitVec.getLsbD_and]
 constructor
 ·intro h c hc
  have := hm c
  rw [h, has_zero, hc, Bool.true_and] at this
  exact this.symm
 ·intro h
  refine Classical.byContradiction fun h0 => ?_
  obtain ⟨c, hc⟩ := has_some h0
  rw [hm, Bool.and_eq_true] at hc
  rw [h c hc.1] at hc; cases hc.2
def orAll (l : List Sol) : Sol := l.foldl (fun a b => a ||| b) 0
theorem orAll_has {l : List Sol} : ∀ {a : Sol} {c : Cl}, hasS (l.foldl (fun a b => a ||| b) a) c = true ↔ hasS a c = true ∨ ∃ K ∈ l, hasS K c = true := by
 induction l with
 | nil => intro a c; simp
 | cons K l ih =>
  intro a c
  rw [List.foldl_cons, ih, or_has]
  constructor
  ·rintro ((h | h) | ⟨L, h1, h2⟩)
   ·exact .inl h
   ·exact .inr ⟨K, List.mem_cons_self, h⟩
   ·exact .inr ⟨L, List.mem_cons_of_mem _ h1, h2⟩
  ·rintro (h | ⟨L, h1, h2⟩)
   ·exact .inl (.inl h)
   ·rcases List.mem_cons.1 h1 with rfl | h1
    ·exact .inl (.inr h2)
    ·exact .inr ⟨L, h1, h2⟩
theorem has_ext {a b : Sol} (h : ∀ c, hasS a c = true ↔ hasS b c = true) : a = b := sol_has fun c _ => by rw [Bool.eq_iff_iff]; exact h c
/-- no two parts touch -/
theorem parts_apart {s : Sol} : (partsS s).Pairwise fun A B => A &&& grownS B = 0 := by
 have hP := classes_parts (steps_sym false) s
 have key : ∀ A ∈ partsS s, ∀ B ∈ partsS s, (∀ e, hasS A e = true → hasS B e = false) → A &&& grownS B = 0 := by
  intro A hA B hB hAB
  rw [meet_zero]
  intro e he
  rw [not_has]; intro hg
  rcases grown_has.1 hg with h | ⟨_, c, d, hc, hd, rfl⟩
  ·rw [hAB e he] at h; cases h
  ·obtain ⟨c0, _, kA, _⟩ := hP.comp A hA
   obtain ⟨c1, _, kB, _⟩ := hP.comp B hB
   have := kB.closed c hc d hd (subS_iff.1 kA.sub _ he)
   rw [hAB _ he] at this; cases this
 exact List.Pairwise.imp_of_mem (fun {A B} hA hB h => key A hA B hB h) hP.apart
theorem parts_join {s : Sol} : orAll (partsS s) = s := by
 have hP := classes_parts (steps_sym false) s
 refine has_ext fun c => ?_
 unfold orAll
 rw [orAll_has]
 constructor
 ·rintro (h | ⟨K, h1, h2⟩)
  ·rw [has_zero] at h; cases h
  ·obtain ⟨_, _, kK, _⟩ := hP.comp K h1
   exact subS_iff.1 kK.sub c h2
 ·intro h
  exact .inr (hP.all c h)
/-! sums over the parts -/
theorem sumZ_flat {α : Type} (f : Cl → Int) (g : α → List Cl) : ∀ l : List α, sumZ f (l.flatMap g) = (l.map fun a => sumZ f (g a)).sum
 | [] => rfl
 | a :: l => by rw [List.flatMap_cons, sumZ_append, sumZ_flat f g l, List.map_cons, List.sum_cons]
theorem nodup_flat {g : Sol → List Cl} : ∀ {l : List Sol}, (∀ a ∈ l, (g a).Nodup) → l.Pairwise (fun A B => ∀ e, e ∈ g A → ¬ e ∈ g B) → (l.flatMap g).Nodup
 | [], _, _ => List.nodup_nil
 | a :: l, h, hp => by
  rw [List.flatMap_cons, List.nodup_append]
  rw [List.pairwise_cons] at hp
  refine ⟨h a List.mem_cons_self, nodup_flat (fun b hb => h b (List.mem_cons_of_mem _ hb)) hp.2, ?_⟩
  rintro e he e' he' rfl
  obtain ⟨b, hb, hbe⟩ := List.mem_flatMap.1 he'
  exact hp.1 b hb e he hbe
theorem mem_seen {s : Sol} {p : Cl} : p ∈ seenF (ptsS s) ↔ ∃ c, hasS s c = true ∧ ∀ k, -1 ≤ co p k - (2 * co c k + 1) ∧ co p k - (2 * co c k + 1) ≤ 1 := by
 rw [(seen_spec _).2, pts_iff]
theorem euler_parts (s : Sol) : eulerS s = ((partsS s).map eulerS).sum := by
 have hP := classes_parts (steps_sym false) s
 have hperm : (seenF (ptsS s)).Perm ((partsS s).flatMap fun K => seenF (ptsS K)) := by
  refine (List.perm_ext_iff_of_nodup (seen_spec _).1 (nodup_flat (fun K _ => (seen_spec _).1) ?_)).2 fun p => ?_
  ·refine List.Pairwise.imp_of_mem (fun {A B} hA hB h => ?_) hP.apart
   intro p hpA hpB
   obtain ⟨a, ha, ka⟩ := mem_seen.1 hpA
   obtain ⟨b, hb, kb⟩ := mem_seen.1 hpB
   obtain ⟨_, _, cA, _⟩ := hP.comp A hA
   obtain ⟨_, _, cB, _⟩ := hP.comp B hB
   have hd : subC a b ∈ stepsL false := steps_all fun k => by
    have h1 := ka k; have h2 := kb k
    have e : co (subC a b) k = co a k - co b k := by
     match k with
     | 0 => rfl
     | 1 => rfl
     | _ + 2 => rfl
    rw [e]; omega
   have := cB.closed b hb (subC a b) hd (by rw [add_sub]; exact subS_iff.1 cA.sub a ha)
   rw [add_sub, h a ha] at this; cases this
  ·rw [List.mem_flatMap, mem_seen]
   constructor
   ·rintro ⟨c, hc, hk⟩
    obtain ⟨K, h1, h2⟩ := hP.all c hc
    exact ⟨K, h1, mem_seen.2 ⟨c, h2, hk⟩⟩
   ·rintro ⟨K, h1, h2⟩
    obtain ⟨c, hc, hk⟩ := mem_seen.1 h2
    obtain ⟨_, _, cK, _⟩ := hP.comp K h1
    exact ⟨c, subS_iff.1 cK.sub c hc, hk⟩
 unfold eulerS
 rw [sumZ_perm _ hperm, sumZ_flat]
theorem faces_touch {d : Cl} (h : d ∈ stepsL true) : d ∈ stepsL false := steps_all (steps_in h)
theorem natsum_perm {f : Cl → Nat} {l m : List Cl} (h : l.Perm m) : (l.map f).sum = (m.map f).sum := (h.map f).sum_nat
theorem natsum_flat {f : Cl → Nat} {g : Sol → List Cl} : ∀ l : List Sol, ((l.flatMap g).map f).sum = (l.map fun a => ((g a).map f).sum).sum
 | [] => rfl
 | a :: l => by rw [List.flatMap_cons, List.map_append, List.sum_append, natsum_flat l, List.map_cons, List.sum_cons]
theorem cells_parts (s : Sol) : (cellsS s).Perm ((partsS s).flatMap cellsS) := by
 have hP := classes_parts (steps_sym false) s
 refine (List.perm_ext_iff_of_nodup (cellsS_nodup s) (nodup_flat (fun K _ => cellsS_nodup K) ?_)).2 fun c => ?_
 ·refine hP.apart.imp fun {A B} h => ?_
  intro e he hb
  have := h e (mem_cellsS.1 he)
  rw [mem_cellsS.1 hb] at this; cases this
 ·rw [List.mem_flatMap, mem_cellsS]
  constructor
  ·intro h
   obtain ⟨K, h1, h2⟩ := hP.all c h
   exact ⟨K, h1, mem_cellsS.2 h2⟩
  ·rintro ⟨K, h1, h2⟩
   obtain ⟨_, _, cK, _⟩ := hP.comp K h1
   exact subS_iff.1 cK.sub c (mem_cellsS.1 h2)
theorem skin_parts (s : Sol) : skinS s = ((partsS s).map skinS).sum := by
 have hP := classes_parts (steps_sym false) s
 unfold skinS
 rw [natsum_perm (cells_parts s), natsum_flat]
 congr 1
 refine List.map_congr_left fun K hK => ?_
 congr 1
 refine List.map_congr_left fun c hc => ?_
 unfold bareN
 congr 1
 refine List.filter_congr fun d hd => ?_
 congr 1
 obtain ⟨_, _, cK, _⟩ := hP.comp K hK
 rw [Bool.eq_iff_iff]
 exact ⟨fun h => cK.closed c (mem_cellsS.1 hc) d (faces_touch hd) h, fun h => subS_iff.1 cK.sub _ h⟩
/-! the skin is even -/
/-- cells behind which, one step on, there is no cell -/
def bareD (s : Sol) (d : Cl) : Nat := ((cellsS s).filter fun c => !hasS s (addC c d)).length
def fullD (s : Sol) (d : Cl) : Nat := ((cellsS s).filter fun c => hasS s (addC c d)).length
theorem split_len {α : Type} (p : α → Bool) : ∀ l : List α, (l.filter fun a => !p a).length + (l.filter p).length = l.length
 | [] => rfl
 | a :: l => by
  have := split_len p l
  rw [List.filter_cons, List.filter_cons, List.length_cons]
  cases p a
  ·simp only [Bool.not_false, if_true, Bool.false_eq_true, if_false, List.length_cons]; omega
  ·simp only [Bool.not_true, if_true, Bool.false_eq_true, if_false, List.length_cons]; omega
theorem neg_add (e d : Cl) : addC (addC e (negC d)) d = e := by
 unfold addC negC
 exact Prod.ext (by simp only; omega) (Prod.ext (by simp only; omega) (by simp only; omega))
theorem full_neg (s : Sol) (d : Cl) : fullD s (negC d) ≤ fullD s d := by
 unfold fullD
 rw [← List.length_map (fun c => addC c (negC d))]
 refine List.Nodup.length_le_of_subset ?_ ?_
 ·refine List.pairwise_map.2 (((cellsS_nodup s).filter _).imp fun {a b} hne h => hne ?_)
  have := congrArg (fun c => addC c d) h
  simp only [neg_add] at this
  exact this
 ·intro e he
  obtain ⟨c, hc, rfl⟩ := List.mem_map.1 he
  obtain ⟨h1, h2⟩ := List.mem_filter.1 hc
  exact List.mem_filter.2 ⟨mem_cellsS.2 h2, by rw [neg_add]; exact mem_cellsS.1 h1⟩
theorem bare_neg (s : Sol) (d : Cl) : bareD s (negC d) = bareD s d := by
 have h1 := split_len (fun c => hasS s (addC c d)) (cellsS s)
 have h2 := split_len (fun c => hasS s (addC c (negC d))) (cellsS s)
 have h3 := full_neg s d
 have h4 := full_neg s (negC d)
 have e : negC (negC d) = d := by
  unfold negC
  exact Prod.ext (by simp only; omega) (Prod.ext (by simp only; omega) (by simp only; omega))
 rw [e] at h4
 unfold bareD
 unfold fullD at h3 h4
 omega
theorem skin_dirs (s : Sol) : skinS s = bareD s (-1, 0, 0) + bareD s (0, -1, 0) + bareD s (0, 0, -1) + bareD s (1, 0, 0) + bareD s (0, 1, 0) + bareD s (0, 0, 1) := by
 unfold skinS bareD
 simp only [filter_len]
 induction cellsS s with
 | nil => rfl
 | cons c l ih =>
  simp only [List.map_cons, List.sum_cons]
  rw [ih, bare_eq]
  unfold bareR
  omega
theorem skin_even (s : Sol) : skinS s % 2 = 0 := by
 rw [skin_dirs]
 have h1 := bare_neg s (1, 0, 0); have h2 := bare_neg s (0, 1, 0); have h3 := bare_neg s (0, 0, 1)
 have e1 : negC (1, 0, 0) = (-1, 0, 0) := rfl
 have e2 : negC (0, 1, 0) = (0, -1, 0) := rfl
 have e3 : negC (0, 0, 1) = (0, 0, -1) := rfl
 rw [e1] at h1; rw [e2] at h2; rw [e3] at h3
 omega
end Go.Solid
end
section
namespace Go.Solid
open Go.Draw
set_option maxRecDepth 100000
/-! the law of the cavities -/
abbrev holesS (s : Sol) : List Sol := classesS (stepsL true) (~~~s)
theorem neg_has {s : Sol} {c : Cl} : hasS (~~~s) c = true ↔ inG c = true ∧ hasS s c = false := by
 unfold hasS
 cases hg : inG c with
 | false => simp
 | true =>
  rw [Bool.true_and, Bool.true_and, BitVec.getLsbD_not, decide_eq_true (bitN_lt hg), Bool.true_and]
  simp
/-- whoever is a component is among the classes -/
theorem comp_mem {St : List Cl} (hS : Sym St) {s K : Sol} {c : Cl} (hK : IsComp St s c K) : K ∈ classesS St s := by
 have hP := classes_parts hS s
 obtain ⟨L, hL, hc⟩ := hP.all c (subS_iff.1 hK.sub c hK.has)
 obtain ⟨c', _, kL, _⟩ := hP.comp L hL
 have : IsComp St s c L := ⟨kL.sub, hc, fun e he => by
  have h1 := reach_symm hS (kL.reach c hc)
  exact reach_trans h1 (kL.reach e he), kL.closed⟩
 rw [comp_unique hK this]; exact hL
theorem comp_of {St : List Cl} (hS : Sym St) {s K : Sol} (h : K ∈ classesS St s) {c : Cl} (hc : hasS K c = true) : IsComp St s c K := by
 obtain ⟨c', _, kL, _⟩ := (classes_parts hS s).comp K h
 exact ⟨kL.sub, hc, fun e he => reach_trans (reach_symm hS (kL.reach c hc)) (kL.reach e he), kL.closed⟩
theorem cavs_mem {s K : Sol} : K ∈ cavsS s ↔ K ∈ holesS s ∧ cavB K = true := List.mem_filter
theorem cav_out {s K : Sol} (h : K ∈ cavsS s) : ∀ c, hasS K c = true → hasS s c = false := by
 intro c hc
 have hK := comp_of (steps_sym true) (cavs_mem.1 h).1 hc
 exact (neg_has.1 (subS_iff.1 hK.sub c hc)).2
theorem cavs_apart (s : Sol) : (cavsS s).Pairwise fun A B => ∀ e, hasS A e = true → hasS B e = false := List.Pairwise.filter _ (classes_parts (steps_sym true) (~~~s)).apart
def fillS (s : Sol) : Sol := (cavsS s).foldl (fun a b => a ||| b) s
theorem fill_has {s : Sol} {c : Cl} : hasS (fillS s) c = true ↔ hasS s c = true ∨ ∃ K ∈ cavsS s, hasS K c = true := orAll_has
theorem fill_sub (s : Sol) : subS s (fillS s) = true := subS_iff.2 fun _ h => fill_has.2 (.inl h)
/-- each cavity is apart from the solid and from those ahead of it -/
theorem cav_meet {s : Sol} {pre post : List Sol} {K : Sol} (h : cavsS s = pre ++ K :: post) : pre.foldl (fun a b => a ||| b) s &&& K = 0 := by
 rw [meet_zero]
 intro c hc
 rw [not_has]; intro hk
 have hK : K ∈ cavsS s := by rw [h]; exact List.mem_append_right _ List.mem_cons_self
 rcases orAll_has.1 hc with h1 | ⟨A, h1, h2⟩
 ·rw [cav_out hK c hk] at h1; cases h1
 ·have ha := cavs_apart s
  rw [h, List.pairwise_append] at ha
  have := ha.2.2 A h1 K List.mem_cons_self c h2
  rw [hk] at this; cases this
/-- with its cavities it has none -/
theorem fill_none (s : Sol) : cavsS (fillS s) = [] := by
 refine Classical.byContradiction fun h => ?_
 obtain ⟨K, hK⟩ := List.exists_mem_of_ne_nil _ h
 obtain ⟨h1, h2⟩ := cavs_mem.1 hK
 have hS := steps_sym true
 obtain ⟨c, hc⟩ := has_some (classes_ne hS h1)
 have k := comp_of hS h1 hc
 have hsub : ∀ e, hasS (~~~(fillS s)) e = true → hasS (~~~s) e = true := fun e he => by
  obtain ⟨g1, g2⟩ := neg_has.1 he
  exact neg_has.2 ⟨g1, has_sub (fill_sub s) g2⟩
 have k2 : IsComp (stepsL true) (~~~s) c K := by
  refine ⟨subS_iff.2 fun e he => hsub e (subS_iff.1 k.sub e he), hc, fun e he => ?_, fun e he d hd hh => ?_⟩
  ·exact Reach.lift (subS_iff.2 hsub) (Reach.start (hsub c (subS_iff.1 k.sub c hc))) (k.reach e he)
  ·refine k.closed e he d hd (neg_has.2 ⟨(neg_has.1 hh).1, ?_⟩)
   rw [not_has]; intro hf
   rcases fill_has.1 hf with h3 | ⟨C, h3, h4⟩
   ·rw [(neg_has.1 hh).2] at h3; cases h3
   ·have hC := comp_of hS (cavs_mem.1 h3).1 h4
    have := hC.closed _ h4 (negC d) (hS d hd) (by rw [add_neg]; exact hsub e (subS_iff.1 k.sub e he))
    rw [add_neg] at this
    have h5 := (neg_has.1 (subS_iff.1 k.sub e he)).2
    rw [fill_has.2 (.inr ⟨C, h3, this⟩)] at h5; cases h5
 have h3 : K ∈ cavsS s := cavs_mem.2 ⟨comp_mem hS k2, h2⟩
 have h5 := (neg_has.1 (subS_iff.1 k.sub c hc)).2
 rw [fill_has.2 (.inr ⟨K, h3, hc⟩)] at h5; cases h5
/-- a part lies in just one of the parts of what is wider -/
theorem part_in {s w : Sol} (h : subS s w = true) {K : Sol} (hK : K ∈ partsS s) : ((partsS w).filter fun L => subS K L).length = 1 := by
 have hS := steps_sym false
 obtain ⟨c, hc⟩ := has_some (classes_ne hS hK)
 have k := comp_of hS hK hc
 have hP := classes_parts hS w
 obtain ⟨L, hL, hLc⟩ := hP.all c (subS_iff.1 h c (subS_iff.1 k.sub c hc))
 have kL := comp_of hS hL hLc
 have hKL : subS K L = true := subS_iff.2 fun e he => comp_all kL (Reach.lift h (Reach.start (subS_iff.1 kL.sub c hLc)) (k.reach e he))
 have huniq : ∀ M ∈ partsS w, subS K M = true → M = L := fun M hM hKM => comp_unique (comp_of hS hM (subS_iff.1 hKM c hc)) kL
 have hnd : (partsS w).Nodup := hP.apart.imp_of_mem fun {A B} hA _ hAB e => by
  obtain ⟨x, hx⟩ := has_some (classes_ne hS hA)
  have := hAB x hx
  rw [← e, hx] at this; cases this
 have e1 : (partsS w).filter (fun L => subS K L) = [L] := by
  have hm : ∀ M, M ∈ (partsS w).filter (fun L => subS K L) ↔ M ∈ [L] := fun M => by
   rw [List.mem_filter, List.mem_singleton]
   exact ⟨fun ⟨a, b⟩ => huniq M a b, fun e => by rw [e]; exact ⟨hL, hKL⟩⟩
  exact List.perm_singleton.1 ((List.perm_ext_iff_of_nodup (hnd.filter _) (List.nodup_cons.2 ⟨by simp, List.nodup_nil⟩)).2 hm)
 rw [e1]; rfl
end Go.Solid
end
