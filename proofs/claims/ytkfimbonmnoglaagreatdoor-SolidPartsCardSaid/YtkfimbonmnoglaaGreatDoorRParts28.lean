import Derived.Test.YtkfimbonmnoglaaGreatDoorB27
import Derived.Test.YtkfimbonmnoglaaGreatDoorProg
import Derived.WalkKit
import Derived.WalkLawsBesides
import Derived.WalkSpells
import Derived.StillTailTactics
import Derived.Deep.QuietTactic
import Derived.BigQuiet
import Derived.Outline
import Derived.Recover
import Derived.Laws.BitsLemmas
import Derived.Lib.Hide
import Derived.Laws.EntriesVeiled
import Derived.Test.YtkfimbonmnoglaaGreatDoorCards
import Derived.Test.YtkfimbonmnoglaaGreatDoorTie
import Derived.Deep.DeepHandedRow
import Derived.Lib.LaidTab
import Derived.LaidSub
import Derived.Carry
import Derived.ProofKit
import Derived.Deep.Cut
/-
  Given contracts of functions of the program, and laws for them, one behind the other.
-/
set_option linter.unusedVariables false
set_option linter.unusedSimpArgs false
set_option linter.unusedSectionVars false
section
namespace Go.Solid
open Go.Draw
set_option maxRecDepth 100000
theorem cellsS_nodup (s : Sol) : (cellsS s).Nodup := by
 unfold cellsS
 unfold List.Nodup
 rw [List.pairwise_map]
 exact (bitsS_nodup s).imp fun {a b} h e => h (by rw [← bitN_cellN a, e, bitN_cellN])
end Go.Solid
end
section
namespace Go.Solid
open Go.Draw
set_option maxRecDepth 100000
theorem comp_all {St : List Cl} {l : Sol} {c : Cl} {K : Sol} (h : IsComp St l c K) {e : Cl} (hr : Reach St l c e) : hasS K e = true := by
 induction hr with
 | start _ => exact h.has
 | step _ hd hh ih => exact h.closed _ ih _ hd hh
theorem comp_unique {St : List Cl} {l : Sol} {c : Cl} {K L : Sol} (h : IsComp St l c K) (k : IsComp St l c L) : K = L :=
 subS_antisymm (subS_iff.2 fun e he => comp_all k (h.reach e he)) (subS_iff.2 fun e he => comp_all h (k.reach e he))
end Go.Solid
end
section
namespace Go.Solid
open Go.Draw
set_option maxRecDepth 100000
theorem addNew_spec {seen : List Cl} {p : Cl} (h : seen.Nodup) : (addNew seen p).Nodup ∧ ∀ q, q ∈ addNew seen p ↔ q ∈ seen ∨ q = p := by
 unfold addNew
 split
 ·rename_i hp
  refine ⟨h, fun q => ⟨fun hq => .inl hq, fun hq => ?_⟩⟩
  rcases hq with hq | rfl
  ·exact hq
  ·exact hp
 ·rename_i hp
  refine ⟨?_, fun q => by rw [List.mem_append, List.mem_singleton]⟩
  rw [List.nodup_append]
  refine ⟨h, List.pairwise_singleton _ _, fun a ha b hb e => ?_⟩
  rw [List.mem_singleton] at hb
  subst hb e
  exact hp ha
theorem seen_spec (l : List Cl) : (seenF l).Nodup ∧ ∀ q, q ∈ seenF l ↔ q ∈ l := by
 have key : ∀ (l acc : List Cl), acc.Nodup → (l.foldl addNew acc).Nodup ∧ ∀ q, q ∈ l.foldl addNew acc ↔ q ∈ acc ∨ q ∈ l := by
  intro l
  induction l with
  | nil => intro acc h; exact ⟨h, fun q => by simp⟩
  | cons p l ih =>
   intro acc h
   obtain ⟨h1, h2⟩ := addNew_spec (p := p) h
   obtain ⟨h3, h4⟩ := ih _ h1
   refine ⟨h3, fun q => ?_⟩
   rw [List.foldl_cons, h4, h2, List.mem_cons, or_assoc]
 obtain ⟨h1, h2⟩ := key l [] List.nodup_nil
 exact ⟨h1, fun q => by rw [show seenF l = l.foldl addNew [] from rfl, h2]; simp⟩
theorem sumZ_append (f : Cl → Int) (l m : List Cl) : sumZ f (l ++ m) = sumZ f l + sumZ f m := by unfold sumZ; rw [List.map_append, List.sum_append]
theorem sumZ_perm (f : Cl → Int) {l m : List Cl} (h : l.Perm m) : sumZ f l = sumZ f m := by
 induction h with
 | nil => rfl
 | cons x _ ih => unfold sumZ at *; rw [List.map_cons, List.map_cons, List.sum_cons, List.sum_cons, ih]
 | swap x y l => unfold sumZ; simp only [List.map_cons, List.sum_cons]; omega
 | trans _ _ h1 h2 => exact h1.trans h2
theorem steps_in {f : Bool} {d : Cl} (h : d ∈ stepsL f) : ∀ k, -1 ≤ co d k ∧ co d k ≤ 1 := by
 have h1 : ((stepsL f).all fun d => decide (-1 ≤ d.1 ∧ d.1 ≤ 1) && decide (-1 ≤ d.2.1 ∧ d.2.1 ≤ 1) && decide (-1 ≤ d.2.2 ∧ d.2.2 ≤ 1)) = true := by cases f <;> decide +kernel
 have h2 := List.all_eq_true.1 h1 d h
 simp only [Bool.and_eq_true, decide_eq_true_eq] at h2
 intro k
 match k with
 | 0 => exact h2.1.1
 | 1 => exact h2.1.2
 | _ + 2 => exact h2.2
theorem steps_all {d : Cl} (h : ∀ k, -1 ≤ co d k ∧ co d k ≤ 1) : d ∈ stepsL false := by
 obtain ⟨x, y, z⟩ := d
 have hx := h 0; have hy := h 1; have hz := h 2
 have hx' : x = -1 ∨ x = 0 ∨ x = 1 := by have : -1 ≤ x ∧ x ≤ 1 := hx; omega
 have hy' : y = -1 ∨ y = 0 ∨ y = 1 := by have : -1 ≤ y ∧ y ≤ 1 := hy; omega
 have hz' : z = -1 ∨ z = 0 ∨ z = 1 := by have : -1 ≤ z ∧ z ≤ 1 := hz; omega
 rcases hx' with rfl | rfl | rfl <;> rcases hy' with rfl | rfl | rfl <;> rcases hz' with rfl | rfl | rfl <;> decide +kernel
theorem pts_iff {s : Sol} {p : Cl} : p ∈ ptsS s ↔ ∃ c, hasS s c = true ∧ ∀ k, -1 ≤ co p k - (2 * co c k + 1) ∧ co p k - (2 * co c k + 1) ≤ 1 := by
 unfold ptsS
 rw [List.mem_flatMap]
 constructor
 ·rintro ⟨c, hc, h⟩
  rw [List.mem_map] at h
  obtain ⟨d, hd, rfl⟩ := h
  refine ⟨c, mem_cellsS.1 hc, fun k => ?_⟩
  have h1 := steps_in hd k
  have e : co (midC c d) k = 2 * co c k + 1 + co d k := by
   match k with
   | 0 => rfl
   | 1 => rfl
   | _ + 2 => rfl
  rw [e]; omega
 ·rintro ⟨c, hc, h⟩
  refine ⟨c, mem_cellsS.2 hc, List.mem_map.2 ⟨(p.1 - (2 * c.1 + 1), p.2.1 - (2 * c.2.1 + 1), p.2.2 - (2 * c.2.2 + 1)), steps_all fun k => ?_, ?_⟩⟩
  ·match k with
   | 0 => exact h 0
   | 1 => exact h 1
   | _ + 2 => exact h 2
  ·unfold midC
   refine Prod.ext ?_ (Prod.ext ?_ ?_)
   ·show 2 * c.1 + 1 + (p.1 - (2 * c.1 + 1)) = p.1; omega
   ·show 2 * c.2.1 + 1 + (p.2.1 - (2 * c.2.1 + 1)) = p.2.1; omega
   ·show 2 * c.2.2 + 1 + (p.2.2 - (2 * c.2.2 + 1)) = p.2.2; omega
end Go.Solid
end
section
namespace Go.Solid
open Go.Draw
set_option maxRecDepth 100000
theorem add_sub (a b : Cl) : addC b (subC a b) = a := by
 unfold addC subC
 exact Prod.ext (by simp only; omega) (Prod.ext (by simp only; omega) (by simp only; omega))
theorem steps_faces : stepsL true = [(0, 0, -1), (0, -1, 0), (-1, 0, 0), (1, 0, 0), (0, 1, 0), (0, 0, 1)] := by decide +kernel
def oneB (b : Bool) : Nat := if b then 1 else 0
def bareR (s : Sol) (c : Cl) : Nat := oneB (!hasS s (addC c (-1, 0, 0))) + oneB (!hasS s (addC c (0, -1, 0))) + oneB (!hasS s (addC c (0, 0, -1))) + oneB (!hasS s (addC c (1, 0, 0))) + oneB (!hasS s (addC c (0, 1, 0))) + oneB (!hasS s (addC c (0, 0, 1)))
theorem filter_len {α : Type} (p : α → Bool) : ∀ l : List α, (l.filter p).length = (l.map fun a => oneB (p a)).sum
 | [] => rfl
 | a :: l => by
  rw [List.filter_cons, List.map_cons, List.sum_cons, ← filter_len p l]
  cases p a
  ·simp [oneB]
  ·simp [oneB]; omega
theorem bare_eq (s : Sol) (c : Cl) : bareN s c = bareR s c := by
 unfold bareN bareR
 rw [filter_len, steps_faces]
 simp only [List.map_cons, List.map_nil, List.sum_cons, List.sum_nil]
 omega
end Go.Solid
end
section
namespace Go.Solid
open Go.Draw
set_option maxRecDepth 100000
/-- within a part everything is led together by cells of the part -/
theorem reach_in {St : List Cl} {s K : Sol} {c e : Cl} (hK : IsComp St s c K) (h : Reach St s c e) : Reach St K c e := by
 induction h with
 | start _ => exact Reach.start hK.has
 | step hr hd hh ih => exact ih.step hd (hK.closed _ (comp_all hK hr) _ hd hh)
theorem reach_trans {St : List Cl} {s : Sol} {a b c : Cl} (h : Reach St s a b) (k : Reach St s b c) : Reach St s a c := by
 induction k with
 | start _ => exact h
 | step _ hd hh ih => exact ih.step hd hh
theorem reach_one {St : List Cl} {s : Sol} {c d : Cl} (hc : hasS s c = true) (hd : d ∈ St) (h : hasS s (addC c d) = true) : Reach St s c (addC c d) := (Reach.start hc).step hd h
theorem reach_symm {St : List Cl} (hS : Sym St) {s : Sol} {a b : Cl} (h : Reach St s a b) : Reach St s b a := by
 induction h with
 | start h => exact Reach.start h
 | @step e d hr hd hh ih =>
  have h1 : Reach St s (addC e d) e := by
   have := reach_one (s := s) hh (hS d hd) (by rw [add_neg]; exact hr.has)
   rw [add_neg] at this; exact this
  exact reach_trans h1 ih
/-- a part is its only part -/
theorem comp_self {St : List Cl} (hS : Sym St) {s K : Sol} {c c' : Cl} (hK : IsComp St s c K) (hc' : hasS K c' = true) : IsComp St K c' K := by
 refine ⟨subS_refl _, hc', fun e he => ?_, fun e _ d _ h => h⟩
 exact reach_trans (reach_symm hS (reach_in hK (hK.reach c' hc'))) (reach_in hK (hK.reach e he))
theorem cut_self (K : Sol) : cutS K K = 0 := by
 refine Classical.byContradiction fun h => ?_
 obtain ⟨c, hc⟩ := has_some h
 obtain ⟨h1, h2⟩ := cut_has.1 hc
 rw [h1] at h2; cases h2
theorem clsR_zero (St : List Cl) : ∀ n, clsR St n 0 = []
 | 0 => rfl
 | n + 1 => by
  rw [clsR]
  split
  ·rfl
  ·rename_i h; rw [cellsS_zero] at h; cases h
theorem parts_part {St : List Cl} (hS : Sym St) {s K : Sol} {c : Cl} (hK : IsComp St s c K) : classesS St K = [K] := by
 rw [classes_ref St K (n := 513) (Nat.le_succ_of_le (count_512 K)), clsR]
 cases h : cellsS K with
 | nil =>
  have := mem_cellsS.2 hK.has
  rw [h] at this; cases this
 | cons c' t =>
  have hc' : hasS K c' = true := mem_cellsS.1 (by rw [h]; exact List.mem_cons_self)
  have e : partS St K c' = K := comp_unique (comp_spec hc') (comp_self hS hK hc')
  simp only
  rw [e, cut_self, clsR_zero]
def grownS (s : Sol) : Sol := orF s (((cellsS s).flatMap fun c => (stepsL false).map fun d => addC c d).filter inG |>.map bitN)
theorem orF_has {s : Sol} {l : List Cl} (hl : ∀ c ∈ l, inG c = true) {e : Cl} : hasS (orF s (l.map bitN)) e = true ↔ hasS s e = true ∨ e ∈ l := by
 unfold hasS
 cases he : inG e with
 | false =>
  constructor
  ·intro h; simp at h
  ·rintro (h | h)
   ·simp at h
   ·rw [hl e h] at he; cases he
 | true =>
  rw [Bool.true_and, Bool.true_and, orF_bit _ _ (bitN_lt he), Bool.or_eq_true, decide_eq_true_eq, List.mem_map]
  refine or_congr Iff.rfl ⟨?_, fun h => ⟨e, h, rfl⟩⟩
  rintro ⟨c, hc, h⟩
  rw [← bitN_inj (hl c hc) he h]; exact hc
theorem grown_has {s : Sol} {e : Cl} : hasS (grownS s) e = true ↔ hasS s e = true ∨ inG e = true ∧ ∃ c d, hasS s c = true ∧ d ∈ stepsL false ∧ e = addC c d := by
 unfold grownS
 rw [orF_has (fun c hc => (List.mem_filter.1 hc).2), List.mem_filter, List.mem_flatMap]
 refine or_congr Iff.rfl ⟨?_, ?_⟩
 ·rintro ⟨⟨c, hc, h⟩, hg⟩
  obtain ⟨d, hd, rfl⟩ := List.mem_map.1 h
  exact ⟨hg, c, d, mem_cellsS.1 hc, hd, rfl⟩
 ·rintro ⟨hg, c, d, hc, hd, rfl⟩
  exact ⟨⟨c, mem_cellsS.2 hc, List.mem_map.2 ⟨d, hd, rfl⟩⟩, hg⟩
theorem meet_zero {a b : Sol} : a &&& b = 0 ↔ ∀ c, hasS a c = true → hasS b c = false := by
 have hm : ∀ c, hasS (a &&& b) c = (hasS a c && hasS b c) := fun c => by
  unfold hasS
  cases inG c with
  | false => rfl
  | true => rw [Bool.true_and, Bool.true_and, Bool.true_and, BitVec.getLsbD_and]
 constructor
 ·intro h c hc
  have := hm c
  rw [h, has_zero, hc, Bool.true_and] at this
  exact this.symm
 ·intro h
  refine Classical.byContradiction fun h0 => ?_
  obtain ⟨c, hc⟩ := has_some h0
  rw [hm, Bool.and_eq_true] at hc
  rw [h c hc.1] at hc; cases hc.2
def orAll (l : List Sol) : Sol := l.foldl (fun a b => a ||| b) 0
theorem orAll_has {l : List Sol} : ∀ {a : Sol} {c : Cl}, hasS (l.foldl (fun a b => a ||| b) a) c = true ↔ hasS a c = true ∨ ∃ K ∈ l, hasS K c = true := by
 induction l with
 | nil => intro a c; simp
 | cons K l ih =>
  intro a c
  rw [List.foldl_cons, ih, or_has]
  constructor
  ·rintro ((h | h) | ⟨L, h1, h2⟩)
   ·exact .inl h
   ·exact .inr ⟨K, List.mem_cons_self, h⟩
   ·exact .inr ⟨L, List.mem_cons_of_mem _ h1, h2⟩
  ·rintro (h | ⟨L, h1, h2⟩)
   ·exact .inl (.inl h)
   ·rcases List.mem_cons.1 h1 with rfl | h1
    ·exact .inl (.inr h2)
    ·exact .inr ⟨L, h1, h2⟩
/-- no two parts touch -/
theorem parts_apart {s : Sol} : (partsS s).Pairwise fun A B => A &&& grownS B = 0 := by
 have hP := classes_parts (steps_sym false) s
 have key : ∀ A ∈ partsS s, ∀ B ∈ partsS s, (∀ e, hasS A e = true → hasS B e = false) → A &&& grownS B = 0 := by
  intro A hA B hB hAB
  rw [meet_zero]
  intro e he
  rw [not_has]; intro hg
  rcases grown_has.1 hg with h | ⟨_, c, d, hc, hd, rfl⟩
  ·rw [hAB e he] at h; cases h
  ·obtain ⟨c0, _, kA, _⟩ := hP.comp A hA
   obtain ⟨c1, _, kB, _⟩ := hP.comp B hB
   have := kB.closed c hc d hd (subS_iff.1 kA.sub _ he)
   rw [hAB _ he] at this; cases this
 exact List.Pairwise.imp_of_mem (fun {A B} hA hB h => key A hA B hB h) hP.apart
theorem parts_join {s : Sol} : orAll (partsS s) = s := by
 have hP := classes_parts (steps_sym false) s
 refine has_ext fun c => ?_
 unfold orAll
 rw [orAll_has]
 constructor
 ·rintro (h | ⟨K, h1, h2⟩)
  ·rw [has_zero] at h; cases h
  ·obtain ⟨_, _, kK, _⟩ := hP.comp K h1
   exact subS_iff.1 kK.sub c h2
 ·intro h
  exact .inr (hP.all c h)
theorem sumZ_flat {α : Type} (f : Cl → Int) (g : α → List Cl) : ∀ l : List α, sumZ f (l.flatMap g) = (l.map fun a => sumZ f (g a)).sum
 | [] => rfl
 | a :: l => by rw [List.flatMap_cons, sumZ_append, sumZ_flat f g l, List.map_cons, List.sum_cons]
theorem nodup_flat {g : Sol → List Cl} : ∀ {l : List Sol}, (∀ a ∈ l, (g a).Nodup) → l.Pairwise (fun A B => ∀ e, e ∈ g A → ¬ e ∈ g B) → (l.flatMap g).Nodup
 | [], _, _ => List.nodup_nil
 | a :: l, h, hp => by
  rw [List.flatMap_cons, List.nodup_append]
  rw [List.pairwise_cons] at hp
  refine ⟨h a List.mem_cons_self, nodup_flat (fun b hb => h b (List.mem_cons_of_mem _ hb)) hp.2, ?_⟩
  rintro e he e' he' rfl
  obtain ⟨b, hb, hbe⟩ := List.mem_flatMap.1 he'
  exact hp.1 b hb e he hbe
theorem mem_seen {s : Sol} {p : Cl} : p ∈ seenF (ptsS s) ↔ ∃ c, hasS s c = true ∧ ∀ k, -1 ≤ co p k - (2 * co c k + 1) ∧ co p k - (2 * co c k + 1) ≤ 1 := by
 rw [(seen_spec _).2, pts_iff]
theorem euler_parts (s : Sol) : eulerS s = ((partsS s).map eulerS).sum := by
 have hP := classes_parts (steps_sym false) s
 have hperm : (seenF (ptsS s)).Perm ((partsS s).flatMap fun K => seenF (ptsS K)) := by
  refine (List.perm_ext_iff_of_nodup (seen_spec _).1 (nodup_flat (fun K _ => (seen_spec _).1) ?_)).2 fun p => ?_
  ·refine List.Pairwise.imp_of_mem (fun {A B} hA hB h => ?_) hP.apart
   intro p hpA hpB
   obtain ⟨a, ha, ka⟩ := mem_seen.1 hpA
   obtain ⟨b, hb, kb⟩ := mem_seen.1 hpB
   obtain ⟨_, _, cA, _⟩ := hP.comp A hA
   obtain ⟨_, _, cB, _⟩ := hP.comp B hB
   have hd : subC a b ∈ stepsL false := steps_all fun k => by
    have h1 := ka k; have h2 := kb k
    have e : co (subC a b) k = co a k - co b k := by
     match k with
     | 0 => rfl
     | 1 => rfl
     | _ + 2 => rfl
    rw [e]; omega
   have := cB.closed b hb (subC a b) hd (by rw [add_sub]; exact subS_iff.1 cA.sub a ha)
   rw [add_sub, h a ha] at this; cases this
  ·rw [List.mem_flatMap, mem_seen]
   constructor
   ·rintro ⟨c, hc, hk⟩
    obtain ⟨K, h1, h2⟩ := hP.all c hc
    exact ⟨K, h1, mem_seen.2 ⟨c, h2, hk⟩⟩
   ·rintro ⟨K, h1, h2⟩
    obtain ⟨c, hc, hk⟩ := mem_seen.1 h2
    obtain ⟨_, _, cK, _⟩ := hP.comp K h1
    exact ⟨c, subS_iff.1 cK.sub c hc, hk⟩
 unfold eulerS
 rw [sumZ_perm _ hperm, sumZ_flat]
theorem faces_touch {d : Cl} (h : d ∈ stepsL true) : d ∈ stepsL false := steps_all (steps_in h)
theorem natsum_perm {f : Cl → Nat} {l m : List Cl} (h : l.Perm m) : (l.map f).sum = (m.map f).sum := (h.map f).sum_nat
theorem natsum_flat {f : Cl → Nat} {g : Sol → List Cl} : ∀ l : List Sol, ((l.flatMap g).map f).sum = (l.map fun a => ((g a).map f).sum).sum
 | [] => rfl
 | a :: l => by rw [List.flatMap_cons, List.map_append, List.sum_append, natsum_flat l, List.map_cons, List.sum_cons]
theorem cells_parts (s : Sol) : (cellsS s).Perm ((partsS s).flatMap cellsS) := by
 have hP := classes_parts (steps_sym false) s
 refine (List.perm_ext_iff_of_nodup (cellsS_nodup s) (nodup_flat (fun K _ => cellsS_nodup K) ?_)).2 fun c => ?_
 ·refine hP.apart.imp fun {A B} h => ?_
  intro e he hb
  have := h e (mem_cellsS.1 he)
  rw [mem_cellsS.1 hb] at this; cases this
 ·rw [List.mem_flatMap, mem_cellsS]
  constructor
  ·intro h
   obtain ⟨K, h1, h2⟩ := hP.all c h
   exact ⟨K, h1, mem_cellsS.2 h2⟩
  ·rintro ⟨K, h1, h2⟩
   obtain ⟨_, _, cK, _⟩ := hP.comp K h1
   exact subS_iff.1 cK.sub c (mem_cellsS.1 h2)
theorem skin_parts (s : Sol) : skinS s = ((partsS s).map skinS).sum := by
 have hP := classes_parts (steps_sym false) s
 unfold skinS
 rw [natsum_perm (cells_parts s), natsum_flat]
 congr 1
 refine List.map_congr_left fun K hK => ?_
 congr 1
 refine List.map_congr_left fun c hc => ?_
 unfold bareN
 congr 1
 refine List.filter_congr fun d hd => ?_
 congr 1
 obtain ⟨_, _, cK, _⟩ := hP.comp K hK
 rw [Bool.eq_iff_iff]
 exact ⟨fun h => cK.closed c (mem_cellsS.1 hc) d (faces_touch hd) h, fun h => subS_iff.1 cK.sub _ h⟩
/-- cells behind which, one step on, there is no cell -/
def bareD (s : Sol) (d : Cl) : Nat := ((cellsS s).filter fun c => !hasS s (addC c d)).length
def fullD (s : Sol) (d : Cl) : Nat := ((cellsS s).filter fun c => hasS s (addC c d)).length
theorem split_len {α : Type} (p : α → Bool) : ∀ l : List α, (l.filter fun a => !p a).length + (l.filter p).length = l.length
 | [] => rfl
 | a :: l => by
  have := split_len p l
  rw [List.filter_cons, List.filter_cons, List.length_cons]
  cases p a
  ·simp only [Bool.not_false, if_true, Bool.false_eq_true, if_false, List.length_cons]; omega
  ·simp only [Bool.not_true, if_true, Bool.false_eq_true, if_false, List.length_cons]; omega
theorem neg_add (e d : Cl) : addC (addC e (negC d)) d = e := by
 unfold addC negC
 exact Prod.ext (by simp only; omega) (Prod.ext (by simp only; omega) (by simp only; omega))
theorem full_neg (s : Sol) (d : Cl) : fullD s (negC d) ≤ fullD s d := by
 unfold fullD
 rw [← List.length_map (fun c => addC c (negC d))]
 refine List.Nodup.length_le_of_subset ?_ ?_
 ·refine List.pairwise_map.2 (((cellsS_nodup s).filter _).imp fun {a b} hne h => hne ?_)
  have := congrArg (fun c => addC c d) h
  simp only [neg_add] at this
  exact this
 ·intro e he
  obtain ⟨c, hc, rfl⟩ := List.mem_map.1 he
  obtain ⟨h1, h2⟩ := List.mem_filter.1 hc
  exact List.mem_filter.2 ⟨mem_cellsS.2 h2, by rw [neg_add]; exact mem_cellsS.1 h1⟩
theorem bare_neg (s : Sol) (d : Cl) : bareD s (negC d) = bareD s d := by
 have h1 := split_len (fun c => hasS s (addC c d)) (cellsS s)
 have h2 := split_len (fun c => hasS s (addC c (negC d))) (cellsS s)
 have h3 := full_neg s d
 have h4 := full_neg s (negC d)
 have e : negC (negC d) = d := by
  unfold negC
  exact Prod.ext (by simp only; omega) (Prod.ext (by simp only; omega) (by simp only; omega))
 rw [e] at h4
 unfold bareD
 unfold fullD at h3 h4
 omega
theorem skin_dirs (s : Sol) : skinS s = bareD s (-1, 0, 0) + bareD s (0, -1, 0) + bareD s (0, 0, -1) + bareD s (1, 0, 0) + bareD s (0, 1, 0) + bareD s (0, 0, 1) := by
 unfold skinS bareD
 simp only [filter_len]
 induction cellsS s with
 | nil => rfl
 | cons c l ih =>
  simp only [List.map_cons, List.sum_cons]
  rw [ih, bare_eq]
  unfold bareR
  omega
theorem skin_even (s : Sol) : skinS s % 2 = 0 := by
 rw [skin_dirs]
 have h1 := bare_neg s (1, 0, 0); have h2 := bare_neg s (0, 1, 0); have h3 := bare_neg s (0, 0, 1)
 have e1 : negC (1, 0, 0) = (-1, 0, 0) := rfl
 have e2 : negC (0, 1, 0) = (0, -1, 0) := rfl
 have e3 : negC (0, 0, 1) = (0, 0, -1) := rfl
 rw [e1] at h1; rw [e2] at h2; rw [e3] at h3
 omega
end Go.Solid
end
section
namespace Go.Solid
open Go.Draw
set_option maxRecDepth 100000
def rcF (s : Sol) (z y x : Int) : List Cl := ((rngI x 7).map fun x => ((x, y, z) : Cl)).filter (hasS s)
def rcG (s : Sol) (z y : Int) : List Cl := (rngI y 7).flatMap fun y => rcF s z y 0
def rcH (s : Sol) (z : Int) : List Cl := (rngI z 7).flatMap fun z => rcG s z 0
def rcY (s : Sol) (z y : Int) : List Cl := rcG s z y ++ rcH s (z + 1)
def rcX (s : Sol) (z y x : Int) : List Cl := rcF s z y x ++ rcY s z (y + 1)
theorem rng_none {a b : Int} (h : b < a) : rngI a b = [] := by
 unfold rngI
 rw [show (b - a + 1).toNat = 0 by omega]; rfl
theorem rng_cons {a b : Int} (h : a ≤ b) : rngI a b = a :: rngI (a + 1) b := by
 rw [rngI_append (a := a) (b := a) (c := b) (by omega) h]
 have : rngI a a = [a] := by unfold rngI; rw [show (a - a + 1).toNat = 1 by omega]; simp
 rw [this]; rfl
theorem all_cells : (List.range 512).map cellN = (rngI 0 7).flatMap fun z => (rngI 0 7).flatMap fun y => (rngI 0 7).map fun x => ((x, y, z) : Cl) := by decide +kernel
theorem rc_all (s : Sol) : rcH s 0 = cellsS s := by
 have e : cellsS s = ((List.range 512).map cellN).filter (hasS s) := by
  unfold cellsS bitsS
  rw [List.filter_map]
  congr 1
 rw [e, all_cells]
 unfold rcH rcG rcF
 simp only [List.filter_flatMap]
theorem rcH_end (s : Sol) {z : Int} (h : 7 < z) : rcH s z = [] := by unfold rcH; rw [rng_none h]; rfl
theorem rcH_step (s : Sol) {z : Int} (h : z ≤ 7) : rcH s z = rcY s z 0 := by
 conv => lhs; unfold rcH
 rw [rng_cons h, List.flatMap_cons]; rfl
theorem rcY_end (s : Sol) {z y : Int} (h : 7 < y) : rcY s z y = rcH s (z + 1) := by unfold rcY rcG; rw [rng_none h]; rfl
theorem rcY_step (s : Sol) {z y : Int} (h : y ≤ 7) : rcY s z y = rcX s z y 0 := by
 conv => lhs; unfold rcY rcG
 rw [rng_cons h, List.flatMap_cons, List.append_assoc]; rfl
theorem rcX_end (s : Sol) {z y x : Int} (h : 7 < x) : rcX s z y x = rcY s z (y + 1) := by unfold rcX rcF; rw [rng_none h]; rfl
theorem rcX_step (s : Sol) {z y x : Int} (h : x ≤ 7) : rcX s z y x = if hasS s (x, y, z) then (x, y, z) :: rcX s z y (x + 1) else rcX s z y (x + 1) := by
 conv => lhs; unfold rcX rcF
 rw [rng_cons h, List.map_cons, List.filter_cons]
 split <;> rfl
end Go.Solid
end
section
namespace Go.Solid
open Go.Draw
set_option maxRecDepth 100000
def addL (a : Sol) (L : List Cl) : Sol := L.foldl (fun a c => a ||| one (bitN c)) a
end Go.Solid
end
section
namespace Go.Solid
open Go.Draw
set_option maxRecDepth 100000
def offK (k : Nat) : Cl := (((k % 3 : Nat) : Int) - 1, ((k / 3 % 3 : Nat) : Int) - 1, ((k / 9 : Nat) : Int) - 1)
theorem off_all : stepsL false = (List.range 27).map offK := by decide +kernel
def remA (L : List Cl) (i : Nat) : List Cl := (L.drop i).flatMap fun c => (stepsL false).map (addC c)
def remB (L : List Cl) (c : Cl) (i k : Nat) : List Cl := ((stepsL false).drop k).map (addC c) ++ remA L (i + 1)
theorem remA_end {L : List Cl} {i : Nat} (h : L.length ≤ i) : remA L i = [] := by unfold remA; rw [List.drop_eq_nil_of_le h]; rfl
theorem remA_step {L : List Cl} {i : Nat} {c : Cl} (h : L[i]? = some c) : remA L i = remB L c i 0 := by
 obtain ⟨hi, hc⟩ := List.getElem?_eq_some_iff.1 h
 conv => lhs; unfold remA
 rw [List.drop_eq_getElem_cons hi, hc, List.flatMap_cons]; rfl
theorem remB_step {L : List Cl} {c : Cl} {i k : Nat} (h : k < 27) : remB L c i k = addC c (offK k) :: remB L c i (k + 1) := by
 have h1 : k < (stepsL false).length := by rw [off_all]; simpa using h
 have h2 : (stepsL false)[k] = offK k := by simp [off_all]
 conv => lhs; unfold remB
 rw [List.drop_eq_getElem_cons h1, h2, List.map_cons, List.cons_append]; rfl
theorem remB_end (L : List Cl) (c : Cl) (i : Nat) : remB L c i 27 = remA L (i + 1) := by
 unfold remB
 rw [List.drop_eq_nil_of_le (by rw [off_all]; simp)]; rfl
def accG (a : Sol) (L : List Cl) : Sol := L.foldl (fun a y => if inG y then a ||| one (bitN y) else a) a
theorem accG_nil (a : Sol) : accG a [] = a := rfl
theorem accG_yes {a : Sol} {c : Cl} {L : List Cl} (h : inG c = true) : accG a (c :: L) = accG (a ||| one (bitN c)) L := by unfold accG; rw [List.foldl_cons, if_pos h]
theorem accG_no {a : Sol} {c : Cl} {L : List Cl} (h : inG c = false) : accG a (c :: L) = accG a L := by
 unfold accG; rw [List.foldl_cons, if_neg (by rw [h]; decide)]
theorem accG_filter : ∀ (L : List Cl) (a : Sol), accG a L = orF a ((L.filter inG).map bitN)
 | [], _ => rfl
 | c :: L, a => by
  cases h : inG c with
  | true => rw [accG_yes h, accG_filter L, List.filter_cons, if_pos h, List.map_cons]; rfl
  | false => rw [accG_no h, accG_filter L, List.filter_cons, if_neg (by rw [h]; decide)]
theorem grown_rem (s : Sol) : accG s (remA (cellsS s) 0) = grownS s := by
 rw [accG_filter]; rfl
end Go.Solid
end
section
namespace Go.Rel
open Go.RowKit
variable {P : Program}
end Go.Rel
namespace Go.Proofs.YtkfimbonmnoglaaGreatDoor
open Go.RowKit Go.Draw
theorem bits_or_pl (a b : Sol) (k : Nat) : bits .or .u64 (pl a k) (pl b k) = pl (a ||| b) k := by
 show IntKind.u64.wrap ((BitVec.ofInt 64 (pl a k) ||| BitVec.ofInt 64 (pl b k)).toNat : Int) = _
 rw [ofInt_pl, ofInt_pl, wrap_u64_toNat, ← plv_or]; first | rfl | (unfold pl; rfl) | (delta pl; rfl)

end Go.Proofs.YtkfimbonmnoglaaGreatDoor
namespace Go.Proofs.YtkfimbonmnoglaaGreatDoor
open Go.RowKit Go.Draw
end Go.Proofs.YtkfimbonmnoglaaGreatDoor
namespace Go.Rel
open Go.RowKit
variable {P : Program} {ops : Array Oper} {R : World → World → Prop} {w0 : World} {Q : Act → World → Prop}
attribute [go_sem] step upon_value upon_skip upon_enter
end Go.Rel
namespace Go.Proofs.YtkfimbonmnoglaaGreatDoor
open Go.RowKit Go.Draw
end Go.Proofs.YtkfimbonmnoglaaGreatDoor
namespace Go.Proofs.YtkfimbonmnoglaaGreatDoor
end Go.Proofs.YtkfimbonmnoglaaGreatDoor
end
section
namespace Go.Proofs.YtkfimbonmnoglaaGreatDoor
open Go.RowKit Go.Rel Go.Draw Go.Solid
set_option maxRecDepth 100000
set_option maxHeartbeats 2000000 in
theorem join_spec (a b : Sol) (w : World) : Calls Tryz.prog 57 #[solV a, solV b] w fun e w' => e = .returned (solV (a ||| b)) ∧ Below w.heap.size w w' := by
 go_enter Tryz.func57, Tryz.ntmps57
 go_wp2_with fail
 obtain ⟨W0, hW0⟩ : ∃ W0, W0 = ((w.alloc (.cells #[.int .u64 (pl a 0), .int .u64 (pl a 1), .int .u64 (pl a 2), .int .u64 (pl a 3), .int .u64 (pl a 4), .int .u64 (pl a 5), .int .u64 (pl a 6), .int .u64 (pl a 7)] 26)).alloc (.cells #[.int .u64 (pl b 0), .int .u64 (pl b 1), .int .u64 (pl b 2), .int .u64 (pl b 3), .int .u64 (pl b 4), .int .u64 (pl b 5), .int .u64 (pl b 6), .int .u64 (pl b 7)] 26)).alloc (.cells #[.int .u64 0, .int .u64 0, .int .u64 0, .int .u64 0, .int .u64 0, .int .u64 0, .int .u64 0, .int .u64 0] 26) := ⟨_, rfl⟩
 have b1 : Blk W0 w.heap.size #[.int .u64 (pl a 0), .int .u64 (pl a 1), .int .u64 (pl a 2), .int .u64 (pl a 3), .int .u64 (pl a 4), .int .u64 (pl a 5), .int .u64 (pl a 6), .int .u64 (pl a 7)] 26 := by subst hW0; exact (by repeat (first | with_reducible assumption | (refine Blk.at _ _ ?_; (simp; done)) | with_reducible refine Blk.alloc ?_ _ | with_reducible refine Blk.drew ?_ | with_reducible refine Blk.rowS ?_ _ | with_reducible refine Blk.rowO ?_ _ (by simp)))
 have b2 : Blk W0 (w.heap.size + 1) #[.int .u64 (pl b 0), .int .u64 (pl b 1), .int .u64 (pl b 2), .int .u64 (pl b 3), .int .u64 (pl b 4), .int .u64 (pl b 5), .int .u64 (pl b 6), .int .u64 (pl b 7)] 26 := by subst hW0; exact (by repeat (first | with_reducible assumption | (refine Blk.at _ _ ?_; (simp; done)) | with_reducible refine Blk.alloc ?_ _ | with_reducible refine Blk.drew ?_ | with_reducible refine Blk.rowS ?_ _ | with_reducible refine Blk.rowO ?_ _ (by simp)))
 have b3 : Blk W0 (w.heap.size + 1 + 1) #[.int .u64 0, .int .u64 0, .int .u64 0, .int .u64 0, .int .u64 0, .int .u64 0, .int .u64 0, .int .u64 0] 26 := by subst hW0; exact Blk.at _ _ (by simp)
 have hbel : Below w.heap.size w W0 := by subst hW0; exact (by repeat (first | with_reducible exact bel_refl _ | with_reducible assumption | with_reducible refine bel_drewN ?_ _ | with_reducible refine bel_drew ?_ | with_reducible refine bel_alloc ?_ _ | with_reducible refine bel_row ?_ ?_ _ | with_reducible refine bel_set ?_ ?_ _ | refine bel_trans ?_ (by with_reducible assumption) | (simp; done) | (simp; omega)))
 rw [← hW0]
 clear hW0
 have HB := Lib.hid (And.intro b1 (And.intro b2 (And.intro b3 hbel))); clear b1 b2 b3 hbel
 go_loopw [6] (fun iv wx => ∃ z : Nat, z ≤ 8 ∧ iv = .int .i64 z ∧ Hid (Blk wx w.heap.size (mixZ a (a ||| b) z) 26 ∧ W0.grownBy wx (some w.heap.size))) (fun iv _ => 8 - (intOf iv).toNat)
 case atStart => exact ⟨0, by omega, rfl, Lib.hid ⟨HB.out.1, gb_refl _ _⟩⟩
 case round =>
  obtain ⟨z, hz, rfl, HM⟩ := hrel
  by_cases hz8 : z < 8
  ·obtain ⟨BX, hgx⟩ := HM.out
   have cz : wr.cell? ⟨w.heap.size, z, none⟩ = some (.int .u64 (pl a z)) := by rw [BX.cell, mixZ_get _ _ hz8]
   have B2 := HB.out.2.1.gb hgx (by simp)
   have sz : wr.cell? ⟨w.heap.size + 1, z, none⟩ = some (.int .u64 (pl b z)) := by rw [B2.cell]; exact mixA_get (fun i => pl b i) hz8
   have fz := BX.free z
   have lx := BX.lt
   have ls := B2.lt
   have eo := bits_or_pl a b z
   have BXH := Lib.hid (And.intro BX hgx); clear BX hgx HM B2
   go_wp2_with fail
   refine Go.Rel.region_still_tail 7 (by kernel_rfl) (by kernel_rfl) ?_
   simp only [List.take_succ_cons, List.take_zero, List.drop_succ_cons, List.drop_zero]
   repeat still_step
   refine wpStill_nil ?_
   go_wp2_with fail
   go_roundw
   case rel =>
    refine ⟨z + 1, by omega, by go_num, Lib.hid ⟨?_, gb_set (gb_drew BXH.out.2) _ rfl _⟩⟩
    rw [← mixZ_set _ _ hz8]
    exact (BXH.out.1.drew).set z _
   case measure => simp [intOf]; omega
  ·obtain rfl : z = 8 := by omega
   have BX := HM.out.1
   rw [mixZ_end] at BX
   have cX := BX.cell
   have lX := BX.lt
   have B3 := HB.out.2.2.1.gb HM.out.2 (by simp; omega)
   have r3 := B3.row
   have hb := gb_bel HB.out.2.2.2 HM.out.2 (Nat.le_refl _)
   clear HM HB BX
   have cF := (B3.rowS #[.int .u64 (pl (a ||| b) 0), .int .u64 (pl (a ||| b) 1), .int .u64 (pl (a ||| b) 2), .int .u64 (pl (a ||| b) 3), .int .u64 (pl (a ||| b) 4), .int .u64 (pl (a ||| b) 5), .int .u64 (pl (a ||| b) 6), .int .u64 (pl (a ||| b) 7)]).cell
   rw [← B3.rw]
   clear B3
   go_wp2_with fail
   exact bodyPost_ret (v := solV (a ||| b)) (by simp [results, Tryz.results57, go_sem, cF]) rfl ⟨rfl, bel_row hb (by omega) _⟩
end Go.Proofs.YtkfimbonmnoglaaGreatDoor
end
section
namespace Go.Proofs.YtkfimbonmnoglaaGreatDoor
open Go.ChangeShapes Go.WideShapes Go.ChangeAt Go.RowKit Go.Draw
set_option maxRecDepth 100000
theorem ownK : ownKnob Tryz.prog.godebug = none := by kernel_rfl
theorem laidO : laidOutB Tryz.prog = true := by kernel_rfl
theorem and_t {a b : Bool} (h : a = true) (k : b = true) : (a && b) = true := by rw [h, k]; rfl
theorem gMaps : mapsRowed Tryz.prog = true := by kernel_rfl
theorem gStops : (Tryz.prog.stops == []) = true := by kernel_rfl
theorem gKnobs : (Tryz.prog.stopKnobs == []) = true := by kernel_rfl
theorem gHeard : Tryz.prog.stopsHeard = true := by kernel_rfl
theorem gEnter : Tryz.prog.mayEnter = true := by kernel_rfl
theorem cMain : Tryz.pinned.checked.prog.mainIs = some (true, ("2d2b98d2e7a6d467bd98fd00f57c4e37e19420a44b0c74c4b8b93e866a403526" : String).toList) := by kernel_rfl
end Go.Proofs.YtkfimbonmnoglaaGreatDoor
end
section
namespace Go.Proofs.YtkfimbonmnoglaaGreatDoor
open Go.RowKit Go.Rel Go.Draw Go.Solid
set_option maxRecDepth 100000
attribute [local go_sem] Oper.semAt_some
/-- a list of solids in memory, opened -/
def SlO (W : World) (a : Option Addr) (l : List Sol) : Prop := l = [] ∨ ∃ b off, a = some ⟨b, off, none⟩ ∧ Cells W b off 8 (l.map solL)
theorem SlO.mono {W W' : World} {a : Option Addr} {l : List Sol} (h : SlO W a l) (hb : Below W.heap.size W W') : SlO W' a l := by
 rcases h with h | ⟨b, off, h1, h2⟩
 ·exact .inl h
 ·exact .inr ⟨b, off, h1, h2.mono hb h2.1⟩
theorem SlO.at {W : World} {a : Option Addr} {l : List Sol} (h : SlO W a l) {k : Nat} {x : Sol} (hx : l[k]? = some x) : ∃ b off, a = some ⟨b, off, none⟩ ∧ Cells W b off 8 (l.map solL) := by
 rcases h with rfl | h
 ·cases hx
 ·exact h
theorem SlS.opened {W : World} {v : Value} {l : List Sol} (h : SlS W v l) : ∃ a c, v = .slice a l.length c ∧ SlO W a l := by
 obtain ⟨a, c, hv, _, _, hc⟩ := h
 refine ⟨a, c, by rw [hv, List.length_map], ?_⟩
 rcases hc with hc | hc
 ·exact .inl (List.map_eq_nil_iff.1 hc)
 ·exact .inr hc
theorem Cells.row {W : World} {b off k : Nat} {xs : List (List Value)} (h : Cells W b off k xs) {g : Nat} (hne : b ≠ g) (cs : Array Value) : Cells (W.setRow g cs) b off k xs :=
 ⟨by rw [setRow_size]; exact h.1, fun i j u hu => (cell_row_other _ _ _ _ _ hne).trans (h.2 i j u hu)⟩
theorem parts_open (s : Sol) (w : World) (hT : Tab w) : Calls Tryz.prog 37 #[solV s] w fun e w' => (∃ a c, e = .returned (.slice a (partsS s).length c) ∧ SlO w' a (partsS s)) ∧ Below w.heap.size w w' := (parts_spec s w hT).mono fun e w' he => by
 obtain ⟨⟨u, h1, h2⟩, h3⟩ := he
 obtain ⟨a, c, hv, ho⟩ := SlS.opened h2.sl
 exact ⟨⟨a, c, by rw [h1, hv], ho⟩, h3⟩
end Go.Proofs.YtkfimbonmnoglaaGreatDoor
end
section
namespace Go.Proofs.YtkfimbonmnoglaaGreatDoor
open Go.RowKit Go.Rel Go.Draw Go.Solid
set_option maxRecDepth 100000
set_option maxHeartbeats 4000000 in
theorem inGrid_spec (c : Cl) (w : World) : Calls Tryz.prog 126 #[clV c] w fun e w' => e = .returned (.bool (inG c)) ∧ Below w.heap.size w w' := by
 obtain ⟨x, y, z⟩ := c
 obtain ⟨R, hR⟩ : ∃ R, R = inG (x, y, z) := ⟨_, rfl⟩
 rw [← hR]
 have hx : inG (x, y, z) = ((decide (0 ≤ x) && decide (x ≤ 7)) && (decide (0 ≤ y) && decide (y ≤ 7)) && (decide (0 ≤ z) && decide (z ≤ 7))) := rfl
 rw [hx] at hR
 clear hx
 have HR := Lib.hid hR
 clear hR
 go_enter Tryz.func126, Tryz.ntmps126
 go_wp2_with fail
 all_goals (go_ret; exact ⟨ret_bool (by rw [HR.out]; first | (simp [*]; done) | (simp [*]; omega)), (by repeat (first | with_reducible exact bel_refl _ | with_reducible assumption | with_reducible refine bel_drewN ?_ _ | with_reducible refine bel_drew ?_ | with_reducible refine bel_alloc ?_ _ | with_reducible refine bel_row ?_ ?_ _ | with_reducible refine bel_set ?_ ?_ _ | refine bel_trans ?_ (by with_reducible assumption) | (simp; done) | (simp; omega)))⟩)
theorem shlN {X Y : Nat} (h : 8 * Y + X < 64) : IntKind.u64.wrap (8 * (Y : Int) + X) = ((8 * Y + X : Nat) : Int) := by
 unfold IntKind.wrap; simp [IntKind.signed, IntKind.bits]; omega
set_option maxHeartbeats 4000000 in
theorem refHas_spec (s : Sol) (c : Cl) (w : World) : Calls Tryz.prog 80 #[solV s, clV c] w fun e w' => e = .returned (.bool (hasS s c)) ∧ Below w.heap.size w w' := by
 have HI := Lib.hid (fun W => inGrid_spec c W)
 have hbw : Below w.heap.size w ((w.alloc (.cells #[.int .u64 (pl s 0), .int .u64 (pl s 1), .int .u64 (pl s 2), .int .u64 (pl s 3), .int .u64 (pl s 4), .int .u64 (pl s 5), .int .u64 (pl s 6), .int .u64 (pl s 7)] 26)).alloc (.cells #[.int .i64 c.1, .int .i64 c.2.1, .int .i64 c.2.2] 60)) := (by repeat (first | with_reducible exact bel_refl _ | with_reducible assumption | with_reducible refine bel_drewN ?_ _ | with_reducible refine bel_drew ?_ | with_reducible refine bel_alloc ?_ _ | with_reducible refine bel_row ?_ ?_ _ | with_reducible refine bel_set ?_ ?_ _ | refine bel_trans ?_ (by with_reducible assumption) | (simp; done) | (simp; omega)))
 have HW := Lib.hid hbw; clear hbw
 cases hc : inG c with
 | false =>
  have e0 : hasS s c = false := hasS_out hc
  rw [e0]
  rw [hc] at HI
  clear hc e0
  go_enter Tryz.func80, Tryz.ntmps80
  go_wp2_with fail
  refine wp_region_grow 18 [Is (clV c), Is (.bool false), Is (.bool false), Is undef, Is undef, Is undef, Is undef, Is undef, Is undef, Is undef, Is undef, Is undef, Is undef, Is undef, Is undef, Is undef, Is undef, Is (.bool false)] (by kernel_rfl) (by kernel_rfl) rfl ⟨fun _ _ _ h _ => h, fun _ _ _ h _ => h, fun _ _ _ h _ => h, fun _ _ _ h _ => h, fun _ _ _ h _ => h, fun _ _ _ h _ => h, fun _ _ _ h _ => h, fun _ _ _ h _ => h, fun _ _ _ h _ => h, fun _ _ _ h _ => h, fun _ _ _ h _ => h, fun _ _ _ h _ => h, fun _ _ _ h _ => h, fun _ _ _ h _ => h, fun _ _ _ h _ => h, fun _ _ _ h _ => h, fun _ _ _ h _ => h, fun _ _ _ h _ => h, trivial⟩ ?_
  simp only [List.take_succ_cons, List.take_zero, List.drop_succ_cons, List.drop_zero]
  refine rel_cons ?_ (fun v0 => ?_)
  ·intro w1 hb hF; have hc := (Grows.cells hb).1; have hf := (Grows.cells hb).2; try simp [facts, Is] at hF
   go_simp
   exact Grows.refl _
  refine rel_cons ?_ (fun v1 => ?_)
  ·intro w1 hb hF; have hc := (Grows.cells hb).1; have hf := (Grows.cells hb).2; try simp [facts, Is] at hF
   go_simp
   refine (HI.out _).mono ?_
   rintro e w2 ⟨rfl, hb2⟩
   exact ⟨rfl, hb2⟩
  iterate 16 (refine rel_cons ?_ (fun _ => ?_); · intro w1 hb hF; have hc := (Grows.cells hb).1; have hf := (Grows.cells hb).2; (try simp [facts, Is] at hF); go_simp; (try exact Grows.refl _))
  refine rel_nil ?_
  intro w1 hb hF
  simp [Is, Nat.forall_lt_succ_right] at hF
  simp only [Act.put, List.setIfInBounds_toArray, List.set_cons_succ, List.set_cons_zero, hF]
  clear hF
  have hb' := Lib.hid (bel_trans HW.out hb)
  clear hb
  go_wp2_with fail
  go_ret
  exact ⟨rfl, hb'.out⟩
 | true =>
  have hG := inG_iff.1 hc
  have hpl := has_plane (s := s) hc
  obtain ⟨x, y, z⟩ := c
  simp only at hG
  obtain ⟨X, rfl⟩ : ∃ X : Nat, x = X := ⟨x.toNat, by omega⟩
  obtain ⟨Y, rfl⟩ : ∃ X : Nat, y = X := ⟨y.toNat, by omega⟩
  obtain ⟨Z, rfl⟩ : ∃ X : Nat, z = X := ⟨z.toNat, by omega⟩
  have hn : 8 * Y + X < 64 := by omega
  have hZ : (Z : Int) < 8 := by omega
  have hZ8 : Z < 8 := by omega
  have x1 := shlN hn
  have x2 : IntKind.u64.wrap ((2 : Int) ^ (8 * (Y : Int) + (X : Int)).toNat) = uI (1#64 <<< (8 * Y + X)) := by rw [show (8 * (Y : Int) + (X : Int)).toNat = 8 * Y + X by omega]; exact bitP_val hn
  have x3 : IntKind.i64.wrap (8 * (Y : Int)) = 8 * (Y : Int) := IntWalk.i64_in _ ⟨by omega, by omega⟩
  have x4 : IntKind.i64.wrap (8 * (Y : Int) + X) = 8 * (Y : Int) + X := IntWalk.i64_in _ ⟨by omega, by omega⟩
  rw [hc] at HI
  have HPL := Lib.hid hpl
  clear hc hG hpl
  have ea : bits .and .u64 (pl s Z) (uI (1#64 <<< (8 * Y + X))) = uI (plv s Z &&& 1#64 <<< (8 * Y + X)) := by rw [pl_uI]; exact bits_and_u _ _
  obtain ⟨R, hR⟩ : ∃ R, R = hasS s ((X : Int), (Y : Int), (Z : Int)) := ⟨_, rfl⟩
  have en : (uI (plv s Z &&& 1#64 <<< (8 * Y + X)) != 0) = R := by
   rw [bne_u0, hR, ← HPL.out]
   unfold bitP
   rw [show (8 * (Y : Int) + (X : Int)).toNat = 8 * Y + X by omega]; rfl
  rw [← hR]
  clear hR HPL
  go_enter Tryz.func80, Tryz.ntmps80
  go_wp2_with fail
  refine wp_region_grow 18 [Is (.agg #[.int .i64 (X : Int), .int .i64 (Y : Int), .int .i64 (Z : Int)]), Is (.bool true), Is (.bool true), Is (.pointer (some ⟨w.heap.size + 1, 2, none⟩)), Is (.int .i64 (Z : Int)), Is (.pointer (some ⟨w.heap.size, Z, none⟩)), Is (.int .u64 (pl s Z)), Is (.pointer (some ⟨w.heap.size + 1, 1, none⟩)), Is (.int .i64 (Y : Int)), Is (.int .i64 (8 * (Y : Int))), Is (.pointer (some ⟨w.heap.size + 1, 0, none⟩)), Is (.int .i64 (X : Int)), Is (.int .i64 (8 * (Y : Int) + X)), Is (.int .u64 ((8 * Y + X : Nat) : Int)), Is (.int .u64 (uI (1#64 <<< (8 * Y + X)))), Is (.int .u64 (uI (plv s Z &&& 1#64 <<< (8 * Y + X)))), Is (.bool R), Is (.bool R)] (by kernel_rfl) (by kernel_rfl) rfl ⟨fun _ _ _ h _ => h, fun _ _ _ h _ => h, fun _ _ _ h _ => h, fun _ _ _ h _ => h, fun _ _ _ h _ => h, fun _ _ _ h _ => h, fun _ _ _ h _ => h, fun _ _ _ h _ => h, fun _ _ _ h _ => h, fun _ _ _ h _ => h, fun _ _ _ h _ => h, fun _ _ _ h _ => h, fun _ _ _ h _ => h, fun _ _ _ h _ => h, fun _ _ _ h _ => h, fun _ _ _ h _ => h, fun _ _ _ h _ => h, fun _ _ _ h _ => h, trivial⟩ ?_
  simp only [List.take_succ_cons, List.take_zero, List.drop_succ_cons, List.drop_zero]
  refine rel_cons ?_ (fun v0 => ?_)
  ·intro w1 hb hF; have hc := (Grows.cells hb).1; have hf := (Grows.cells hb).2; try simp [facts, Is] at hF
   go_simp
   exact Grows.refl _
  refine rel_cons ?_ (fun v1 => ?_)
  ·intro w1 hb hF; have hc := (Grows.cells hb).1; have hf := (Grows.cells hb).2; try simp [facts, Is] at hF
   go_simp
   refine (HI.out _).mono ?_
   rintro e w2 ⟨rfl, hb2⟩
   exact ⟨rfl, hb2⟩
  iterate 4 (refine rel_cons ?_ (fun _ => ?_); · intro w1 hb hF; have hc := (Grows.cells hb).1; have hf := (Grows.cells hb).2; (try simp [facts, Is] at hF); go_simp; exact Grows.refl _)
  refine rel_cons ?_ (fun v6 => ?_)
  ·intro w1 hb hF; have hc := (Grows.cells hb).1; have hf := (Grows.cells hb).2; try simp [facts, Is] at hF
   have hz := hZ8
   go_simp
   exact ⟨Grows.refl _, getS s hz _⟩
  iterate 11 (refine rel_cons ?_ (fun _ => ?_); · intro w1 hb hF; have hc := (Grows.cells hb).1; have hf := (Grows.cells hb).2; (try simp [facts, Is] at hF); go_simp; exact Grows.refl _)
  refine rel_nil ?_
  intro w1 hb hF
  simp [Is, Nat.forall_lt_succ_right] at hF
  simp only [Act.put, List.setIfInBounds_toArray, List.set_cons_succ, List.set_cons_zero, hF]
  clear hF
  have hb0 : Below _ _ w1 := hb
  have hb1 := Lib.hid (bel_trans HW.out hb0)
  clear hb hb0
  go_wp2_with fail
  go_ret
  exact ⟨rfl, hb1.out⟩
end Go.Proofs.YtkfimbonmnoglaaGreatDoor
end
