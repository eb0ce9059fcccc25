import Derived.Test.YtkfimbonmnoglaaGreatDoorG06
/-
  Given contracts of functions of the program, and laws for them, one behind the other.
-/
set_option linter.unusedVariables false
set_option linter.unusedSimpArgs false
set_option linter.unusedSectionVars false
section
namespace Go.Solid
open Go.Draw
set_option maxRecDepth 100000
/-! parts: what is led together by steps -/
def isStep (faces : Bool) (d : Cl) : Bool := !faces || d.1 * d.1 + d.2.1 * d.2.1 + d.2.2 * d.2.2 == 1
def stepsL (faces : Bool) : List Cl := ([-1, 0, 1] : List Int).flatMap fun z => ([-1, 0, 1] : List Int).flatMap fun y => (([-1, 0, 1] : List Int).map fun x => (x, y, z)).filter (isStep faces)
def delS (s : Sol) (c : Cl) : Sol := s &&& ~~~(one (bitN c))
theorem del_has {s : Sol} {c e : Cl} (hc : inG c = true) : hasS (delS s c) e = true ↔ hasS s e = true ∧ e ≠ c := by
 unfold hasS delS
 cases he : inG e with
 | false => simp
 | true =>
  have hb := bitN_lt he
  rw [Bool.true_and, Bool.true_and, BitVec.getLsbD_and, BitVec.getLsbD_not, one_bit hb, decide_eq_true hb, Bool.true_and, Bool.and_eq_true, Bool.not_eq_true', decide_eq_false_iff_not]
  constructor
  ·rintro ⟨h1, h2⟩
   exact ⟨h1, fun h => h2 (by rw [h])⟩
  ·rintro ⟨h1, h2⟩
   exact ⟨h1, fun h => h2 (bitN_inj he hc h)⟩
def cutS (a b : Sol) : Sol := a &&& ~~~b
theorem cut_has {a b : Sol} {e : Cl} : hasS (cutS a b) e = true ↔ hasS a e = true ∧ hasS b e = false := by
 unfold hasS cutS
 cases he : inG e with
 | false => simp
 | true =>
  have hb := bitN_lt he
  rw [Bool.true_and, Bool.true_and, Bool.true_and, BitVec.getLsbD_and, BitVec.getLsbD_not, decide_eq_true hb, Bool.true_and, Bool.and_eq_true, Bool.not_eq_true']
theorem cut_sub (a b : Sol) : subS (cutS a b) a = true := subS_iff.2 fun c h => (cut_has.1 h).1
theorem not_has {s : Sol} {c : Cl} : hasS s c = false ↔ ¬ (hasS s c = true) := by cases hasS s c <;> simp
inductive Reach (St : List Cl) (l : Sol) (c : Cl) : Cl → Prop
 | start : hasS l c = true → Reach St l c c
 | step {e d : Cl} : Reach St l c e → d ∈ St → hasS l (addC e d) = true → Reach St l c (addC e d)
theorem Reach.has {St : List Cl} {l : Sol} {c e : Cl} (h : Reach St l c e) : hasS l e = true := by
 cases h with
 | start h => exact h
 | step _ _ h => exact h
theorem Reach.first {St : List Cl} {l : Sol} {c e : Cl} (h : Reach St l c e) : hasS l c = true := by
 induction h with
 | start h => exact h
 | step _ _ _ ih => exact ih
theorem Reach.lift {St : List Cl} {l m : Sol} {c d e : Cl} (hs : subS m l = true) (hc : Reach St l c d) (h : Reach St m d e) : Reach St l c e := by
 induction h with
 | start _ => exact hc
 | step _ hd hh ih => exact ih.step hd (subS_iff.1 hs _ hh)
/-- the depth-first visit: what is left behind it -/
def visN (St : List Cl) : Nat → Sol → Cl → Sol
 | 0, l, _ => l
 | n + 1, l, c => if hasS l c then St.foldl (fun l d => visN St n l (addC c d)) (delS l c) else l
structure Vis (St : List Cl) (l : Sol) (c : Cl) (l' : Sol) : Prop where
 sub : subS l' l = true
 gone : hasS l' c = false
 reach : ∀ e, hasS l e = true → hasS l' e = false → Reach St l c e
 closed : ∀ e, hasS l e = true → hasS l' e = false → ∀ d ∈ St, hasS l (addC e d) = true → hasS l' (addC e d) = false
theorem has_sub {a b : Sol} (h : subS a b = true) {c : Cl} (hb : hasS b c = false) : hasS a c = false := by
 rw [not_has] at hb ⊢
 exact fun ha => hb (subS_iff.1 h c ha)
theorem del_count {l : Sol} {c : Cl} (h : hasS l c = true) : countS (delS l c) < countS l := by
 have hs : subS (delS l c) l = true := subS_iff.2 fun e he => ((del_has (has_in h)).1 he).1
 refine Nat.lt_of_not_le fun hle => ?_
 have := count_eq hs hle
 have h2 : hasS (delS l c) c = true := by rw [this]; exact h
 exact ((del_has (has_in h)).1 h2).2 rfl
theorem vis_spec (St : List Cl) : ∀ (n : Nat) (l : Sol) (c : Cl), countS l ≤ n → Vis St l c (visN St n l c)
 | 0, l, c, hn => by
  have h0 : l = 0 := count_zero.1 (by omega)
  have hf : ∀ e, hasS l e = false := fun e => by
   rw [not_has]; intro h
   have := mem_cellsS.2 h
   rw [h0, cellsS_zero] at this; cases this
  exact ⟨subS_refl _, hf c, fun e h _ => (by rw [hf e] at h; cases h), fun e h _ => (by rw [hf e] at h; cases h)⟩
 | n + 1, l, c, hn => by
  unfold visN
  by_cases hc : hasS l c = true
  ·rw [if_pos hc]
   have hg := has_in hc
   have hdel : subS (delS l c) l = true := subS_iff.2 fun e he => ((del_has hg).1 he).1
   have hcnt : countS (delS l c) ≤ n := by have := del_count hc; omega
   have key : ∀ (T : List Cl) (m : Sol), (∀ d ∈ T, d ∈ St) → subS m (delS l c) = true → (∀ e, hasS l e = true → hasS m e = false → Reach St l c e) →
     (∀ e, e ≠ c → hasS l e = true → hasS m e = false → ∀ d ∈ St, hasS l (addC e d) = true → hasS m (addC e d) = false) →
     subS (T.foldl (fun l d => visN St n l (addC c d)) m) (delS l c) = true ∧ subS (T.foldl (fun l d => visN St n l (addC c d)) m) m = true ∧ (∀ e, hasS l e = true → hasS (T.foldl (fun l d => visN St n l (addC c d)) m) e = false → Reach St l c e) ∧
     (∀ e, e ≠ c → hasS l e = true → hasS (T.foldl (fun l d => visN St n l (addC c d)) m) e = false → ∀ d ∈ St, hasS l (addC e d) = true → hasS (T.foldl (fun l d => visN St n l (addC c d)) m) (addC e d) = false) ∧
     (∀ d ∈ T, hasS (T.foldl (fun l d => visN St n l (addC c d)) m) (addC c d) = false) := by
    intro T
    induction T with
    | nil => intro m _ h1 h2 h3; exact ⟨h1, subS_refl _, h2, h3, fun d hd => by cases hd⟩
    | cons d T ih =>
     intro m hT h1 h2 h3
     rw [List.foldl_cons]
     have hv := vis_spec St n m (addC c d) (Nat.le_trans (count_le h1) hcnt)
     have hml : subS m l = true := subS_trans h1 hdel
     have hdSt := hT d List.mem_cons_self
     obtain ⟨k1, k2, k3, k4, k5⟩ := ih (visN St n m (addC c d)) (fun e he => hT e (List.mem_cons_of_mem _ he)) (subS_trans hv.sub h1)
      (fun e he h => by
       cases hm : hasS m e with
       | false => exact h2 e he hm
       | true =>
        have hr := hv.reach e hm h
        cases hcd : hasS m (addC c d) with
        | false =>
         have := hr.first
         rw [hcd] at this; cases this
        | true => exact Reach.lift hml (Reach.step (Reach.start hc) hdSt (subS_iff.1 hml _ hcd)) hr)
      (fun e hne he h d' hd' hf => by
       cases hm : hasS m e with
       | false => exact has_sub hv.sub (h3 e hne he hm d' hd' hf)
       | true =>
        cases hmf : hasS m (addC e d') with
        | false => exact has_sub hv.sub hmf
        | true => exact hv.closed e hm h d' hd' hmf)
     refine ⟨k1, subS_trans k2 hv.sub, k3, k4, fun d' hd' => ?_⟩
     rcases List.mem_cons.1 hd' with rfl | hd'
     ·exact has_sub k2 hv.gone
     ·exact k5 d' hd'
   obtain ⟨k1, k2, k3, k4, k5⟩ := key St (delS l c) (fun _ h => h) (subS_refl _)
    (fun e he h => by
     have : e = c := Classical.byContradiction fun hne => by
      rw [not_has] at h
      exact h ((del_has hg).2 ⟨he, hne⟩)
     rw [this]; exact Reach.start hc)
    (fun e hne he h => by
     rw [not_has] at h
     exact absurd ((del_has hg).2 ⟨he, hne⟩) h)
   have hgone : hasS (St.foldl (fun l d => visN St n l (addC c d)) (delS l c)) c = false := has_sub k1 (by
    rw [not_has]; exact fun h => ((del_has hg).1 h).2 rfl)
   refine ⟨subS_trans k1 hdel, hgone, k3, fun e he h d hd hf => ?_⟩
   by_cases hec : e = c
   ·subst hec; exact k5 d hd
   ·exact k4 e hec he h d hd hf
  ·rw [if_neg hc]
   have hc' := not_has.2 hc
   exact ⟨subS_refl _, hc', fun e he h => (by rw [he] at h; cases h), fun e he h => (by rw [he] at h; cases h)⟩
/-- a part of a solid, by one of its cells -/
structure IsComp (St : List Cl) (l : Sol) (c : Cl) (K : Sol) : Prop where
 sub : subS K l = true
 has : hasS K c = true
 reach : ∀ e, hasS K e = true → Reach St l c e
 closed : ∀ e, hasS K e = true → ∀ d ∈ St, hasS l (addC e d) = true → hasS K (addC e d) = true
theorem comp_all {St : List Cl} {l : Sol} {c : Cl} {K : Sol} (h : IsComp St l c K) {e : Cl} (hr : Reach St l c e) : hasS K e = true := by
 induction hr with
 | start _ => exact h.has
 | step _ hd hh ih => exact h.closed _ ih _ hd hh
theorem comp_unique {St : List Cl} {l : Sol} {c : Cl} {K L : Sol} (h : IsComp St l c K) (k : IsComp St l c L) : K = L :=
 subS_antisymm (subS_iff.2 fun e he => comp_all k (h.reach e he)) (subS_iff.2 fun e he => comp_all h (k.reach e he))
theorem count_512 (s : Sol) : countS s ≤ 512 := by
 unfold countS bitsS
 exact Nat.le_trans (List.length_filter_le _ _) (by rw [List.length_range]; exact Nat.le_refl _)
def partS (St : List Cl) (l : Sol) (c : Cl) : Sol := cutS l (visN St 512 l c)
theorem comp_spec {St : List Cl} {l : Sol} {c : Cl} (hc : hasS l c = true) : IsComp St l c (partS St l c) := by
 have h := vis_spec St 512 l c (count_512 l)
 refine ⟨cut_sub _ _, cut_has.2 ⟨hc, h.gone⟩, fun e he => ?_, fun e he d hd hf => ?_⟩
 ·obtain ⟨h1, h2⟩ := cut_has.1 he
  exact h.reach e h1 h2
 ·obtain ⟨h1, h2⟩ := cut_has.1 he
  exact cut_has.2 ⟨hf, h.closed e h1 h2 d hd hf⟩
theorem vis_cut {St : List Cl} {l : Sol} {c : Cl} : visN St 512 l c = cutS l (partS St l c) := by
 have h := vis_spec St 512 l c (count_512 l)
 refine subS_antisymm (subS_iff.2 fun e he => cut_has.2 ⟨subS_iff.1 h.sub e he, ?_⟩) (subS_iff.2 fun e he => ?_)
 ·rw [not_has]; intro hk
  have := (cut_has.1 hk).2
  rw [he] at this; cases this
 ·obtain ⟨h1, h2⟩ := cut_has.1 he
  cases hv : hasS (visN St 512 l c) e with
  | true => rfl
  | false => rw [not_has] at h2; exact absurd (cut_has.2 ⟨h1, hv⟩) h2
end Go.Solid
end
section
namespace Go.Solid
open Go.Draw
set_option maxRecDepth 100000
/-! all parts of a solid, in the order of their first cells -/
def clsF (St : List Cl) : List Cl → Sol → List Sol
 | [], _ => []
 | c :: cs, l => if hasS l c then partS St l c :: clsF St cs (visN St 512 l c) else clsF St cs l
def classesS (St : List Cl) (s : Sol) : List Sol := clsF St (cellsS s) s
/-- as the reference has them -/
def clsR (St : List Cl) : Nat → Sol → List Sol
 | 0, _ => []
 | n + 1, l => match cellsS l with
  | [] => []
  | c :: _ => partS St l c :: clsR St n (cutS l (partS St l c))
theorem cells_sub {a b : Sol} (h : subS a b = true) : cellsS a = (cellsS b).filter fun c => hasS a c := by
 unfold cellsS
 rw [List.filter_map]
 congr 1
 unfold bitsS
 rw [List.filter_filter]
 apply List.filter_congr
 intro n hn
 have hn' := List.mem_range.1 hn
 simp only [Function.comp]
 rw [hasS_cellN hn']
 have h1 := subS_iff.1 h (cellN n)
 rw [hasS_cellN hn', hasS_cellN hn'] at h1
 cases ha : a.getLsbD n with
 | false => simp
 | true => simp [h1 ha]
theorem cls_eq (St : List Cl) : ∀ (cs : List Cl) (l : Sol) (n : Nat), cellsS l = cs.filter (fun c => hasS l c) → countS l ≤ n → clsF St cs l = clsR St n l
 | [], l, n, h, _ => by
  rw [List.filter_nil] at h
  cases n with
  | zero => rfl
  | succ n => unfold clsF clsR; rw [h]
 | c :: cs, l, n, h, hn => by
  unfold clsF
  by_cases hc : hasS l c = true
  ·rw [if_pos hc]
   rw [List.filter_cons, if_pos hc] at h
   have hn1 : 1 ≤ n := by
    rw [countS_cells, h, List.length_cons] at hn; omega
   obtain ⟨k, rfl⟩ : ∃ k, n = k + 1 := ⟨n - 1, by omega⟩
   have hv := vis_spec St 512 l c (count_512 l)
   have e2 : clsR St (k + 1) l = partS St l c :: clsR St k (cutS l (partS St l c)) := by
    rw [clsR]
    split
    ·rename_i h0; rw [h0] at h; cases h
    ·rename_i c' t h0
     rw [h0] at h
     cases h
     rfl
   rw [e2, ← vis_cut]
   congr 1
   refine cls_eq St cs _ k ?_ ?_
   ·rw [cells_sub hv.sub, h, List.filter_cons, if_neg (by rw [hv.gone]; simp), List.filter_filter]
    apply List.filter_congr
    intro e _
    cases he : hasS (visN St 512 l c) e with
    | false => simp
    | true => simp [subS_iff.1 hv.sub e he]
   ·have h1 : countS (visN St 512 l c) < countS l := by
     refine Nat.lt_of_not_le fun hle => ?_
     have := count_eq hv.sub hle
     have h2 := hv.gone
     rw [this, hc] at h2; cases h2
    omega
  ·rw [if_neg hc]
   rw [List.filter_cons, if_neg hc] at h
   exact cls_eq St cs l n h hn
theorem classes_ref (St : List Cl) (s : Sol) {n : Nat} (hn : countS s ≤ n) : classesS St s = clsR St n s := by
 unfold classesS
 refine cls_eq St _ s n ?_ hn
 rw [List.filter_eq_self.2]
 intro c hc
 exact mem_cellsS.1 hc
/-! what the parts are -/
def Sym (St : List Cl) : Prop := ∀ d ∈ St, negC d ∈ St
theorem add_neg (e d : Cl) : addC (addC e d) (negC d) = e := by
 have key : ∀ k, co (addC (addC e d) (negC d)) k = co e k := fun k => by rw [co_add, co_add, co_neg]; omega
 exact co_ext (key 0) (key 1) (key 2)
/-- l holds whole parts of s -/
def Whole (St : List Cl) (s l : Sol) : Prop := subS l s = true ∧ ∀ e, hasS l e = true → ∀ d ∈ St, hasS s (addC e d) = true → hasS l (addC e d) = true
theorem whole_comp {St : List Cl} {s l K : Sol} {c : Cl} (hw : Whole St s l) (h : IsComp St l c K) : IsComp St s c K := by
 refine ⟨subS_trans h.sub hw.1, h.has, fun e he => ?_, fun e he d hd hf => ?_⟩
 ·exact Reach.lift hw.1 (Reach.start (subS_iff.1 (subS_trans h.sub hw.1) c h.has)) (h.reach e he)
 ·exact h.closed e he d hd (hw.2 e (subS_iff.1 h.sub e he) d hd hf)
theorem whole_cut {St : List Cl} (hS : Sym St) {s l K : Sol} {c : Cl} (hw : Whole St s l) (h : IsComp St l c K) : Whole St s (cutS l K) := by
 refine ⟨subS_trans (cut_sub _ _) hw.1, fun e he d hd hf => ?_⟩
 obtain ⟨h1, h2⟩ := cut_has.1 he
 have h3 := hw.2 e h1 d hd hf
 refine cut_has.2 ⟨h3, ?_⟩
 rw [not_has]
 intro hk
 have := h.closed _ hk (negC d) (hS d hd) (by rw [add_neg]; exact h1)
 rw [add_neg, h2] at this
 cases this
/-- each class is a part of the whole; each cell is in one of them; no two have a cell -/
structure Parts (St : List Cl) (s l : Sol) (L : List Sol) : Prop where
 comp : ∀ K ∈ L, ∃ c, hasS l c = true ∧ IsComp St s c K ∧ subS K l = true
 all : ∀ e, hasS l e = true → ∃ K ∈ L, hasS K e = true
 apart : L.Pairwise fun A B => ∀ e, hasS A e = true → hasS B e = false
theorem clsR_parts {St : List Cl} (hS : Sym St) {s : Sol} : ∀ (n : Nat) (l : Sol), countS l ≤ n → Whole St s l → Parts St s l (clsR St n l)
 | 0, l, hn, _ => by
  have h0 : l = 0 := count_zero.1 (by omega)
  unfold clsR
  refine ⟨fun K h => (by cases h), fun e he => ?_, List.Pairwise.nil⟩
  have := mem_cellsS.2 he
  rw [h0, cellsS_zero] at this; cases this
 | n + 1, l, hn, hw => by
  unfold clsR
  split
  ·rename_i h0
   refine ⟨fun K h => (by cases h), fun e he => ?_, List.Pairwise.nil⟩
   have := mem_cellsS.2 he
   rw [h0] at this; cases this
  ·rename_i c t h0
   have hc : hasS l c = true := mem_cellsS.1 (by rw [h0]; exact List.mem_cons_self)
   have hK := comp_spec (St := St) hc
   have hcnt : countS (cutS l (partS St l c)) ≤ n := by
    have h1 : countS (cutS l (partS St l c)) < countS l := by
     refine Nat.lt_of_not_le fun hle => ?_
     have := count_eq (cut_sub l (partS St l c)) hle
     have h2 : hasS (cutS l (partS St l c)) c = true := by rw [this]; exact hc
     have := (cut_has.1 h2).2
     rw [hK.has] at this; cases this
    omega
   obtain ⟨p1, p2, p3⟩ := clsR_parts hS n _ hcnt (whole_cut hS hw hK)
   refine ⟨fun K h => ?_, fun e he => ?_, List.pairwise_cons.2 ⟨fun B hB e he => ?_, p3⟩⟩
   ·rcases List.mem_cons.1 h with rfl | h
    ·exact ⟨c, hc, whole_comp hw hK, hK.sub⟩
    ·obtain ⟨c', h1, h2, h3⟩ := p1 K h
     exact ⟨c', (cut_has.1 h1).1, h2, subS_trans h3 (cut_sub _ _)⟩
   ·cases hk : hasS (partS St l c) e with
    | true => exact ⟨_, List.mem_cons_self, hk⟩
    | false =>
     obtain ⟨K, h1, h2⟩ := p2 e (cut_has.2 ⟨he, hk⟩)
     exact ⟨K, List.mem_cons_of_mem _ h1, h2⟩
   ·obtain ⟨c', _, _, h3⟩ := p1 B hB
    rw [not_has]
    intro hb
    have := (cut_has.1 (subS_iff.1 h3 e hb)).2
    rw [he] at this; cases this
theorem classes_parts {St : List Cl} (hS : Sym St) (s : Sol) : Parts St s s (classesS St s) := by
 rw [classes_ref St s (count_512 s)]
 exact clsR_parts hS 512 s (count_512 s) ⟨subS_refl _, fun _ _ _ _ h => h⟩
theorem steps_sym (f : Bool) : Sym (stepsL f) := by
 have h : ((stepsL f).all fun d => (stepsL f).contains (negC d)) = true := by cases f <;> decide +kernel
 intro d hd
 have := List.all_eq_true.1 h d hd
 simpa using this
end Go.Solid
end
section
namespace Go.Solid
open Go.Draw
set_option maxRecDepth 100000
/-! the Euler number and the skin -/
def sgn (p : Cl) : Int := if (p.1 + p.2.1 + p.2.2) % 2 = 0 then 1 else -1
/-- a point, an edge, a face, a cell is named by twice the coordinates of its middle -/
def midC (c d : Cl) : Cl := (2 * c.1 + 1 + d.1, 2 * c.2.1 + 1 + d.2.1, 2 * c.2.2 + 1 + d.2.2)
def ptsS (s : Sol) : List Cl := (cellsS s).flatMap fun c => (stepsL false).map fun d => midC c d
def addNew (seen : List Cl) (p : Cl) : List Cl := if p ∈ seen then seen else seen ++ [p]
def seenF (l : List Cl) : List Cl := l.foldl addNew []
def sumZ (f : Cl → Int) (l : List Cl) : Int := (l.map f).sum
def eulerS (s : Sol) : Int := sumZ sgn (seenF (ptsS s))
theorem addNew_spec {seen : List Cl} {p : Cl} (h : seen.Nodup) : (addNew seen p).Nodup ∧ ∀ q, q ∈ addNew seen p ↔ q ∈ seen ∨ q = p := by
 unfold addNew
 split
 ·rename_i hp
  refine ⟨h, fun q => ⟨fun hq => .inl hq, fun hq => ?_⟩⟩
  rcases hq with hq | rfl
  ·exact hq
  ·exact hp
 ·rename_i hp
  refine ⟨?_, fun q => by rw [List.mem_append, List.mem_singleton]⟩
  rw [List.nodup_append]
  refine ⟨h, List.pairwise_singleton _ _, fun a ha b hb e => ?_⟩
  rw [List.mem_singleton] at hb
  subst hb e
  exact hp ha
theorem seen_spec (l : List Cl) : (seenF l).Nodup ∧ ∀ q, q ∈ seenF l ↔ q ∈ l := by
 have key : ∀ (l acc : List Cl), acc.Nodup → (l.foldl addNew acc).Nodup ∧ ∀ q, q ∈ l.foldl addNew acc ↔ q ∈ acc ∨ q ∈ l := by
  intro l
  induction l with
  | nil => intro acc h; exact ⟨h, fun q => by simp⟩
  | cons p l ih =>
   intro acc h
   obtain ⟨h1, h2⟩ := addNew_spec (p := p) h
   obtain ⟨h3, h4⟩ := ih _ h1
   refine ⟨h3, fun q => ?_⟩
   rw [List.foldl_cons, h4, h2, List.mem_cons, or_assoc]
 obtain ⟨h1, h2⟩ := key l [] List.nodup_nil
 exact ⟨h1, fun q => by rw [show seenF l = l.foldl addNew [] from rfl, h2]; simp⟩
theorem sumZ_append (f : Cl → Int) (l m : List Cl) : sumZ f (l ++ m) = sumZ f l + sumZ f m := by unfold sumZ; rw [List.map_append, List.sum_append]
theorem sumZ_perm (f : Cl → Int) {l m : List Cl} (h : l.Perm m) : sumZ f l = sumZ f m := by
 induction h with
 | nil => rfl
 | cons x _ ih => unfold sumZ at *; rw [List.map_cons, List.map_cons, List.sum_cons, List.sum_cons, ih]
 | swap x y l => unfold sumZ; simp only [List.map_cons, List.sum_cons]; omega
 | trans _ _ h1 h2 => exact h1.trans h2
theorem sumZ_filter (f : Cl → Int) (p : Cl → Bool) : ∀ l : List Cl, sumZ (fun q => if p q then f q else 0) l = sumZ f (l.filter p)
 | [] => rfl
 | q :: l => by
  have ih := sumZ_filter f p l
  unfold sumZ at ih ⊢
  rw [List.map_cons, List.sum_cons, ih, List.filter_cons]
  cases p q with
  | true => rw [if_pos rfl, if_pos rfl, List.map_cons, List.sum_cons]
  | false => simp
/-- the reference goes over all of them -/
def nameC (n : Nat) : Cl := (((2 * (n / 8 % 9) + n % 2 : Nat) : Int), ((2 * (n / 72 % 9) + n / 2 % 2 : Nat) : Int), ((2 * (n / 648) + n / 4 % 2 : Nat) : Int))
theorem nameC_inj {n m : Nat} (h : nameC n = nameC m) : n = m := by
 unfold nameC at h
 simp only [Prod.mk.injEq] at h
 omega
theorem name_of {x y z a b c : Nat} (hx : x ≤ 8) (hy : y ≤ 8) (ha : a < 2) (hb : b < 2) (hc : c < 2) : nameC (648 * z + 72 * y + 8 * x + 4 * c + 2 * b + a) = (((2 * x + a : Nat) : Int), ((2 * y + b : Nat) : Int), ((2 * z + c : Nat) : Int)) := by
 have e1 : (648 * z + 72 * y + 8 * x + 4 * c + 2 * b + a) / 8 = 81 * z + 9 * y + x := by omega
 have e2 : (648 * z + 72 * y + 8 * x + 4 * c + 2 * b + a) / 72 = 9 * z + y := by omega
 have e3 : (648 * z + 72 * y + 8 * x + 4 * c + 2 * b + a) / 648 = z := by omega
 have e4 : (648 * z + 72 * y + 8 * x + 4 * c + 2 * b + a) % 2 = a := by omega
 have e5 : (648 * z + 72 * y + 8 * x + 4 * c + 2 * b + a) / 2 % 2 = b := by omega
 have e6 : (648 * z + 72 * y + 8 * x + 4 * c + 2 * b + a) / 4 % 2 = c := by omega
 unfold nameC
 rw [e1, e2, e3, e4, e5, e6, show (81 * z + 9 * y + x) % 9 = x by omega, show (9 * z + y) % 9 = y by omega]
def touched (s : Sol) (p : Cl) : Bool := decide (p ∈ ptsS s)
def eulerR (s : Sol) : Int := ((List.range 5832).map fun n => if touched s (nameC n) then sgn (nameC n) else 0).sum
theorem steps_in {f : Bool} {d : Cl} (h : d ∈ stepsL f) : ∀ k, -1 ≤ co d k ∧ co d k ≤ 1 := by
 have h1 : ((stepsL f).all fun d => decide (-1 ≤ d.1 ∧ d.1 ≤ 1) && decide (-1 ≤ d.2.1 ∧ d.2.1 ≤ 1) && decide (-1 ≤ d.2.2 ∧ d.2.2 ≤ 1)) = true := by cases f <;> decide +kernel
 have h2 := List.all_eq_true.1 h1 d h
 simp only [Bool.and_eq_true, decide_eq_true_eq] at h2
 intro k
 match k with
 | 0 => exact h2.1.1
 | 1 => exact h2.1.2
 | _ + 2 => exact h2.2
theorem steps_all {d : Cl} (h : ∀ k, -1 ≤ co d k ∧ co d k ≤ 1) : d ∈ stepsL false := by
 obtain ⟨x, y, z⟩ := d
 have hx := h 0; have hy := h 1; have hz := h 2
 have hx' : x = -1 ∨ x = 0 ∨ x = 1 := by have : -1 ≤ x ∧ x ≤ 1 := hx; omega
 have hy' : y = -1 ∨ y = 0 ∨ y = 1 := by have : -1 ≤ y ∧ y ≤ 1 := hy; omega
 have hz' : z = -1 ∨ z = 0 ∨ z = 1 := by have : -1 ≤ z ∧ z ≤ 1 := hz; omega
 rcases hx' with rfl | rfl | rfl <;> rcases hy' with rfl | rfl | rfl <;> rcases hz' with rfl | rfl | rfl <;> decide +kernel
theorem pts_iff {s : Sol} {p : Cl} : p ∈ ptsS s ↔ ∃ c, hasS s c = true ∧ ∀ k, -1 ≤ co p k - (2 * co c k + 1) ∧ co p k - (2 * co c k + 1) ≤ 1 := by
 unfold ptsS
 rw [List.mem_flatMap]
 constructor
 ·rintro ⟨c, hc, h⟩
  rw [List.mem_map] at h
  obtain ⟨d, hd, rfl⟩ := h
  refine ⟨c, mem_cellsS.1 hc, fun k => ?_⟩
  have h1 := steps_in hd k
  have e : co (midC c d) k = 2 * co c k + 1 + co d k := by
   match k with
   | 0 => rfl
   | 1 => rfl
   | _ + 2 => rfl
  rw [e]; omega
 ·rintro ⟨c, hc, h⟩
  refine ⟨c, mem_cellsS.2 hc, List.mem_map.2 ⟨(p.1 - (2 * c.1 + 1), p.2.1 - (2 * c.2.1 + 1), p.2.2 - (2 * c.2.2 + 1)), steps_all fun k => ?_, ?_⟩⟩
  ·match k with
   | 0 => exact h 0
   | 1 => exact h 1
   | _ + 2 => exact h 2
  ·unfold midC
   refine Prod.ext ?_ (Prod.ext ?_ ?_)
   ·show 2 * c.1 + 1 + (p.1 - (2 * c.1 + 1)) = p.1; omega
   ·show 2 * c.2.1 + 1 + (p.2.1 - (2 * c.2.1 + 1)) = p.2.1; omega
   ·show 2 * c.2.2 + 1 + (p.2.2 - (2 * c.2.2 + 1)) = p.2.2; omega
theorem euler_ref (s : Sol) : eulerR s = eulerS s := by
 have e1 : eulerR s = sumZ (fun q => if touched s q then sgn q else 0) ((List.range 5832).map nameC) := by
  unfold eulerR sumZ
  rw [List.map_map]; rfl
 rw [e1, sumZ_filter]
 unfold eulerS
 refine sumZ_perm _ ((List.perm_ext_iff_of_nodup ?_ (seen_spec _).1).2 fun q => ?_)
 ·refine List.Pairwise.filter _ ?_
  rw [List.pairwise_map]
  exact (show (List.range 5832).Nodup from List.nodup_range).imp fun {a b} h e => h (nameC_inj e)
 ·rw [List.mem_filter, (seen_spec _).2]
  unfold touched
  rw [decide_eq_true_eq]
  refine ⟨fun h => h.2, fun h => ⟨?_, h⟩⟩
  obtain ⟨c, hc, hk⟩ := pts_iff.1 h
  have hg := inG_iff.1 (has_in hc)
  have h0 := hk 0; have h1 := hk 1; have h2 := hk 2
  obtain ⟨x, y, z⟩ := q
  obtain ⟨a, b, d⟩ := c
  have h0' : -1 ≤ x - (2 * a + 1) ∧ x - (2 * a + 1) ≤ 1 := h0
  have h1' : -1 ≤ y - (2 * b + 1) ∧ y - (2 * b + 1) ≤ 1 := h1
  have h2' : -1 ≤ z - (2 * d + 1) ∧ z - (2 * d + 1) ≤ 1 := h2
  simp only at hg
  obtain ⟨X, hX⟩ : ∃ X : Nat, x = X := ⟨x.toNat, by omega⟩
  obtain ⟨Y, hY⟩ : ∃ X : Nat, y = X := ⟨y.toNat, by omega⟩
  obtain ⟨Z, hZ⟩ : ∃ X : Nat, z = X := ⟨z.toNat, by omega⟩
  subst hX hY hZ
  refine List.mem_map.2 ⟨648 * (Z / 2) + 72 * (Y / 2) + 8 * (X / 2) + 4 * (Z % 2) + 2 * (Y % 2) + X % 2, List.mem_range.2 (by omega), ?_⟩
  rw [name_of (by omega) (by omega) (Nat.mod_lt _ (by decide)) (Nat.mod_lt _ (by decide)) (Nat.mod_lt _ (by decide))]
  refine Prod.ext ?_ (Prod.ext ?_ ?_)
  ·show ((2 * (X / 2) + X % 2 : Nat) : Int) = X; omega
  ·show ((2 * (Y / 2) + Y % 2 : Nat) : Int) = Y; omega
  ·show ((2 * (Z / 2) + Z % 2 : Nat) : Int) = Z; omega
/-- faces behind which there is no cell -/
def bareN (s : Sol) (c : Cl) : Nat := ((stepsL true).filter fun d => !hasS s (addC c d)).length
def skinS (s : Sol) : Nat := ((cellsS s).map (bareN s)).sum
end Go.Solid
end
section
namespace Go.Solid
open Go.Draw
set_option maxRecDepth 100000
/-! the count of ones of a word -/
theorem land256 (a b m c : Nat) (hb : b < 256) (hc : c < 256) : (256 * a + b) &&& (256 * m + c) = 256 * (a &&& m) + (b &&& c) := by
 have h1 : ((256 * a + b) &&& (256 * m + c)) / 2 ^ 8 = a &&& m := by
  rw [Nat.and_div_two_pow]; congr 1 <;> omega
 have h2 : ((256 * a + b) &&& (256 * m + c)) % 2 ^ 8 = b &&& c := by
  rw [Nat.and_mod_two_pow]; congr 1 <;> omega
 omega
def XA (m N : Nat) : Nat := ((N / 2) &&& m) + (N &&& m)
def XB (m N : Nat) : Nat := ((N / 4) &&& m) + (N &&& m)
def XC (m N : Nat) : Nat := ((N / 16) + N) &&& m
def X8 (b : Nat) : Nat := XC 15 (XB 51 (XA 85 b))
def ones8 (b : Nat) : Nat := b % 2 + b / 2 % 2 + b / 4 % 2 + b / 8 % 2 + b / 16 % 2 + b / 32 % 2 + b / 64 % 2 + b / 128 % 2
theorem x8_all : ((List.range 256).all fun b => decide (XA 85 b < 256) && decide (XB 51 (XA 85 b) < 256) && decide (XB 51 (XA 85 b) / 16 ≤ 4) && decide (XB 51 (XA 85 b) % 16 ≤ 4) && decide (X8 b = ones8 b)) = true := by decide +kernel
theorem x8_one {b : Nat} (h : b < 256) : XA 85 b < 256 ∧ XB 51 (XA 85 b) < 256 ∧ XB 51 (XA 85 b) / 16 ≤ 4 ∧ XB 51 (XA 85 b) % 16 ≤ 4 ∧ X8 b = ones8 b := by
 have := List.all_eq_true.1 x8_all b (List.mem_range.2 h)
 simp only [Bool.and_eq_true, decide_eq_true_eq] at this
 exact ⟨this.1.1.1.1, this.1.1.1.2, this.1.1.2, this.1.2, this.2⟩
theorem land_low (x y k m : Nat) (h : m < 2 ^ k) : (2 ^ k * x + y) &&& m = y &&& m := by
 have e : ∀ z, z &&& m = (z % 2 ^ k) &&& m := fun z => by
  have h1 : (z &&& m) % 2 ^ k = z &&& m := Nat.mod_eq_of_lt (Nat.lt_of_le_of_lt Nat.and_le_right h)
  rw [← h1, Nat.and_mod_two_pow, Nat.mod_eq_of_lt h]
 rw [e, e y, Nat.mul_add_mod]
theorem XA_step (m a b : Nat) (hb : b < 256) : XA (256 * m + 85) (256 * a + b) = 256 * XA m a + XA 85 b := by
 unfold XA
 rw [show (256 * a + b) / 2 = 256 * (a / 2) + (2 ^ 7 * (a % 2) + b / 2) by omega, land256 _ _ _ _ (by omega) (by omega), land256 _ _ _ _ hb (by omega), land_low _ _ 7 85 (by decide)]
 omega
theorem XB_step (m a b : Nat) (hb : b < 256) : XB (256 * m + 51) (256 * a + b) = 256 * XB m a + XB 51 b := by
 unfold XB
 rw [show (256 * a + b) / 4 = 256 * (a / 4) + (2 ^ 6 * (a % 4) + b / 4) by omega, land256 _ _ _ _ (by omega) (by omega), land256 _ _ _ _ hb (by omega), land_low _ _ 6 51 (by decide)]
 omega
theorem XC_step (m a b : Nat) (hb : b / 16 ≤ 4) (hb2 : b % 16 ≤ 4) (ha : a % 16 ≤ 4) : XC (256 * m + 15) (256 * a + b) = 256 * XC m a + XC 15 b := by
 unfold XC
 rw [show (256 * a + b) / 16 + (256 * a + b) = 256 * (a / 16 + a) + (2 ^ 4 * (a % 16) + (b / 16 + b)) by omega, land256 _ _ _ _ (by omega) (by omega), land_low _ _ 4 15 (by decide)]
/-- masks of n bytes -/
def mk8 (c : Nat) : Nat → Nat
 | 0 => 0
 | n + 1 => 256 * mk8 c n + c
/-- a number by its bytes, the last ones first -/
def bytesN : List Nat → Nat
 | [] => 0
 | b :: l => 256 * bytesN l + b
theorem pops (l : List Nat) (h : ∀ b ∈ l, b < 256) : XA (mk8 85 l.length) (bytesN l) = bytesN (l.map (XA 85)) ∧ XB (mk8 51 l.length) (bytesN (l.map (XA 85))) = bytesN (l.map fun b => XB 51 (XA 85 b)) ∧ XC (mk8 15 l.length) (bytesN (l.map fun b => XB 51 (XA 85 b))) = bytesN (l.map ones8) := by
 induction l with
 | nil => exact ⟨rfl, rfl, rfl⟩
 | cons b l ih =>
  have hb := x8_one (h b List.mem_cons_self)
  have hb0 := h b List.mem_cons_self
  have i := ih fun x hx => h x (List.mem_cons_of_mem _ hx)
  refine ⟨?_, ?_, ?_⟩
  ·show XA (256 * mk8 85 l.length + 85) (256 * bytesN l + b) = 256 * bytesN (l.map (XA 85)) + XA 85 b
   rw [XA_step _ _ _ hb0, i.1]
  ·show XB (256 * mk8 51 l.length + 51) (256 * bytesN (l.map (XA 85)) + XA 85 b) = 256 * bytesN (l.map fun b => XB 51 (XA 85 b)) + XB 51 (XA 85 b)
   rw [XB_step _ _ _ hb.1, i.2.1]
  ·show XC (256 * mk8 15 l.length + 15) (256 * bytesN (l.map fun b => XB 51 (XA 85 b)) + XB 51 (XA 85 b)) = 256 * bytesN (l.map ones8) + ones8 b
   have ha : bytesN (l.map fun b => XB 51 (XA 85 b)) % 16 ≤ 4 := by
    cases l with
    | nil => exact Nat.zero_le _
    | cons d l =>
     have hd := x8_one (h d (List.mem_cons_of_mem _ List.mem_cons_self))
     show (256 * _ + XB 51 (XA 85 d)) % 16 ≤ 4
     omega
   rw [XC_step _ _ _ hb.2.2.1 hb.2.2.2.1 ha, i.2.2]
   rw [← hb.2.2.2.2]; rfl
def byteL (N : Nat) : List Nat := [N % 256, N / 256 % 256, N / 65536 % 256, N / 16777216 % 256, N / 4294967296 % 256, N / 1099511627776 % 256, N / 281474976710656 % 256, N / 72057594037927936 % 256]
theorem byteL_eq {N : Nat} (h : N < 18446744073709551616) : bytesN (byteL N) = N := by
 unfold byteL bytesN bytesN bytesN bytesN bytesN bytesN bytesN bytesN bytesN
 omega
theorem byteL_lt (N : Nat) : ∀ b ∈ byteL N, b < 256 := by
 intro b hb
 simp only [byteL, List.mem_cons, List.not_mem_nil, or_false] at hb
 omega
/-- bits of a word -/
def cntN : Nat → Nat → Nat
 | 0, _ => 0
 | n + 1, N => N % 2 + cntN n (N / 2)
theorem cnt_list : ∀ (n N : Nat), ((List.range n).filter fun i => N.testBit i).length = cntN n N
 | 0, _ => rfl
 | n + 1, N => by
  rw [List.range_succ_eq_map, List.filter_cons, List.filter_map, Nat.testBit_zero]
  have ih := cnt_list n (N / 2)
  have e : (fun i => N.testBit i) ∘ Nat.succ = fun i => (N / 2).testBit i := by
   funext i
   show N.testBit (i + 1) = _
   rw [Nat.testBit_succ]
  rw [e]
  unfold cntN
  by_cases h : N % 2 = 1
  ·rw [if_pos (by simpa using h), List.length_cons, List.length_map, ih]; omega
  ·rw [if_neg (by simpa using h), List.length_map, ih]; omega
theorem cnt_byte (n N : Nat) : cntN (n + 8) N = ones8 (N % 256) + cntN n (N / 256) := by
 show N % 2 + (N / 2 % 2 + (N / 2 / 2 % 2 + (N / 2 / 2 / 2 % 2 + (N / 2 / 2 / 2 / 2 % 2 + (N / 2 / 2 / 2 / 2 / 2 % 2 + (N / 2 / 2 / 2 / 2 / 2 / 2 % 2 + (N / 2 / 2 / 2 / 2 / 2 / 2 / 2 % 2 + cntN n (N / 2 / 2 / 2 / 2 / 2 / 2 / 2 / 2)))))))) = _
 rw [show N / 2 / 2 / 2 / 2 / 2 / 2 / 2 / 2 = N / 256 by omega]
 unfold ones8
 omega
theorem cnt_bytes (N : Nat) : cntN 64 N = ((byteL N).map ones8).sum := by
 rw [cnt_byte 56, cnt_byte 48, cnt_byte 40, cnt_byte 32, cnt_byte 24, cnt_byte 16, cnt_byte 8, cnt_byte 0]
 unfold byteL
 simp only [List.map_cons, List.map_nil, List.sum_cons, List.sum_nil, cntN, Nat.div_div_eq_div_mul, Nat.reduceMul]
theorem card_cnt (p : U) : cardU p = cntN 64 p.toNat := by
 rw [← cnt_list]
 rfl
theorem ones8_le (b : Nat) : ones8 b ≤ 8 := by unfold ones8; omega
theorem sums8 {c0 c1 c2 c3 c4 c5 c6 c7 : Nat} (h0 : c0 ≤ 8) (h1 : c1 ≤ 8) (h2 : c2 ≤ 8) (h3 : c3 ≤ 8) (h4 : c4 ≤ 8) (h5 : c5 ≤ 8) (h6 : c6 ≤ 8) (h7 : c7 ≤ 8) {Y D E F : Nat}
  (hY : Y = bytesN [c0, c1, c2, c3, c4, c5, c6, c7]) (hD : D = (Y + Y / 256) % 18446744073709551616) (hE : E = (D + D / 65536) % 18446744073709551616) (hF : F = (E + E / 4294967296) % 18446744073709551616) :
  F % 128 = c0 + (c1 + (c2 + (c3 + (c4 + (c5 + (c6 + (c7 + 0))))))) := by
 have q1 : ∀ A r : Nat, r < 256 → (256 * A + r) / 256 = A := fun A r h => by omega
 have q2 : ∀ A r : Nat, r < 65536 → (65536 * A + r) / 65536 = A := fun A r h => by omega
 have q3 : ∀ A r : Nat, r < 4294967296 → (4294967296 * A + r) / 4294967296 = A := fun A r h => by omega
 have hY1 : Y = 256 * bytesN [c1, c2, c3, c4, c5, c6, c7] + c0 := hY
 have hY2 : bytesN [c1, c2, c3, c4, c5, c6, c7] = c1 + 256 * c2 + 65536 * c3 + 16777216 * c4 + 4294967296 * c5 + 1099511627776 * c6 + 281474976710656 * c7 := by
  simp only [bytesN]; omega
 generalize bytesN [c1, c2, c3, c4, c5, c6, c7] = A at hY1 hY2
 have d0 : Y / 256 = A := by rw [hY1]; exact q1 _ _ (by omega)
 rw [d0] at hD
 have d1 : D = Y + A := by rw [hD]; exact Nat.mod_eq_of_lt (by omega)
 clear hD d0 hY
 have e0 : D / 65536 = (c2 + c3) + 256 * (c3 + c4) + 65536 * (c4 + c5) + 16777216 * (c5 + c6) + 4294967296 * (c6 + c7) + 1099511627776 * c7 := by
  have : D = 65536 * ((c2 + c3) + 256 * (c3 + c4) + 65536 * (c4 + c5) + 16777216 * (c5 + c6) + 4294967296 * (c6 + c7) + 1099511627776 * c7) + (256 * (c1 + c2) + (c0 + c1)) := by omega
  rw [this]; exact q2 _ _ (by omega)
 generalize D / 65536 = B at e0 hE
 have e1 : E = D + B := by rw [hE]; exact Nat.mod_eq_of_lt (by omega)
 clear hE
 have f0 : E / 4294967296 = (c4 + c5 + c6 + c7) + 256 * (c5 + c6 + c7) + 65536 * (c6 + c7) + 16777216 * c7 := by
  have : E = 4294967296 * ((c4 + c5 + c6 + c7) + 256 * (c5 + c6 + c7) + 65536 * (c6 + c7) + 16777216 * c7) + (16777216 * (c3 + c4 + c5 + c6) + 65536 * (c2 + c3 + c4 + c5) + 256 * (c1 + c2 + c3 + c4) + (c0 + c1 + c2 + c3)) := by omega
  rw [this]; exact q3 _ _ (by omega)
 generalize E / 4294967296 = G at f0 hF
 have f1 : E + G = 128 * (2 * (c5 + c6 + c7) + 512 * (c6 + c7) + 131072 * c7 + 33554432 * (c4 + c5 + c6 + c7) + 8589934592 * (c5 + c6 + c7) + 2199023255552 * (c6 + c7) + 562949953421312 * c7 + 131072 * (c3 + c4 + c5 + c6) + 512 * (c2 + c3 + c4 + c5) + 2 * (c1 + c2 + c3 + c4)) + (c0 + c1 + c2 + c3 + c4 + c5 + c6 + c7) := by omega
 rw [hF, Nat.mod_mod_of_dvd _ (by decide), f1, Nat.mul_add_mod, Nat.mod_eq_of_lt (by omega)]
 omega
/-- the program's count of ones is the number of ones -/
theorem pop_all (p : U) : (popU p).toNat = cardU p := by
 have hp := p.isLt
 have hN := byteL_eq (N := p.toNat) (by omega)
 obtain ⟨hA, hB, hC⟩ := pops (byteL p.toNat) (byteL_lt _)
 rw [hN] at hA
 have m1 : mk8 85 8 = 6148914691236517205 := by decide
 have m2 : mk8 51 8 = 3689348814741910323 := by decide
 have m3 : mk8 15 8 = 1085102592571150095 := by decide
 have l8 : (byteL p.toNat).length = 8 := rfl
 rw [l8] at hA hB hC
 rw [m1] at hA; rw [m2] at hB; rw [m3] at hC
 have bnd : ∀ f : Nat → Nat, (∀ b, b < 256 → f b < 256) → bytesN ((byteL p.toNat).map f) < 18446744073709551616 := by
  intro f hf
  have h := byteL_lt p.toNat
  have g : ∀ b ∈ byteL p.toNat, f b < 256 := fun b hb => hf b (h b hb)
  unfold byteL at g ⊢
  simp only [List.mem_cons, List.not_mem_nil, or_false, forall_eq_or_imp, forall_eq] at g
  simp only [List.map_cons, List.map_nil, bytesN]
  omega
 have hAx : (popA p).toNat = bytesN ((byteL p.toNat).map (XA 85)) := by
  have : (popA p).toNat = XA 6148914691236517205 p.toNat % 18446744073709551616 := by
   unfold popA XA
   rw [BitVec.toNat_add, BitVec.toNat_and, BitVec.toNat_and, BitVec.toNat_ushiftRight, Nat.shiftRight_eq_div_pow]; rfl
  rw [this, hA]
  exact Nat.mod_eq_of_lt (bnd _ fun b hb => (x8_one hb).1)
 have hBx : (popB (popA p)).toNat = bytesN ((byteL p.toNat).map fun b => XB 51 (XA 85 b)) := by
  have : (popB (popA p)).toNat = XB 3689348814741910323 (popA p).toNat % 18446744073709551616 := by
   unfold popB XB
   rw [BitVec.toNat_add, BitVec.toNat_and, BitVec.toNat_and, BitVec.toNat_ushiftRight, Nat.shiftRight_eq_div_pow]; rfl
  rw [this, hAx, hB]
  exact Nat.mod_eq_of_lt (bnd _ fun b hb => (x8_one hb).2.1)
 have hCx : (popC (popB (popA p))).toNat = bytesN ((byteL p.toNat).map ones8) := by
  have hs : (popB (popA p)).toNat / 16 + (popB (popA p)).toNat < 18446744073709551616 := by
   rw [hBx]
   have g : ∀ b ∈ byteL p.toNat, XB 51 (XA 85 b) / 16 ≤ 4 := fun b hb => (x8_one (byteL_lt _ b hb)).2.2.1
   unfold byteL at g ⊢
   simp only [List.mem_cons, List.not_mem_nil, or_false, forall_eq_or_imp, forall_eq] at g
   simp only [List.map_cons, List.map_nil, bytesN]
   omega
  rw [← hC, ← hBx]
  unfold popC XC
  rw [BitVec.toNat_and, BitVec.toNat_add, BitVec.toNat_ushiftRight, Nat.shiftRight_eq_div_pow]
  rw [show (popB (popA p)).toNat / 2 ^ 4 = (popB (popA p)).toNat / 16 from rfl, Nat.mod_eq_of_lt hs]; rfl
 have hL := sums8 (ones8_le (p.toNat % 256)) (ones8_le (p.toNat / 256 % 256)) (ones8_le (p.toNat / 65536 % 256)) (ones8_le (p.toNat / 16777216 % 256)) (ones8_le (p.toNat / 4294967296 % 256)) (ones8_le (p.toNat / 1099511627776 % 256)) (ones8_le (p.toNat / 281474976710656 % 256)) (ones8_le (p.toNat / 72057594037927936 % 256)) hCx
  (D := (popD (popC (popB (popA p)))).toNat) (E := (popE (popD (popC (popB (popA p))))).toNat) (F := (popF (popE (popD (popC (popB (popA p)))))).toNat)
  (by unfold popD; rw [BitVec.toNat_add, BitVec.toNat_ushiftRight, Nat.shiftRight_eq_div_pow])
  (by unfold popE; rw [BitVec.toNat_add, BitVec.toNat_ushiftRight, Nat.shiftRight_eq_div_pow])
  (by unfold popF; rw [BitVec.toNat_add, BitVec.toNat_ushiftRight, Nat.shiftRight_eq_div_pow])
 have hz : (popU p).toNat = (popF (popE (popD (popC (popB (popA p)))))).toNat % 128 := by
  unfold popU
  rw [BitVec.toNat_and, show (127#64).toNat = 2 ^ 7 - 1 from rfl, Nat.and_two_pow_sub_one_eq_mod]
 rw [hz, hL, card_cnt, cnt_bytes]
 rfl
end Go.Solid
end
