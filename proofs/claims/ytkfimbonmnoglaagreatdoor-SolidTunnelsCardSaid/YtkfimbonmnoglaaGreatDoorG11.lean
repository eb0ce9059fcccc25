import Derived.Test.YtkfimbonmnoglaaGreatDoorG10
/-
  Given contracts of functions of the program, and laws for them, one behind the other.
-/
set_option linter.unusedVariables false
set_option linter.unusedSimpArgs false
set_option linter.unusedSectionVars false
section
namespace Go.Solid
open Go.Draw
set_option maxRecDepth 100000
/-! what turning, moving and mirroring keep -/
structure Iso (f g : Cl → Cl) : Prop where
 gf : ∀ c, g (f c) = c
 fg : ∀ c, f (g c) = c
 fs : ∀ b c e, subC e c ∈ stepsL b → subC (f e) (f c) ∈ stepsL b
 gs : ∀ b c e, subC e c ∈ stepsL b → subC (g e) (g c) ∈ stepsL b
theorem Iso.inj {f g : Cl → Cl} (h : Iso f g) {a b : Cl} (e : f a = f b) : a = b := by rw [← h.gf a, e, h.gf]
theorem Iso.symm {f g : Cl → Cl} (h : Iso f g) : Iso g f := ⟨h.fg, h.gf, h.gs, h.fs⟩
theorem img_at {f g : Cl → Cl} (h : Iso f g) {s : Sol} (hs : stays f s = true) (x : Cl) : hasS (imgS f s) (f x) = hasS s x := by
 rw [Bool.eq_iff_iff]
 constructor
 ·intro hh
  obtain ⟨c, hc, e⟩ := (imgS_has hs (has_in hh)).1 hh
  rw [← h.inj e]; exact hc
 ·intro hh
  exact (imgS_has hs (stays_iff.1 hs x hh)).2 ⟨x, hh, rfl⟩
theorem img_ex {f : Cl → Cl} {s : Sol} (hs : stays f s = true) {y : Cl} (h : hasS (imgS f s) y = true) : ∃ x, hasS s x = true ∧ f x = y := (imgS_has hs (has_in h)).1 h
theorem stays_sub {f : Cl → Cl} {K s : Sol} (h : subS K s = true) (hs : stays f s = true) : stays f K = true := stays_iff.2 fun c hc => stays_iff.1 hs c (subS_iff.1 h c hc)
theorem addC_sub (c d : Cl) : subC (addC c d) c = d := by
 unfold subC addC
 exact Prod.ext (by simp only; omega) (Prod.ext (by simp only; omega) (by simp only; omega))
theorem comp_img {f g : Cl → Cl} (h : Iso f g) {b : Bool} {s K : Sol} {c : Cl} (hs : stays f s = true) (hK : IsComp (stepsL b) s c K) : IsComp (stepsL b) (imgS f s) (f c) (imgS f K) := by
 have hk := stays_sub hK.sub hs
 have hr : ∀ e, Reach (stepsL b) s c e → Reach (stepsL b) (imgS f s) (f c) (f e) := by
  intro e he
  induction he with
  | start h0 => exact Reach.start (by rw [img_at h hs]; exact h0)
  | @step e d hr hd hh ih =>
   have := ih.step (d := subC (f (addC e d)) (f e)) (h.fs b _ _ (by rw [addC_sub]; exact hd)) (by rw [add_sub, img_at h hs]; exact hh)
   rw [add_sub] at this; exact this
 refine ⟨(img_sub hK.sub hs).2, by rw [img_at h hk]; exact hK.has, fun e he => ?_, fun e he d hd hh => ?_⟩
 ·obtain ⟨x, hx, rfl⟩ := img_ex hk he
  exact hr x (hK.reach x hx)
 ·obtain ⟨x, hx, rfl⟩ := img_ex hk he
  obtain ⟨y, hy, ey⟩ := img_ex hs hh
  have h1 : subC (f y) (f x) ∈ stepsL b := by rw [ey, addC_sub]; exact hd
  have h2 := h.gs b _ _ h1
  rw [h.gf, h.gf] at h2
  have := hK.closed x hx _ h2 (by rw [add_sub]; exact hy)
  rw [add_sub] at this
  rw [← ey, img_at h hk]; exact this
theorem img_inj {f g : Cl → Cl} (h : Iso f g) {A B : Sol} (ha : stays f A = true) (hb : stays f B = true) (e : imgS f A = imgS f B) : A = B := by
 refine has_ext fun c => ?_
 rw [← img_at h ha, e, img_at h hb]
theorem classes_nodup {St : List Cl} (hS : Sym St) (s : Sol) : (classesS St s).Nodup :=
 (classes_parts hS s).apart.imp_of_mem fun {A B} hA _ hAB e => by
  obtain ⟨x, hx⟩ := has_some (classes_ne hS hA)
  have := hAB x hx
  rw [← e, hx] at this; cases this
theorem map_nodup_on {α β : Type} {f : α → β} {l : List α} (hl : l.Nodup) (hf : ∀ a ∈ l, ∀ b ∈ l, f a = f b → a = b) : (l.map f).Nodup :=
 List.pairwise_map.2 (List.Pairwise.imp_of_mem (fun {a b} ha hb hne e => hne (hf a ha b hb e)) hl)
theorem classes_img {f g : Cl → Cl} (h : Iso f g) {s : Sol} (b : Bool) (hs : stays f s = true) : (classesS (stepsL b) (imgS f s)).Perm ((classesS (stepsL b) s).map (imgS f)) := by
 have hS := steps_sym b
 have hsub : ∀ K ∈ classesS (stepsL b) s, subS K s = true := fun K hK => by
  obtain ⟨_, _, k, _⟩ := (classes_parts hS s).comp K hK; exact k.sub
 refine (List.perm_ext_iff_of_nodup (classes_nodup hS _) (map_nodup_on (classes_nodup hS _) fun A hA B hB e => img_inj h (stays_sub (hsub A hA) hs) (stays_sub (hsub B hB) hs) e)).2 fun K' => ?_
 rw [List.mem_map]
 constructor
 ·intro hK'
  obtain ⟨c', hc'⟩ := has_some (classes_ne hS hK')
  have k' := comp_of hS hK' hc'
  obtain ⟨c, hc, rfl⟩ := img_ex hs (subS_iff.1 k'.sub c' hc')
  have k := comp_spec (St := stepsL b) hc
  exact ⟨_, comp_mem hS k, comp_unique (comp_img h hs k) k'⟩
 ·rintro ⟨K, hK, rfl⟩
  obtain ⟨c, hc⟩ := has_some (classes_ne hS hK)
  exact comp_mem hS (comp_img h hs (comp_of hS hK hc))
theorem parts_img {f g : Cl → Cl} (h : Iso f g) {s : Sol} (hs : stays f s = true) : (partsS (imgS f s)).length = (partsS s).length := by
 rw [(classes_img h false hs).length_eq, List.length_map]
/-! the skin -/
theorem cells_img {f g : Cl → Cl} (h : Iso f g) {s : Sol} (hs : stays f s = true) : (cellsS (imgS f s)).Perm ((cellsS s).map f) := by
 refine (List.perm_ext_iff_of_nodup (cellsS_nodup _) (map_nodup_on (cellsS_nodup _) fun a _ b _ e => h.inj e)).2 fun c => ?_
 rw [mem_img hs, List.mem_map]
theorem steps_nodup (b : Bool) : (stepsL b).Nodup := by cases b <;> decide +kernel
theorem add_inj {c d e : Cl} (h : addC c d = addC c e) : d = e := addC_inj h
theorem bare_nbr (s : Sol) (c : Cl) : bareN s c = (((stepsL true).map (addC c)).filter fun x => !hasS s x).length := by
 unfold bareN
 rw [List.filter_map, List.length_map]
 rfl
theorem nbr_img {f g : Cl → Cl} (h : Iso f g) (c : Cl) : (((stepsL true).map (addC c)).map f).Perm ((stepsL true).map (addC (f c))) := by
 refine (List.perm_ext_iff_of_nodup (map_nodup_on (map_nodup_on (steps_nodup true) fun a _ b _ e => add_inj e) fun a _ b _ e => h.inj e) (map_nodup_on (steps_nodup true) fun a _ b _ e => add_inj e)).2 fun x => ?_
 simp only [List.mem_map]
 constructor
 ·rintro ⟨y, ⟨d, hd, rfl⟩, rfl⟩
  exact ⟨subC (f (addC c d)) (f c), h.fs true _ _ (by rw [addC_sub]; exact hd), add_sub _ _⟩
 ·rintro ⟨d, hd, rfl⟩
  refine ⟨g (addC (f c) d), ⟨subC (g (addC (f c) d)) c, ?_, add_sub _ _⟩, h.fg _⟩
  have := h.gs true (f c) (addC (f c) d) (by rw [addC_sub]; exact hd)
  rw [h.gf] at this; exact this
theorem skin_img {f g : Cl → Cl} (h : Iso f g) {s : Sol} (hs : stays f s = true) : skinS (imgS f s) = skinS s := by
 unfold skinS
 rw [natsum_perm (cells_img h hs), List.map_map]
 congr 1
 refine List.map_congr_left fun c _ => ?_
 show bareN (imgS f s) (f c) = bareN s c
 rw [bare_nbr, bare_nbr, ← ((nbr_img h c).filter _).length_eq, List.filter_map, List.length_map]
 congr 1
 refine List.filter_congr fun x _ => ?_
 show (!hasS (imgS f s) (f x)) = !hasS s x
 rw [img_at h hs]
/-! the Euler number -/
def nearP (p c : Cl) : Prop := ∀ k, -1 ≤ co p k - (2 * co c k + 1) ∧ co p k - (2 * co c k + 1) ≤ 1
structure IsoP (f g F G : Cl → Cl) : Prop where
 GF : ∀ p, G (F p) = p
 FG : ∀ p, F (G p) = p
 sg : ∀ p, sgn (F p) = sgn p
 nf : ∀ p c, nearP p c → nearP (F p) (f c)
 ng : ∀ p c, nearP p c → nearP (G p) (g c)
theorem euler_img {f g F G : Cl → Cl} (h : Iso f g) (hp : IsoP f g F G) {s : Sol} (hs : stays f s = true) : eulerS (imgS f s) = eulerS s := by
 have hinj : ∀ a b, F a = F b → a = b := fun a b e => by rw [← hp.GF a, e, hp.GF]
 have hperm : (seenF (ptsS (imgS f s))).Perm ((seenF (ptsS s)).map F) := by
  refine (List.perm_ext_iff_of_nodup (seen_spec _).1 (map_nodup_on (seen_spec _).1 fun a _ b _ e => hinj a b e)).2 fun q => ?_
  rw [mem_seen, List.mem_map]
  constructor
  ·rintro ⟨c', hc', hk⟩
   obtain ⟨c, hc, rfl⟩ := img_ex hs hc'
   have := hp.ng q (f c) hk
   rw [h.gf] at this
   exact ⟨G q, mem_seen.2 ⟨c, hc, this⟩, hp.FG q⟩
  ·rintro ⟨p, hp', rfl⟩
   obtain ⟨c, hc, hk⟩ := mem_seen.1 hp'
   exact ⟨f c, by rw [img_at h hs]; exact hc, hp.nf p c hk⟩
 unfold eulerS
 rw [sumZ_perm _ hperm]
 unfold sumZ
 rw [List.map_map]
 congr 1
 exact List.map_congr_left fun p _ => hp.sg p
/-! cavities, where the grid is taken to itself -/
theorem neg_img {f g : Cl → Cl} (h : Iso f g) (hf : ∀ c, inG (f c) = inG c) (s : Sol) : stays f (~~~s) = true ∧ ~~~(imgS f s) = imgS f (~~~s) := by
 have hst : ∀ x : Sol, stays f x = true := fun x => stays_iff.2 fun c hc => by rw [hf]; exact has_in hc
 refine ⟨hst _, has_ext fun y => ?_⟩
 obtain ⟨x, rfl⟩ : ∃ x, f x = y := ⟨g y, h.fg y⟩
 rw [img_at h (hst _), neg_has, neg_has, img_at h (hst _), hf]
theorem cavs_img {f g : Cl → Cl} (h : Iso f g) (hf : ∀ c, inG (f c) = inG c) (hi : ∀ c, hasS innerS (f c) = hasS innerS c) (s : Sol) : (cavsS (imgS f s)).length = (cavsS s).length := by
 have hst : ∀ x : Sol, stays f x = true := fun x => stays_iff.2 fun c hc => by rw [hf]; exact has_in hc
 rw [cavs_ref, cavs_ref, (neg_img h hf s).2, ((classes_img h true (hst _)).filter _).length_eq, List.filter_map, List.length_map]
 congr 1
 refine List.filter_congr fun K _ => ?_
 show subS (imgS f K) innerS = subS K innerS
 rw [Bool.eq_iff_iff, subS_iff, subS_iff]
 constructor
 ·intro hh c hc
  rw [← hi]; exact hh _ (by rw [img_at h (hst _)]; exact hc)
 ·intro hh y hy
  obtain ⟨x, hx, rfl⟩ := img_ex (hst _) hy
  rw [hi]; exact hh x hx
/-! cavities of a moved solid: cells of the solid surround them -/
theorem unit_faces : ((1, 0, 0) : Cl) ∈ stepsL true ∧ ((0, 1, 0) : Cl) ∈ stepsL true ∧ ((0, 0, 1) : Cl) ∈ stepsL true ∧ ((-1, 0, 0) : Cl) ∈ stepsL true ∧ ((0, -1, 0) : Cl) ∈ stepsL true ∧ ((0, 0, -1) : Cl) ∈ stepsL true := by decide +kernel
def upU : Nat → Cl
 | 0 => (1, 0, 0)
 | 1 => (0, 1, 0)
 | _ + 2 => (0, 0, 1)
theorem upU_mem (k : Nat) : upU k ∈ stepsL true ∧ negC (upU k) ∈ stepsL true := by
 match k with
 | 0 => exact ⟨unit_faces.1, unit_faces.2.2.2.1⟩
 | 1 => exact ⟨unit_faces.2.1, unit_faces.2.2.2.2.1⟩
 | _ + 2 => exact ⟨unit_faces.2.2.1, unit_faces.2.2.2.2.2⟩
theorem upU_co (k : Nat) : co (upU k) k = 1 := by
 match k with
 | 0 => rfl
 | 1 => rfl
 | _ + 2 => rfl
theorem inner_co {c : Cl} (h : hasS innerS c = true) (k : Nat) : 1 ≤ co c k ∧ co c k ≤ 6 := by
 obtain ⟨h0, h1, h2⟩ := inner_has.1 h
 match k with
 | 0 => exact h0
 | 1 => exact h1
 | _ + 2 => exact h2
theorem co_unit (c : Cl) (i k : Nat) : -1 ≤ co (upU i) k ∧ co (upU i) k ≤ 1 := steps_in (upU_mem i).1 k
theorem cav_beyond {s K : Sol} (hK : K ∈ cavsS s) (k : Nat) : ∀ (n : Nat) (c : Cl), hasS K c = true → 7 - co c k ≤ (n : Int) → ∃ e, hasS s e = true ∧ co c k < co e k := by
 have hS := steps_sym true
 have hin : subS K innerS = true := by
  have := (cavs_mem.1 hK)
  rw [← cav_inner (classes_ne hS this.1)]; exact this.2
 intro n
 induction n with
 | zero =>
  intro c hc hn
  have := inner_co (subS_iff.1 hin c hc) k
  omega
 | succ n ih =>
  intro c hc hn
  have k0 := comp_of hS (cavs_mem.1 hK).1 hc
  have hck : co (addC c (upU k)) k = co c k + 1 := by rw [co_add, upU_co]
  have hg : inG (addC c (upU k)) = true := in_co fun j => by
   rw [co_add]
   have h1 := inner_co (subS_iff.1 hin c hc) j
   have h2 := co_unit c k j
   omega
  cases hs : hasS s (addC c (upU k)) with
  | true => exact ⟨_, hs, by omega⟩
  | false =>
   have hin2 := k0.closed c hc _ (upU_mem k).1 (neg_has.2 ⟨hg, hs⟩)
   obtain ⟨e, he, h1⟩ := ih _ hin2 (by rw [hck]; omega)
   exact ⟨e, he, by omega⟩
theorem cav_below {s K : Sol} (hK : K ∈ cavsS s) (k : Nat) : ∀ (n : Nat) (c : Cl), hasS K c = true → co c k ≤ (n : Int) → ∃ e, hasS s e = true ∧ co e k < co c k := by
 have hS := steps_sym true
 have hin : subS K innerS = true := by
  have := (cavs_mem.1 hK)
  rw [← cav_inner (classes_ne hS this.1)]; exact this.2
 intro n
 induction n with
 | zero =>
  intro c hc hn
  have := inner_co (subS_iff.1 hin c hc) k
  omega
 | succ n ih =>
  intro c hc hn
  have k0 := comp_of hS (cavs_mem.1 hK).1 hc
  have hck : co (addC c (negC (upU k))) k = co c k - 1 := by rw [co_add, co_neg, upU_co]; omega
  have hg : inG (addC c (negC (upU k))) = true := in_co fun j => by
   rw [co_add, co_neg]
   have h1 := inner_co (subS_iff.1 hin c hc) j
   have h2 := co_unit c k j
   omega
  cases hs : hasS s (addC c (negC (upU k))) with
  | true => exact ⟨_, hs, by omega⟩
  | false =>
   have hin2 := k0.closed c hc _ (upU_mem k).2 (neg_has.2 ⟨hg, hs⟩)
   obtain ⟨e, he, h1⟩ := ih _ hin2 (by rw [hck]; omega)
   exact ⟨e, he, by omega⟩
theorem iso_mov (d : Cl) : Iso (movC d) (movC (negC d)) := by
 have e : ∀ (d c e : Cl), subC (movC d e) (movC d c) = subC e c := fun d c e => by
  unfold movC subC addC
  exact Prod.ext (by simp only; omega) (Prod.ext (by simp only; omega) (by simp only; omega))
 exact ⟨fun c => mov_back d c, fun c => back_mov d c, fun b c x h => by rw [e]; exact h, fun b c x h => by rw [e]; exact h⟩
theorem cav_inn {s K : Sol} (hK : K ∈ cavsS s) : subS K innerS = true := by
 have := (cavs_mem.1 hK)
 rw [← cav_inner (classes_ne (steps_sym true) this.1)]; exact this.2
theorem cav_moved {s K : Sol} {d : Cl} (hs : stays (movC d) s = true) (hK : K ∈ cavsS s) : stays (movC d) K = true ∧ imgS (movC d) K ∈ cavsS (imgS (movC d) s) := by
 have hS := steps_sym true
 have h := iso_mov d
 have hbtw : ∀ c, hasS K c = true → ∀ k, 0 < co (movC d c) k ∧ co (movC d c) k < 7 := fun c hc k => by
  have hc6 := inner_co (subS_iff.1 (cav_inn hK) c hc) k
  obtain ⟨e, he, h1⟩ := cav_beyond hK k 7 c hc (by omega)
  obtain ⟨x, hx, h2⟩ := cav_below hK k 7 c hc (by omega)
  have h3 := co_in (stays_iff.1 hs e he) k
  have h4 := co_in (stays_iff.1 hs x hx) k
  rw [co_mov] at h3 h4 ⊢
  omega
 have hst : stays (movC d) K = true := stays_iff.2 fun c hc => in_co fun k => by have := hbtw c hc k; omega
 obtain ⟨c, hc⟩ := has_some (classes_ne hS (cavs_mem.1 hK).1)
 have k0 := comp_of hS (cavs_mem.1 hK).1 hc
 have hout : ∀ x, hasS K x = true → hasS (~~~(imgS (movC d) s)) (movC d x) = true := fun x hx =>
  neg_has.2 ⟨stays_iff.1 hst x hx, by rw [img_at h hs]; exact cav_out hK x hx⟩
 have kc : IsComp (stepsL true) (~~~(imgS (movC d) s)) (movC d c) (imgS (movC d) K) := by
  refine ⟨subS_iff.2 fun e he => ?_, by rw [img_at h hst]; exact hc, fun e he => ?_, fun e he δ hδ hh => ?_⟩
  ·obtain ⟨x, hx, rfl⟩ := img_ex hst he
   exact hout x hx
  ·obtain ⟨x, hx, rfl⟩ := img_ex hst he
   have hr := reach_in k0 (k0.reach x hx)
   induction hr with
   | start _ => exact Reach.start (hout c hc)
   | @step e0 δ hr hδ hh ih =>
    have := (ih hr.has (by rw [img_at h hst]; exact hr.has)).step (d := subC (movC d (addC e0 δ)) (movC d e0)) (h.fs true _ _ (by rw [addC_sub]; exact hδ)) (by rw [add_sub]; exact hout _ hh)
    rw [add_sub] at this; exact this
  ·obtain ⟨x, hx, rfl⟩ := img_ex hst he
   have e1 : addC (movC d x) δ = movC d (addC x δ) := by
    unfold movC addC
    exact Prod.ext (by simp only; omega) (Prod.ext (by simp only; omega) (by simp only; omega))
   rw [e1] at hh ⊢
   rw [img_at h hst]
   refine k0.closed x hx δ hδ (neg_has.2 ⟨in_co fun j => ?_, ?_⟩)
   ·rw [co_add]
    have h1 := inner_co (subS_iff.1 (cav_inn hK) x hx) j
    have h2 := steps_in hδ j
    omega
   ·have := (neg_has.1 hh).2
    rw [img_at h hs] at this; exact this
 refine ⟨hst, cavs_mem.2 ⟨comp_mem hS kc, ?_⟩⟩
 rw [cav_inner (classes_ne hS (comp_mem hS kc))]
 refine subS_iff.2 fun e he => ?_
 obtain ⟨x, hx, rfl⟩ := img_ex hst he
 have h0 := hbtw x hx 0; have h1 := hbtw x hx 1; have h2 := hbtw x hx 2
 refine inner_has.2 ?_
 generalize movC d x = y at *
 have h0' : 0 < y.1 ∧ y.1 < 7 := h0
 have h1' : 0 < y.2.1 ∧ y.2.1 < 7 := h1
 have h2' : 0 < y.2.2 ∧ y.2.2 < 7 := h2
 omega
theorem cavs_nodup (s : Sol) : (cavsS s).Nodup := List.Pairwise.filter _ (classes_nodup (steps_sym true) _)
theorem cavs_le {s : Sol} {d : Cl} (hs : stays (movC d) s = true) : (cavsS s).length ≤ (cavsS (imgS (movC d) s)).length := by
 rw [show (cavsS s).length = ((cavsS s).map (imgS (movC d))).length from (List.length_map _).symm]
 refine List.Nodup.length_le_of_subset (map_nodup_on (cavs_nodup s) fun A hA B hB e => img_inj (iso_mov d) (cav_moved hs hA).1 (cav_moved hs hB).1 e) ?_
 intro X hX
 obtain ⟨K, hK, rfl⟩ := List.mem_map.1 hX
 exact (cav_moved hs hK).2
theorem cavs_mov {s : Sol} {d : Cl} (hs : stays (movC d) s = true) : (cavsS (imgS (movC d) s)).length = (cavsS s).length := by
 have h := iso_mov d
 have hb : stays (movC (negC d)) (imgS (movC d) s) = true := stays_iff.2 fun c hc => by
  obtain ⟨x, hx, rfl⟩ := img_ex hs hc
  rw [h.gf]; exact has_in hx
 have e : imgS (movC (negC d)) (imgS (movC d) s) = s := by
  refine has_ext fun c => ?_
  have h1 := img_at h.symm hb (movC d c)
  rw [h.gf, img_at h hs] at h1
  rw [h1]
 have h1 := cavs_le hs
 have h2 := cavs_le hb
 rw [e] at h2
 omega
/-! turns and mirrors -/
def permS (p : SP) : Bool := [(0, 1, 2), (0, 2, 1), (1, 0, 2), (1, 2, 0), (2, 0, 1), (2, 1, 0)].contains (p.1.1, p.2.1.1, p.2.2.1)
def apA2 (a : Ax) (c : Cl) : Int := if a.2 then 16 - co c a.1 else co c a.1
def apS2 (p : SP) (c : Cl) : Cl := (apA2 p.1 c, apA2 p.2.1 c, apA2 p.2.2 c)
theorem perm_cases {p : SP} (h : permS p = true) : (p.1.1 = 0 ∧ p.2.1.1 = 1 ∧ p.2.2.1 = 2) ∨ (p.1.1 = 0 ∧ p.2.1.1 = 2 ∧ p.2.2.1 = 1) ∨ (p.1.1 = 1 ∧ p.2.1.1 = 0 ∧ p.2.2.1 = 2) ∨ (p.1.1 = 1 ∧ p.2.1.1 = 2 ∧ p.2.2.1 = 0) ∨ (p.1.1 = 2 ∧ p.2.1.1 = 0 ∧ p.2.2.1 = 1) ∨ (p.1.1 = 2 ∧ p.2.1.1 = 1 ∧ p.2.2.1 = 0) := by
 unfold permS at h
 simpa [Prod.ext_iff] using h
/-- p undoes q, and both are signed permutations -/
structure Undo (p q : SP) : Prop where
 hp : permS p = true
 hq : permS q = true
 pq : compS p q = idS
 qp : compS q p = idS
theorem Undo.symm {p q : SP} (h : Undo p q) : Undo q p := ⟨h.hq, h.hp, h.qp, h.pq⟩
theorem lin_sub (p : SP) (c e : Cl) : subC (apS p e) (apS p c) = linS p (subC e c) := by
 have h := apS_add p c (subC e c)
 rw [add_sub'] at h
 rw [h, addC_sub]
theorem isStep_lin {p : SP} (hp : permS p = true) (b : Bool) {d : Cl} (h : d ∈ stepsL b) : linS p d ∈ stepsL b := by
 have key : ∀ a0 a1 a2 : Bool, ∀ x ∈ [((0 : Nat), (1 : Nat), (2 : Nat)), (0, 2, 1), (1, 0, 2), (1, 2, 0), (2, 0, 1), (2, 1, 0)], ∀ d ∈ stepsL b, linS ((x.1, a0), (x.2.1, a1), (x.2.2, a2)) d ∈ stepsL b := by
  cases b <;> decide +kernel
 have := key p.1.2 p.2.1.2 p.2.2.2 (p.1.1, p.2.1.1, p.2.2.1) (by
  have h := perm_cases hp
  simp only [List.mem_cons, List.not_mem_nil, or_false, Prod.mk.injEq]; omega) d h
 exact this
theorem iso_ap {p q : SP} (h : Undo p q) : Iso (apS p) (apS q) :=
 ⟨fun c => by rw [← apS_comp, h.qp]; rfl, fun c => by rw [← apS_comp, h.pq]; rfl, fun b c e hh => by rw [lin_sub]; exact isStep_lin h.hp b hh, fun b c e hh => by rw [lin_sub]; exact isStep_lin h.hq b hh⟩
theorem co_two (c : Cl) : ∀ k, co (2 * c.1 + 1, 2 * c.2.1 + 1, 2 * c.2.2 + 1) k = 2 * co c k + 1
 | 0 => rfl
 | 1 => rfl
 | _ + 2 => rfl
theorem near_ap (p : SP) {x c : Cl} (h : nearP x c) : nearP (apS2 p x) (apS p c) := by
 have key : ∀ a : Ax, -1 ≤ apA2 a x - (2 * apA a c + 1) ∧ apA2 a x - (2 * apA a c + 1) ≤ 1 := fun a => by
  have := h a.1
  unfold apA2 apA
  split <;> omega
 intro k
 match k with
 | 0 => exact key _
 | 1 => exact key _
 | _ + 2 => exact key _
theorem co_apS2 (q : SP) (c : Cl) : ∀ k, co (apS2 q c) k = apA2 (axS q k) c
 | 0 => rfl
 | 1 => rfl
 | _ + 2 => rfl
theorem apA2_comp (a : Ax) (q : SP) (c : Cl) : apA2 (compA a q) c = apA2 a (apS2 q c) := by
 unfold compA apA2
 simp only
 rw [co_apS2]
 unfold apA2
 cases a.2 <;> cases (axS q a.1).2 <;> simp <;> omega
theorem apS2_comp (p q : SP) (c : Cl) : apS2 (compS p q) c = apS2 p (apS2 q c) := by
 unfold compS
 exact Prod.ext (apA2_comp _ _ _) (Prod.ext (apA2_comp _ _ _) (apA2_comp _ _ _))
theorem sgn_ap {p : SP} (hp : permS p = true) (x : Cl) : sgn (apS2 p x) = sgn x := by
 have key : (apA2 p.1 x + apA2 p.2.1 x + apA2 p.2.2 x) % 2 = (x.1 + x.2.1 + x.2.2) % 2 := by
  have e0 : co x 0 = x.1 := rfl
  have e1 : co x 1 = x.2.1 := rfl
  have e2 : co x 2 = x.2.2 := rfl
  unfold apA2
  rcases perm_cases hp with ⟨a, b, c⟩ | ⟨a, b, c⟩ | ⟨a, b, c⟩ | ⟨a, b, c⟩ | ⟨a, b, c⟩ | ⟨a, b, c⟩ <;> rw [a, b, c, e0, e1, e2] <;> split <;> split <;> split <;> omega
 unfold sgn apS2
 simp only
 rw [key]
theorem isoP_ap {p q : SP} (h : Undo p q) : IsoP (apS p) (apS q) (apS2 p) (apS2 q) :=
 ⟨fun c => by rw [← apS2_comp, h.qp]; rfl, fun c => by rw [← apS2_comp, h.pq]; rfl, fun x => sgn_ap h.hp x, fun x c hh => near_ap p hh, fun x c hh => near_ap q hh⟩
theorem isoP_mov (d : Cl) : IsoP (movC d) (movC (negC d)) (movC (addC d d)) (movC (addC (negC d) (negC d))) := by
 have hn : ∀ d p c, nearP p c → nearP (movC (addC d d) p) (movC d c) := fun d p c h k => by
  have := h k
  rw [co_mov, co_mov, co_add]; omega
 have hb : ∀ d p, movC (addC (negC d) (negC d)) (movC (addC d d) p) = p := fun d p => by
  unfold movC addC negC
  exact Prod.ext (by simp only; omega) (Prod.ext (by simp only; omega) (by simp only; omega))
 have hnn : ∀ d, negC (negC d) = d := fun d => by
  unfold negC
  exact Prod.ext (by simp only; omega) (Prod.ext (by simp only; omega) (by simp only; omega))
 refine ⟨hb d, fun p => ?_, fun p => ?_, hn d, hn (negC d)⟩
 ·have := hb (negC d) p
  rw [hnn] at this; exact this
 ·unfold sgn movC addC
  simp only
  congr 2
  omega
theorem ap_in {p : SP} (hp : permS p = true) (c : Cl) : inG (apS p c) = inG c ∧ hasS innerS (apS p c) = hasS innerS c := by
 have e0 : co c 0 = c.1 := rfl
 have e1 : co c 1 = c.2.1 := rfl
 have e2 : co c 2 = c.2.2 := rfl
 have e : apS p c = (apA p.1 c, apA p.2.1 c, apA p.2.2 c) := rfl
 constructor
 ·rw [Bool.eq_iff_iff, inG_iff, inG_iff, e]
  unfold apA
  rcases perm_cases hp with ⟨a, b, c⟩ | ⟨a, b, c⟩ | ⟨a, b, c⟩ | ⟨a, b, c⟩ | ⟨a, b, c⟩ | ⟨a, b, c⟩ <;> rw [a, b, c, e0, e1, e2] <;> simp only <;> split <;> split <;> split <;> omega
 ·rw [Bool.eq_iff_iff, inner_has, inner_has, e]
  unfold apA
  rcases perm_cases hp with ⟨a, b, c⟩ | ⟨a, b, c⟩ | ⟨a, b, c⟩ | ⟨a, b, c⟩ | ⟨a, b, c⟩ | ⟨a, b, c⟩ <;> rw [a, b, c, e0, e1, e2] <;> simp only <;> split <;> split <;> split <;> omega
/-- what stays the same -/
structure Alike (a b : Sol) : Prop where
 count : countS a = countS b
 parts : (partsS a).length = (partsS b).length
 cavs : (cavsS a).length = (cavsS b).length
 euler : eulerS a = eulerS b
 skin : skinS a = skinS b
theorem Alike.refl (a : Sol) : Alike a a := ⟨rfl, rfl, rfl, rfl, rfl⟩
theorem Alike.trans {a b c : Sol} (h : Alike a b) (k : Alike b c) : Alike a c := ⟨h.1.trans k.1, h.2.trans k.2, h.3.trans k.3, h.4.trans k.4, h.5.trans k.5⟩
theorem alike_ap {p q : SP} (h : Undo p q) (s : Sol) : Alike (imgS (apS p) s) s := by
 have hst : stays (apS p) s = true := stays_iff.2 fun c hc => by rw [(ap_in h.hp c).1]; exact has_in hc
 exact ⟨count_img hst fun c d e => (iso_ap h).inj e, parts_img (iso_ap h) hst, cavs_img (iso_ap h) (fun c => (ap_in h.hp c).1) (fun c => (ap_in h.hp c).2) s, euler_img (iso_ap h) (isoP_ap h) hst, skin_img (iso_ap h) hst⟩
theorem alike_mov {s : Sol} {d : Cl} (h : stays (movC d) s = true) : Alike (imgS (movC d) s) s :=
 ⟨count_img h fun c e he => (iso_mov d).inj he, parts_img (iso_mov d) h, cavs_mov h, euler_img (iso_mov d) (isoP_mov d) h, skin_img (iso_mov d) h⟩
theorem undo_turns : ((List.range 24).all fun t => permS (turnS t) && (compS (turnS t) (turnS (invT t)) == idS) && (compS (turnS (invT t)) (turnS t) == idS)) = true := by decide +kernel
theorem undo_turn {t : Nat} (ht : t < 24) : Undo (turnS t) (turnS (invT t)) := by
 have h1 := List.all_eq_true.1 undo_turns t (List.mem_range.2 ht)
 have h2 := List.all_eq_true.1 undo_turns (invT t) (List.mem_range.2 (inv_lt ht))
 rw [Bool.and_eq_true, Bool.and_eq_true] at h1 h2
 exact ⟨h1.1.1, h2.1.1, eq_of_beq h1.1.2, eq_of_beq h1.2⟩
theorem alike_spun {t : Nat} (ht : t < 24) (s : Sol) : Alike (spunS s t) s := by
 have e : turnC t = apS (turnS t) := funext fun c => turn_eq t c
 unfold spunS
 rw [e]; exact alike_ap (undo_turn ht) s
def mirS (a : Nat) : SP := if a = 0 then ((0, true), (1, false), (2, false)) else if a = 1 then ((0, false), (1, true), (2, false)) else ((0, false), (1, false), (2, true))
theorem undo_mir (a : Nat) : Undo (mirS a) (mirS a) := by
 unfold mirS
 split
 ·exact ⟨by decide, by decide, by decide, by decide⟩
 ·split
  ·exact ⟨by decide, by decide, by decide, by decide⟩
  ·exact ⟨by decide, by decide, by decide, by decide⟩
theorem alike_placed {s p : Sol} {t : Int} {d : Cl} (h : placedM s t d = (p, 0)) : Alike p s := by
 obtain ⟨h1, h2⟩ := placedM_ok.1 h
 have ht := (rightB_iff.1 h1).1
 have hT : t.toNat < 24 := by omega
 rcases movedM_ok.1 h2 with ⟨h3, rfl⟩ | ⟨_, h4, rfl⟩
 ·rw [spun_zero_iff.1 h3]; exact Alike.refl _
 ·exact (alike_mov h4).trans (alike_spun hT s)
end Go.Solid
end
section
namespace Go.Solid
open Go.Draw
set_option maxRecDepth 100000
/-! what a visit takes, bit by bit -/
theorem sub_has {a b : Sol} (h : subS a b = true) {c : Cl} (hc : hasS a c = true) : hasS b c = true := subS_iff.1 h c hc
theorem cutS_self (k l : Sol) : k ||| cutS l l = k := has_ext fun e => by
 rw [or_has, cut_has]
 constructor
 ·rintro (h | ⟨h1, h2⟩)
  ·exact h
  ·rw [h1] at h2; cases h2
 ·exact .inl
theorem cut_del {k l : Sol} {c : Cl} (h : hasS l c = true) : k ||| one (bitN c) = k ||| cutS l (delS l c) := has_ext fun e => by
 have hg := has_in h
 rw [or_has, or_has, one_has hg, cut_has, not_has, del_has hg]
 constructor
 ·rintro (h1 | rfl)
  ·exact .inl h1
  ·exact .inr ⟨h, fun hh => hh.2 rfl⟩
 ·rintro (h1 | ⟨h1, h2⟩)
  ·exact .inl h1
  ·exact .inr (Classical.byContradiction fun he => h2 ⟨h1, he⟩)
theorem cut_join {k a b c : Sol} (h1 : subS b a = true) (h2 : subS c b = true) : (k ||| cutS a b) ||| cutS b c = k ||| cutS a c := has_ext fun e => by
 rw [or_has, or_has, or_has, cut_has, cut_has, cut_has]
 have k1 := subS_iff.1 h1 e
 have k2 := subS_iff.1 h2 e
 cases ha : hasS a e <;> cases hb : hasS b e <;> cases hc : hasS c e <;> simp_all
theorem zero_or (a : Sol) : (0 : Sol) ||| a = a := by simp
theorem vis_no {St : List Cl} {n : Nat} {l : Sol} {c : Cl} (h : hasS l c = false) : visN St n l c = l := by
 cases n with
 | zero => rfl
 | succ n => unfold visN; rw [h]; rfl
theorem vis_yes {St : List Cl} {n : Nat} {l : Sol} {c : Cl} (h : hasS l c = true) : visN St (n + 1) l c = St.foldl (fun l d => visN St n l (addC c d)) (delS l c) := by
 conv => lhs; unfold visN
 rw [if_pos h]
theorem has_count {l : Sol} {c : Cl} (h : hasS l c = true) : 1 ≤ countS l := by
 refine Nat.one_le_iff_ne_zero.2 fun h0 => ?_
 rw [count_zero.1 h0, has_zero] at h
 cases h
theorem vis_sub (St : List Cl) {n : Nat} {l : Sol} (c : Cl) (h : countS l ≤ n) : subS (visN St n l c) l = true := (vis_spec St n l c h).sub
theorem del_sub {l : Sol} {c : Cl} (h : hasS l c = true) : subS (delS l c) l = true := subS_iff.2 fun _ he => ((del_has (has_in h)).1 he).1
theorem steps_near (f : Bool) : ∀ d ∈ stepsL f, -1 ≤ d.1 ∧ d.1 ≤ 1 ∧ -1 ≤ d.2.1 ∧ d.2.1 ≤ 1 ∧ -1 ≤ d.2.2 ∧ d.2.2 ≤ 1 := by cases f <;> decide +kernel
end Go.Solid
end
section
namespace Go.Solid
open Go.Draw
set_option maxRecDepth 100000
/-! classes, cell by cell -/
def clsStep (St : List Cl) (p : Sol × List Sol) (c : Cl) : Sol × List Sol := if hasS p.1 c then (visN St 512 p.1 c, p.2 ++ [partS St p.1 c]) else p
def clsP (St : List Cl) (s : Sol) (pre : List Cl) : Sol × List Sol := pre.foldl (clsStep St) (s, [])
theorem clsP_snoc (St : List Cl) (s : Sol) (pre : List Cl) (c : Cl) : clsP St s (pre ++ [c]) = clsStep St (clsP St s pre) c := by unfold clsP; rw [List.foldl_append]; rfl
theorem clsP_yes {St : List Cl} {p : Sol × List Sol} {c : Cl} (h : hasS p.1 c = true) : clsStep St p c = (visN St 512 p.1 c, p.2 ++ [partS St p.1 c]) := by unfold clsStep; rw [if_pos h]
theorem clsP_no {St : List Cl} {p : Sol × List Sol} {c : Cl} (h : hasS p.1 c = false) : clsStep St p c = p := by unfold clsStep; rw [h]; rfl
theorem clsF_fold (St : List Cl) : ∀ (cs : List Cl) (l : Sol) (L : List Sol), (cs.foldl (clsStep St) (l, L)).2 = L ++ clsF St cs l
 | [], l, L => by simp [clsF]
 | c :: cs, l, L => by
  rw [List.foldl_cons]
  unfold clsF
  cases h : hasS l c with
  | true =>
   rw [clsP_yes (p := (l, L)) h, clsF_fold St cs, if_pos rfl, List.append_assoc]; rfl
  | false =>
   rw [clsP_no (p := (l, L)) h, clsF_fold St cs]; rfl
theorem clsP_all (St : List Cl) (s : Sol) : (clsP St s (cellsS s)).2 = classesS St s := by
 unfold clsP classesS
 rw [clsF_fold, List.nil_append]
theorem clsStep_len (St : List Cl) (p : Sol × List Sol) (c : Cl) : (clsStep St p c).2.length ≤ p.2.length + 1 := by
 unfold clsStep
 split
 ·simp
 ·exact Nat.le_succ _
theorem clsP_len (St : List Cl) (s : Sol) : ∀ pre : List Cl, (clsP St s pre).2.length ≤ pre.length := by
 intro pre
 have key : ∀ (cs : List Cl) (p : Sol × List Sol), (cs.foldl (clsStep St) p).2.length ≤ p.2.length + cs.length := by
  intro cs
  induction cs with
  | nil => intro p; exact Nat.le_refl _
  | cons c cs ih =>
   intro p
   rw [List.foldl_cons, List.length_cons]
   have := ih (clsStep St p c)
   have h2 := clsStep_len St p c
   omega
 have := key pre (s, [])
 simpa [clsP] using this
end Go.Solid
end
section
namespace Go.Solid
open Go.Draw
set_option maxRecDepth 100000
/-! the skin, counted -/
def cntB (s : Sol) (c : Cl) (j : Nat) : Nat := (((stepsL true).take j).filter fun d => !hasS s (addC c d)).length
theorem cntB_zero (s : Sol) (c : Cl) : cntB s c 0 = 0 := rfl
theorem cntB_end (s : Sol) (c : Cl) : cntB s c (stepsL true).length = bareN s c := by unfold cntB bareN; rw [List.take_length]
theorem cntB_succ {s : Sol} {c d : Cl} {j : Nat} (h : (stepsL true)[j]? = some d) : cntB s c (j + 1) = if hasS s (addC c d) then cntB s c j else cntB s c j + 1 := by
 unfold cntB
 rw [List.take_add_one, h, List.filter_append, List.length_append]
 cases hq : hasS s (addC c d) <;> simp [hq]
theorem cntB_le (s : Sol) (c : Cl) (j : Nat) : cntB s c j ≤ 6 := by
 unfold cntB
 refine Nat.le_trans (List.length_filter_le _ _) (Nat.le_trans (List.length_take_le' _ _) ?_)
 decide +kernel
theorem bareN_le (s : Sol) (c : Cl) : bareN s c ≤ 6 := by rw [← cntB_end]; exact cntB_le _ _ _
def skinP (s : Sol) (pre : List Cl) : Nat := (pre.map (bareN s)).sum
theorem skinP_nil (s : Sol) : skinP s [] = 0 := rfl
theorem skinP_snoc (s : Sol) (pre : List Cl) (c : Cl) : skinP s (pre ++ [c]) = skinP s pre + bareN s c := by unfold skinP; simp
theorem skinP_le (s : Sol) : ∀ pre : List Cl, skinP s pre ≤ 6 * pre.length
 | [] => Nat.le_refl _
 | c :: pre => by
  have h1 := skinP_le s pre
  have h2 := bareN_le s c
  unfold skinP at *
  rw [List.map_cons, List.sum_cons, List.length_cons]
  omega
theorem skinP_all (s : Sol) : skinP s (cellsS s) = skinS s := rfl
end Go.Solid
end
section
namespace Go.Solid
open Go.Draw
set_option maxRecDepth 100000
/-! Euler's number, counted point by point -/
def mids (c : Cl) : List Cl := (stepsL false).map (midC c)
def eulP (pre : List Cl) : List Cl := seenF (pre.flatMap mids)
def eulJ (pre : List Cl) (c : Cl) (j : Nat) : List Cl := (((stepsL false).take j).map (midC c)).foldl addNew (eulP pre)
theorem eulP_nil : eulP [] = [] := rfl
theorem eulJ_zero (pre : List Cl) (c : Cl) : eulJ pre c 0 = eulP pre := rfl
theorem eulJ_end (pre : List Cl) (c : Cl) : eulJ pre c (stepsL false).length = eulP (pre ++ [c]) := by
 unfold eulJ eulP seenF
 rw [List.take_length, List.flatMap_append, List.foldl_append, List.flatMap_cons, List.flatMap_nil, List.append_nil]
 rfl
theorem eulJ_succ {pre : List Cl} {c d : Cl} {j : Nat} (h : (stepsL false)[j]? = some d) : eulJ pre c (j + 1) = addNew (eulJ pre c j) (midC c d) := by
 unfold eulJ
 rw [List.take_add_one, h, List.map_append, List.foldl_append]
 rfl
theorem eul_yes {l : List Cl} {p : Cl} (h : p ∈ l) : addNew l p = l := by unfold addNew; rw [if_pos h]
theorem eul_no {l : List Cl} {p : Cl} (h : p ∉ l) : addNew l p = l ++ [p] := by unfold addNew; rw [if_neg h]
theorem addNew_len (l : List Cl) (p : Cl) : (addNew l p).length ≤ l.length + 1 := by unfold addNew; split <;> simp
theorem fold_len : ∀ (ps l : List Cl), (ps.foldl addNew l).length ≤ l.length + ps.length
 | [], l => Nat.le_refl _
 | p :: ps, l => by
  rw [List.foldl_cons, List.length_cons]
  have h1 := fold_len ps (addNew l p)
  have h2 := addNew_len l p
  omega
theorem steps27 : (stepsL false).length = 27 := by decide +kernel
theorem flat_len : ∀ pre : List Cl, (pre.flatMap mids).length = 27 * pre.length
 | [] => rfl
 | c :: pre => by
  rw [List.flatMap_cons, List.length_append, flat_len pre, List.length_cons]
  unfold mids
  rw [List.length_map, steps27]
  omega
theorem eulP_len (pre : List Cl) : (eulP pre).length ≤ 27 * pre.length := by
 have := fold_len (pre.flatMap mids) []
 rw [flat_len] at this
 unfold eulP seenF
 simpa using this
theorem eulJ_len (pre : List Cl) (c : Cl) (j : Nat) : (eulJ pre c j).length ≤ 27 * pre.length + 27 := by
 have h1 := fold_len (((stepsL false).take j).map (midC c)) (eulP pre)
 have h2 := eulP_len pre
 have h3 := List.length_take_le' j (stepsL false)
 rw [List.length_map] at h1
 rw [steps27] at h3
 unfold eulJ
 omega
theorem sumZ_snoc (f : Cl → Int) (l : List Cl) (p : Cl) : sumZ f (l ++ [p]) = sumZ f l + f p := by unfold sumZ; simp
theorem sgn_cases (p : Cl) : sgn p = 1 ∨ sgn p = -1 := by unfold sgn; split <;> simp
theorem sumZ_le : ∀ l : List Cl, -(l.length : Int) ≤ sumZ sgn l ∧ sumZ sgn l ≤ l.length
 | [] => ⟨by decide, by decide⟩
 | p :: l => by
  have h1 := sumZ_le l
  have h2 := sgn_cases p
  unfold sumZ at *
  rw [List.map_cons, List.sum_cons, List.length_cons]
  omega
theorem euler_eulP (s : Sol) : sumZ sgn (eulP (cellsS s)) = eulerS s := rfl
end Go.Solid
end
section
namespace Go.Solid
open Go.Draw
set_option maxRecDepth 100000
/-! the carved values -/
def hookS : Sol := 263#512
def ringS : Sol := 460039#512
theorem v_placed : placedM hookS 1 (-5, 0, 0) = (263174#512, 0) := by decide +kernel
theorem v_sym : symL ringS = [0, 1, 2, 3, 8, 9, 10, 11] := by decide +kernel
theorem v_img : (imagesS ringS).length = 3 := by decide +kernel
theorem v_eul : eulerS ringS = 0 := by decide +kernel
theorem v_skin : skinS ringS = 32 := by decide +kernel
theorem v_parts : (partsS ringS).length = 1 := by decide +kernel
theorem v_cavs : (cavsS ringS).length = 0 := by decide +kernel
theorem v_then2 : thenM (1, (2, 0, 0)) (1, (0, 0, 0)) = ((2, (0, 2, 0)), 0) := by decide +kernel
theorem v_back : backM (1, (2, 0, 0)) = ((3, (0, 2, 0)), 0) := by decide +kernel
def stepS : Sol := 1#512 ||| (512#512 <<< 64)
theorem v_parts2 : (partsS stepS).length = 1 := by decide +kernel
theorem v_canon : canonS hookS = canonS (263174#512) := by decide +kernel
theorem v_fit2 : fitsL hookS ringS = [] := by decide +kernel
theorem v_fit1 : (fitsL ringS hookS).isEmpty = false := by decide +kernel
end Go.Solid
end
