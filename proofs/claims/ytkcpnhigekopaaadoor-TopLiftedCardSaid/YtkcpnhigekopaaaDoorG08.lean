import Derived.Test.YtkcpnhigekopaaaDoorG07
/-
  Given contracts of functions of the program, and laws for them, one behind the other.
-/
set_option linter.unusedVariables false
set_option linter.unusedSimpArgs false
set_option linter.unusedSectionVars false
section
namespace Go.Solid
open Go.Draw
set_option maxRecDepth 100000
/-! theorem T2: congruent solids; orbits -/
theorem image_zero (s : Sol) : imageS s 0 = cornS s := by unfold imageS; rw [spun_zero]
theorem fits_both {a b : Sol} {m n : Mt} (h : FitsM a b m) (k : FitsM b a n) : canonS a = canonS b := by
 have c1 := fits_count h
 have c2 := fits_count k
 obtain ⟨h1, h2, h3⟩ := h
 have e : imgS (movC m.2) (spunS b m.1) = a := count_eq h3 (by rw [count_img h2 (mov_inj _), spun_count h1]; exact c2)
 refine canon_congr.2 ⟨m.1, h1, ?_⟩
 rw [image_zero, ← e, corn_mov h2]; rfl
theorem congr_fits {a b : Sol} (ha : a ≠ 0) (h : canonS a = canonS b) : ∃ m, FitsM a b m := by
 obtain ⟨t, ht, e⟩ := canon_congr.1 h
 rw [image_zero] at e
 have hb : b ≠ 0 := fun h0 => by
  subst h0
  have h1 := corn_ne ha
  rw [← e] at h1
  apply h1
  unfold imageS spunS cornS
  rw [img_zero, if_pos rfl]
 have hp := spun_ne hb t
 have hc := corn_stays hp
 obtain ⟨h1, h2⟩ := corn_back ha
 have e2 : cornS a = imgS (movC (negC (loS (spunS b t)))) (spunS b t) := by
  rw [← e]; unfold imageS cornS; rw [if_neg hp]
 rw [e2] at h1 h2
 have h3 := imgS_comp hc h1
 have h5 := imgS_congr (s := spunS b t) (f := fun c => movC (loS a) (movC (negC (loS (spunS b t))) c)) (g := movC (addC (negC (loS (spunS b t))) (loS a))) fun c _ => mov_mov _ _ c
 refine ⟨(t, addC (negC (loS (spunS b t))) (loS a)), ht, ?_, ?_⟩
 ·show stays (movC (addC (negC (loS (spunS b t))) (loS a))) (spunS b t) = true
  rw [← h5.1]; exact h3.1
 ·show subS (imgS (movC (addC (negC (loS (spunS b t))) (loS a))) (spunS b t)) a = true
  rw [← h5.2, h3.2, h2]; exact subS_refl a
theorem turn_told {t u : Nat} (ht : t < 24) (hu : u < 24) (h : ∀ c, turnC t c = turnC u c) : t = u := by
 have := told_all
 simp only [List.all_eq_true, List.mem_range] at this
 have := this t ht u hu
 rw [h, h, h] at this
 simpa using this
theorem mul_inv_right {w t : Nat} (hw : w < 24) (ht : t < 24) : mulT (mulT w (invT t)) t = w :=
 turn_told (mul_lt (mul_lt hw (inv_lt ht)) ht) hw fun c => by
  rw [← turn_mul (mul_lt hw (inv_lt ht)) ht, ← turn_mul hw (inv_lt ht), inv_turn ht]
theorem mul_right_inj {u v t : Nat} (hu : u < 24) (hv : v < 24) (ht : t < 24) (h : mulT u t = mulT v t) : u = v :=
 turn_told hu hv fun c => turn_inj ht _ _ (by rw [turn_mul hu ht, turn_mul hv ht, h])
theorem mul_left_inj {u v t : Nat} (hu : u < 24) (hv : v < 24) (ht : t < 24) (h : mulT t u = mulT t v) : u = v :=
 turn_told hu hv fun c => by
  have := turn_mul ht hu (turnC (invT t) c)
  rw [h, ← turn_mul ht hv, inv_turn ht] at this
  exact this
theorem mul_inv_left {w t : Nat} (hw : w < 24) (ht : t < 24) : mulT t (mulT (invT t) w) = w :=
 turn_told (mul_lt ht (mul_lt (inv_lt ht) hw)) hw fun c => by
  rw [← turn_mul ht (mul_lt (inv_lt ht) hw), ← turn_mul (inv_lt ht) hw, turn_inv ht]
def fibL (s x : Sol) : List Nat := (List.range 24).filter fun t => imageS s t == x
def symL (s : Sol) : List Nat := fibL s (imageS s 0)
theorem mem_fib {s x : Sol} {t : Nat} : t ∈ fibL s x ↔ t < 24 ∧ imageS s t = x := by
 unfold fibL
 rw [List.mem_filter, List.mem_range, beq_iff_eq]
theorem fib_nodup (s x : Sol) : (fibL s x).Nodup := List.nodup_range.filter _
theorem map_nodup {f : Nat → Nat} {l : List Nat} (hl : l.Nodup) (hf : ∀ a ∈ l, ∀ b ∈ l, f a = f b → a = b) : (l.map f).Nodup := by
 unfold List.Nodup at hl ⊢
 rw [List.pairwise_map]
 refine List.Pairwise.imp_of_mem ?_ hl
 intro a b ha hb h e
 exact h (hf a ha b hb e)
/-- as many turns lead to each image -/
theorem fib_len {s : Sol} {t : Nat} (ht : t < 24) : (fibL s (imageS s t)).length = (symL s).length := by
 have hp : (fibL s (imageS s t)).Perm ((symL s).map fun u => mulT u t) := by
  refine (List.perm_ext_iff_of_nodup (fib_nodup _ _) (map_nodup (fib_nodup _ _) fun a ha b hb e => mul_right_inj (mem_fib.1 ha).1 (mem_fib.1 hb).1 ht e)).2 fun w => ?_
  rw [mem_fib, List.mem_map]
  constructor
  ·rintro ⟨hw, e⟩
   refine ⟨mulT w (invT t), mem_fib.2 ⟨mul_lt hw (inv_lt ht), ?_⟩, mul_inv_right hw ht⟩
   rw [← image_mul hw (inv_lt ht), e, image_mul ht (inv_lt ht)]
   congr 1
   exact turn_told (mul_lt ht (inv_lt ht)) (by decide) fun c => by rw [← turn_mul ht (inv_lt ht), turn_inv ht]; rfl
  ·rintro ⟨u, hu, rfl⟩
   obtain ⟨hu1, hu2⟩ := mem_fib.1 hu
   refine ⟨mul_lt hu1 ht, ?_⟩
   rw [← image_mul hu1 ht, hu2, image_mul (by decide) ht]
   congr 1
   exact turn_told (mul_lt (by decide) ht) ht fun c => by rw [← turn_mul (by decide) ht]; rfl
 rw [hp.length_eq, List.length_map]
/-- each image has as many symmetries -/
theorem sym_image {s : Sol} {t : Nat} (ht : t < 24) : (symL (imageS s t)).length = (symL s).length := by
 refine Eq.trans ?_ (fib_len (s := s) ht)
 have hp : ((symL (imageS s t)).map fun u => mulT t u).Perm (fibL s (imageS s t)) := by
  refine (List.perm_ext_iff_of_nodup (map_nodup (fib_nodup _ _) fun a ha b hb e => mul_left_inj (mem_fib.1 ha).1 (mem_fib.1 hb).1 ht e) (fib_nodup _ _)).2 fun w => ?_
  rw [mem_fib, List.mem_map]
  have hz : imageS (imageS s t) 0 = imageS s t := by
   rw [image_mul ht (by decide)]
   congr 1
   exact turn_told (mul_lt ht (by decide)) ht fun c => by rw [← turn_mul ht (by decide)]; rfl
  constructor
  ·rintro ⟨u, hu, rfl⟩
   obtain ⟨hu1, hu2⟩ := mem_fib.1 hu
   rw [hz] at hu2
   exact ⟨mul_lt ht hu1, by rw [← image_mul ht hu1]; exact hu2⟩
  ·rintro ⟨hw, e⟩
   refine ⟨mulT (invT t) w, mem_fib.2 ⟨mul_lt (inv_lt ht) hw, ?_⟩, mul_inv_left hw ht⟩
   rw [hz, image_mul ht (mul_lt (inv_lt ht) hw), mul_inv_left hw ht, e]
 rw [← hp.length_eq, List.length_map]
theorem sum_one {β : Type} [DecidableEq β] (y : β) : ∀ {D : List β}, D.Nodup → y ∈ D → (D.map fun x => if y = x then 1 else 0).sum = 1
 | [], _, h => by cases h
 | d :: D, hd, h => by
  obtain ⟨h1, h2⟩ := List.nodup_cons.1 hd
  rw [List.map_cons, List.sum_cons]
  by_cases e : y = d
  ·subst e
   rw [if_pos rfl]
   have : (D.map fun x => if y = x then 1 else 0).sum = 0 := by
    have : ∀ l : List β, y ∉ l → (l.map fun x => if y = x then 1 else 0).sum = 0 := by
     intro l
     induction l with
     | nil => intro _; rfl
     | cons a l ih =>
      intro hn
      rw [List.map_cons, List.sum_cons, if_neg (fun e => hn (by rw [e]; exact List.mem_cons_self)), ih fun h => hn (List.mem_cons_of_mem _ h)]
    exact this D h1
   rw [this]
  ·rw [if_neg e, sum_one y h2 (by rcases List.mem_cons.1 h with e' | h'; exact absurd e' e; exact h')]
theorem sum_add {β : Type} (f g : β → Nat) : ∀ D : List β, (D.map fun x => f x + g x).sum = (D.map f).sum + (D.map g).sum
 | [] => rfl
 | d :: D => by rw [List.map_cons, List.sum_cons, List.map_cons, List.sum_cons, List.map_cons, List.sum_cons, sum_add f g D]; omega
theorem sum_fibres {α β : Type} [DecidableEq β] (f : α → β) {D : List β} (hD : D.Nodup) : ∀ l : List α, (∀ a ∈ l, f a ∈ D) → (D.map fun x => (l.filter fun a => f a == x).length).sum = l.length
 | [], _ => by
  have : ∀ D : List β, (D.map fun _ => 0).sum = 0 := fun D => by induction D with | nil => rfl | cons d D ih => rw [List.map_cons, List.sum_cons, ih]
  exact this D
 | a :: l, h => by
  have e : (D.map fun x => ((a :: l).filter fun a => f a == x).length) = D.map fun x => (if f a = x then 1 else 0) + (l.filter fun a => f a == x).length := by
   apply List.map_congr_left
   intro x _
   rw [List.filter_cons]
   by_cases hx : f a = x
   ·rw [if_pos (by rw [hx]; simp), if_pos hx, List.length_cons]; omega
   ·rw [if_neg (by simpa using hx), if_neg hx]; omega
  rw [e, sum_add, sum_one _ hD (h a List.mem_cons_self), sum_fibres f hD l fun b hb => h b (List.mem_cons_of_mem _ hb), List.length_cons]; omega
theorem sum_const {β : Type} (f : β → Nat) (n : Nat) : ∀ D : List β, (∀ x ∈ D, f x = n) → (D.map f).sum = D.length * n
 | [], _ => by simp
 | d :: D, h => by
  rw [List.map_cons, List.sum_cons, h d List.mem_cons_self, sum_const f n D fun x hx => h x (List.mem_cons_of_mem _ hx), List.length_cons, Nat.add_mul, Nat.one_mul]; omega
theorem asc_nodup {l : List Sol} (h : Asc l) : l.Nodup := by
 unfold Asc at h
 unfold List.Nodup
 exact h.imp fun {a b} h e => by subst e; omega
/-- the number of images times that of symmetries is 24 -/
theorem orbit_law (s : Sol) : (imagesS s).length * (symL s).length = 24 := by
 have h1 := sum_fibres (imageS s) (asc_nodup (sortD_spec (imgL s)).1) (List.range 24) (fun t ht => mem_images.2 ⟨t, List.mem_range.1 ht, rfl⟩)
 have e : sortD (imgL s) = imagesS s := rfl
 rw [e] at h1
 have h2 := sum_const (fun x => ((List.range 24).filter fun t => imageS s t == x).length) (symL s).length (imagesS s) fun x hx => by
  obtain ⟨t, ht, rfl⟩ := mem_images.1 hx
  exact fib_len ht
 rw [h2, List.length_range] at h1
 exact h1
end Go.Solid
end
section
namespace Go.Solid
open Go.Draw
set_option maxRecDepth 100000
/-! motions: what Moved, Placed, Then and Back return -/
def inB (n a b : Int) : Bool := decide (a ≤ n) && decide (n ≤ b)
def shortB (d : Cl) : Bool := inB d.1 (-7) 7 && inB d.2.1 (-7) 7 && inB d.2.2 (-7) 7
def rightB (t : Int) (d : Cl) : Bool := inB t 0 23 && shortB d
theorem inB_iff {n a b : Int} : inB n a b = true ↔ a ≤ n ∧ n ≤ b := by unfold inB; simp
theorem shortB_iff {d : Cl} : shortB d = true ↔ ∀ k, -7 ≤ co d k ∧ co d k ≤ 7 := by
 unfold shortB
 rw [Bool.and_eq_true, Bool.and_eq_true, inB_iff, inB_iff, inB_iff]
 constructor
 ·rintro ⟨⟨h1, h2⟩, h3⟩ k
  match k with
  | 0 => exact h1
  | 1 => exact h2
  | _ + 2 => exact h3
 ·intro h; exact ⟨⟨h 0, h 1⟩, h 2⟩
theorem rightB_iff {t : Int} {d : Cl} : rightB t d = true ↔ (0 ≤ t ∧ t ≤ 23) ∧ shortB d = true := by
 unfold rightB; rw [Bool.and_eq_true, inB_iff]
def movedM (s : Sol) (d : Cl) : Sol × Int := if s = 0 then (0, 0) else if shortB d then (if stays (movC d) s then (imgS (movC d) s, 0) else (0, 20)) else (0, 20)
def turnedM (s : Sol) (t : Int) : Sol × Int := if inB t 0 23 then (spunS s t.toNat, 0) else (0, 1)
def placedM (s : Sol) (t : Int) (d : Cl) : Sol × Int := if rightB t d then movedM (spunS s t.toNat) d else (0, 1)
abbrev Mo := Int × Cl
def thenM (m n : Mo) : Mo × Int :=
 if rightB m.1 m.2 && rightB n.1 n.2 then
  (if rightB ((mulT m.1.toNat n.1.toNat : Nat) : Int) (addC (movT n.1.toNat m.2) n.2) then ((((mulT m.1.toNat n.1.toNat : Nat) : Int), addC (movT n.1.toNat m.2) n.2), 0) else ((0, (0, 0, 0)), 20))
 else ((0, (0, 0, 0)), 1)
def backM (m : Mo) : Mo × Int := if rightB m.1 m.2 then ((((invT m.1.toNat : Nat) : Int), negC (movT (invT m.1.toNat) m.2)), 0) else ((0, (0, 0, 0)), 1)
/-- what moves within the grid is short -/
theorem stays_short {s : Sol} {d : Cl} (hs : s ≠ 0) (h : stays (movC d) s = true) : shortB d = true := by
 obtain ⟨c, hc⟩ := has_some hs
 have h1 := co_in (has_in hc)
 have h2 := co_in (stays_iff.1 h c hc)
 refine shortB_iff.2 fun k => ?_
 have := h1 k; have := h2 k
 rw [co_mov] at this
 omega
theorem movedM_ok {s p : Sol} {d : Cl} : movedM s d = (p, 0) ↔ (s = 0 ∧ p = 0) ∨ (s ≠ 0 ∧ stays (movC d) s = true ∧ p = imgS (movC d) s) := by
 unfold movedM
 by_cases hs : s = 0
 ·rw [if_pos hs]
  simp only [Prod.mk.injEq, and_true]
  exact ⟨fun h => .inl ⟨hs, h.symm⟩, fun h => h.elim (fun h => h.2.symm) fun h => absurd hs h.1⟩
 ·rw [if_neg hs]
  constructor
  ·intro h
   right
   by_cases h1 : shortB d = true
   ·rw [if_pos h1] at h
    by_cases h2 : stays (movC d) s = true
    ·rw [if_pos h2] at h
     exact ⟨hs, h2, (congrArg Prod.fst h).symm⟩
    ·rw [if_neg h2] at h
     have := congrArg Prod.snd h
     simp at this
   ·rw [if_neg h1] at h
    have := congrArg Prod.snd h
    simp at this
  ·rintro (h | ⟨_, h2, rfl⟩)
   ·exact absurd h.1 hs
   ·rw [if_pos (stays_short hs h2), if_pos h2]
theorem movedM_none (s : Sol) : movedM s (0, 0, 0) = (s, 0) := by
 rw [movedM_ok]
 by_cases hs : s = 0
 ·exact .inl ⟨hs, hs⟩
 ·have := imgS_id (f := movC (0, 0, 0)) (s := s) fun c _ => mov_zero c
  exact .inr ⟨hs, this.1, this.2.symm⟩
theorem placedM_ok {s p : Sol} {t : Int} {d : Cl} : placedM s t d = (p, 0) ↔ rightB t d = true ∧ movedM (spunS s t.toNat) d = (p, 0) := by
 unfold placedM
 by_cases h : rightB t d = true
 ·rw [if_pos h]; exact ⟨fun k => ⟨h, k⟩, fun k => k.2⟩
 ·rw [if_neg h]
  constructor
  ·intro k; have := congrArg Prod.snd k; simp at this
  ·intro k; exact absurd k.1 h
theorem spun_nil (t : Nat) : spunS 0 t = 0 := img_zero _
theorem spun_zero_iff {s : Sol} {t : Nat} : spunS s t = 0 ↔ s = 0 := ⟨fun h => Classical.byContradiction fun hs => spun_ne hs t h, fun h => by rw [h, spun_nil]⟩
/-- a motion that fits is told by what Placed returns -/
theorem placed_fits {a b : Sol} (hb : b ≠ 0) {t : Int} {d : Cl} : (∃ p, placedM b t d = (p, 0) ∧ subS p a = true) ↔ 0 ≤ t ∧ FitsM a b (t.toNat, d) := by
 constructor
 ·rintro ⟨p, h, hp⟩
  obtain ⟨h1, h2⟩ := placedM_ok.1 h
  obtain ⟨ht, _⟩ := rightB_iff.1 h1
  rcases movedM_ok.1 h2 with ⟨h3, _⟩ | ⟨_, h4, rfl⟩
  ·exact absurd h3 (spun_ne hb _)
  ·exact ⟨ht.1, ⟨by show t.toNat < 24; omega, h4, hp⟩⟩
 ·rintro ⟨ht, h1, h2, h3⟩
  have h1' : t.toNat < 24 := h1
  exact ⟨_, placedM_ok.2 ⟨rightB_iff.2 ⟨⟨ht, by omega⟩, stays_short (spun_ne hb _) h2⟩, movedM_ok.2 (.inr ⟨spun_ne hb _, h2, rfl⟩)⟩, h3⟩
theorem linA_bound (a : Ax) {d : Cl} {K : Int} (h : ∀ k, -K ≤ co d k ∧ co d k ≤ K) : -K ≤ linA a d ∧ linA a d ≤ K := by
 unfold linA
 have := h a.1
 split <;> omega
theorem movT_short (t : Nat) {d : Cl} (h : shortB d = true) : shortB (movT t d) = true := by
 rw [shortB_iff] at h ⊢
 intro k
 match k with
 | 0 => exact linA_bound _ h
 | 1 => exact linA_bound _ h
 | _ + 2 => exact linA_bound _ h
theorem neg_short {d : Cl} (h : shortB d = true) : shortB (negC d) = true := by
 rw [shortB_iff] at h ⊢
 intro k
 have := h k
 rw [co_neg]; omega
/-- what is placed is taken back -/
theorem back_law {s p : Sol} {m : Mo} (h : placedM s m.1 m.2 = (p, 0)) : placedM p (backM m).1.1 (backM m).1.2 = (s, 0) := by
 obtain ⟨h1, h2⟩ := placedM_ok.1 h
 obtain ⟨ht, hd⟩ := rightB_iff.1 h1
 obtain ⟨t, d⟩ := m
 simp only at h h1 h2 ht hd
 have hT : t.toNat < 24 := by omega
 have hI := inv_lt hT
 have eB : (backM (t, d)).1 = (((invT t.toNat : Nat) : Int), negC (movT (invT t.toNat) d)) := by unfold backM; simp only; rw [if_pos h1]
 rw [eB]
 refine placedM_ok.2 ⟨rightB_iff.2 ⟨⟨by simp only; omega, by simp only; omega⟩, neg_short (movT_short _ hd)⟩, ?_⟩
 show movedM (spunS p (((invT t.toNat : Nat) : Int)).toNat) (negC (movT (invT t.toNat) d)) = (s, 0)
 rw [Int.toNat_natCast]
 rcases movedM_ok.1 h2 with ⟨h3, rfl⟩ | ⟨h3, h4, rfl⟩
 ·rw [spun_zero_iff.1 h3, spun_nil]
  exact movedM_ok.2 (.inl ⟨rfl, rfl⟩)
 ·have hs : s ≠ 0 := fun e => h3 (by rw [e, spun_nil])
  -- the turned moved solid is the solid, moved
  have key : ∀ c, movC (negC (movT (invT t.toNat) d)) (turnC (invT t.toNat) (movC d (turnC t.toNat c))) = c := fun c => by
   rw [turn_mov, mov_back, turn_inv hT]
  have c1 := imgS_comp (f := turnC t.toNat) (g := movC d) (spun_stays s _) h4
  have hst : stays (fun c => movC d (turnC t.toNat c)) s = true := c1.1
  have c2 := imgS_comp (f := fun c => movC d (turnC t.toNat c)) (g := turnC (invT t.toNat)) hst (by
   rw [c1.2]; exact spun_stays _ _)
  have id := imgS_id (s := s) (f := fun c => movC (negC (movT (invT t.toNat) d)) (turnC (invT t.toNat) (movC d (turnC t.toNat c)))) fun c _ => key c
  have e5 : imgS (fun c => turnC (invT t.toNat) (movC d (turnC t.toNat c))) s = spunS (imgS (movC d) (spunS s t.toNat)) (invT t.toNat) := by
   rw [c2.2, c1.2]; rfl
  refine movedM_ok.2 (.inr ⟨spun_ne (img_ne h4 h3) _, ?_, ?_⟩)
  ·rw [← e5, stays_iff]
   intro e he
   obtain ⟨c, hc, rfl⟩ := (imgS_has c2.1 (has_in he)).1 he
   rw [key]; exact has_in hc
  ·rw [← e5]
   have c3 := imgS_comp (f := fun c => turnC (invT t.toNat) (movC d (turnC t.toNat c))) (g := movC (negC (movT (invT t.toNat) d))) c2.1 (by
    rw [stays_iff]
    intro e he
    obtain ⟨c, hc, rfl⟩ := (imgS_has c2.1 (has_in he)).1 he
    rw [key]; exact has_in hc)
   rw [← c3.2, id.2]
/-- what two motions place, one behind the other -/
theorem then_law {s p q : Sol} {m n : Mo} (h : placedM s m.1 m.2 = (p, 0)) (k : placedM p n.1 n.2 = (q, 0)) (he : (thenM m n).2 = 0) : placedM s (thenM m n).1.1 (thenM m n).1.2 = (q, 0) := by
 obtain ⟨h1, h2⟩ := placedM_ok.1 h
 obtain ⟨k1, k2⟩ := placedM_ok.1 k
 obtain ⟨ht, hd⟩ := rightB_iff.1 h1
 obtain ⟨kt, kd⟩ := rightB_iff.1 k1
 have hT : m.1.toNat < 24 := by omega
 have kT : n.1.toNat < 24 := by omega
 unfold thenM at he ⊢
 rw [if_pos (by rw [h1, k1]; rfl)] at he ⊢
 by_cases hr : rightB ((mulT m.1.toNat n.1.toNat : Nat) : Int) (addC (movT n.1.toNat m.2) n.2) = true
 ·rw [if_pos hr]
  refine placedM_ok.2 ⟨hr, ?_⟩
  simp only [Int.toNat_natCast]
  rcases movedM_ok.1 h2 with ⟨h3, rfl⟩ | ⟨h3, h4, rfl⟩
  ·have hs := spun_zero_iff.1 h3
   rw [spun_nil] at k2
   rcases movedM_ok.1 k2 with ⟨_, rfl⟩ | ⟨h5, _⟩
   ·rw [hs, spun_nil]
    exact movedM_ok.2 (.inl ⟨rfl, rfl⟩)
   ·exact absurd rfl h5
  ·have hs : s ≠ 0 := fun e => h3 (by rw [e, spun_nil])
   rcases movedM_ok.1 k2 with ⟨h5, _⟩ | ⟨_, h6, rfl⟩
   ·exact absurd h5 (spun_ne (img_ne h4 h3) _)
   ·have := motion_comp (m := (m.1.toNat, m.2)) (n := (n.1.toNat, n.2)) hT kT h4 h6
    exact movedM_ok.2 (.inr ⟨spun_ne hs _, this.1, this.2.symm⟩)
 ·rw [if_neg hr] at he
  simp at he
/-! how the program and the reference find them -/
theorem find_range {p : Nat → Bool} {k : Nat} (hk : k < 24) (h : p k = true) (hu : ∀ t, t < 24 → p t = true → t = k) : (List.range 24).find? p = some k := by
 cases hf : (List.range 24).find? p with
 | none =>
  have := List.find?_eq_none.1 hf k (List.mem_range.2 hk)
  exact absurd h this
 | some t =>
  have h1 := List.find?_some hf
  have h2 := List.mem_range.1 (List.mem_of_find?_eq_some hf)
  rw [hu t h2 h1]
def foundB (to : Cl → Cl) (t : Nat) : Bool := turnC t (1, 0, 0) == to (1, 0, 0) && turnC t (0, 1, 0) == to (0, 1, 0) && turnC t (0, 0, 1) == to (0, 0, 1)
theorem found_mul {t u : Nat} (ht : t < 24) (hu : u < 24) : (List.range 24).find? (foundB fun c => turnC u (turnC t c)) = some (mulT t u) := by
 refine find_range (mul_lt ht hu) ?_ fun v hv h => ?_
 ·unfold foundB
  simp only [turn_mul ht hu, beq_self_eq_true, Bool.and_self]
 ·have h1 := List.all_eq_true.1 (List.all_eq_true.1 told_all v (List.mem_range.2 hv)) (mulT t u) (List.mem_range.2 (mul_lt ht hu))
  unfold foundB at h
  simp only [turn_mul ht hu] at h
  rw [h, beq_iff_eq] at h1
  exact eq_of_beq h1.symm
def carC (m : Mo) (c : Cl) : Cl := movC m.2 (turnC m.1.toNat c)
/-- the reference's search, by four cells -/
def ofB (f0 f1 f2 f3 t0 t1 t2 t3 : Cl) (t : Nat) : Bool := movC (subC t0 (turnC t f0)) (turnC t f1) == t1 && movC (subC t0 (turnC t f0)) (turnC t f2) == t2 && movC (subC t0 (turnC t f0)) (turnC t f3) == t3
theorem add_sub' (b c : Cl) : addC b (subC c b) = c := by
 unfold addC subC
 exact Prod.ext (by simp only; omega) (Prod.ext (by simp only; omega) (by simp only; omega))
theorem movC_apart (t : Nat) (a b c : Cl) : movC (subC a (turnC t b)) (turnC t c) = addC a (movT t (subC c b)) := by
 have h := turn_add t b (subC c b)
 rw [add_sub'] at h
 rw [h]
 unfold movC addC subC
 exact Prod.ext (by simp only; omega) (Prod.ext (by simp only; omega) (by simp only; omega))
theorem addC_inj {a b c : Cl} (h : addC a b = addC a c) : b = c := by
 have h1 : a.1 + b.1 = a.1 + c.1 := congrArg Prod.fst h
 have h2 : a.2.1 + b.2.1 = a.2.1 + c.2.1 := congrArg (fun x : Cl => x.2.1) h
 have h3 : a.2.2 + b.2.2 = a.2.2 + c.2.2 := congrArg (fun x : Cl => x.2.2) h
 exact Prod.ext (by omega) (Prod.ext (by omega) (by omega))
/-- whatever carries the corners is told by its turn -/
theorem of_told {t : Nat} {k : Nat} (ht : t < 24) (hk : k < 24) {f0 f1 f2 f3 a : Cl} {g : Nat → Nat} (hg : ∀ u, u < 24 → g u < 24) (h1 : ∀ u, movT u (subC f1 f0) = movT (g u) (1, 0, 0)) (h2 : ∀ u, movT u (subC f2 f0) = movT (g u) (0, 1, 0)) (h3 : ∀ u, movT u (subC f3 f0) = movT (g u) (0, 0, 1)) :
  ofB f0 f1 f2 f3 a (addC a (movT k (1, 0, 0))) (addC a (movT k (0, 1, 0))) (addC a (movT k (0, 0, 1))) t = (g t == k) := by
 unfold ofB
 rw [movC_apart, movC_apart, movC_apart, h1, h2, h3]
 have hl := List.all_eq_true.1 (List.all_eq_true.1 told_lin (g t) (List.mem_range.2 (hg t ht))) k (List.mem_range.2 hk)
 rw [beq_iff_eq] at hl
 have e : ∀ x y : Cl, (addC a x == addC a y) = (x == y) := fun x y => by
  rw [Bool.eq_iff_iff, beq_iff_eq, beq_iff_eq]
  exact ⟨addC_inj, fun h => by rw [h]⟩
 rw [e, e, e, hl]
theorem movT_mul {t u : Nat} (ht : t < 24) (hu : u < 24) (d : Cl) : movT u (movT t d) = movT (mulT t u) d := by
 have h : ∀ v, movT v d = subC (turnC v d) (turnC v (0, 0, 0)) := fun v => (origin_eq v d).symm
 rw [h (mulT t u), ← turn_mul ht hu, ← turn_mul ht hu, h t]
 have h2 := turn_add u (turnC t (0, 0, 0)) (subC (turnC t d) (turnC t (0, 0, 0)))
 rw [add_sub'] at h2
 rw [h2, subC_addC]
theorem subC_zero (c : Cl) : subC c (0, 0, 0) = c := by unfold subC; simp
theorem then_ref {m n : Mo} (hm : rightB m.1 m.2 = true) (hn : rightB n.1 n.2 = true) :
  (List.range 24).find? (ofB (0, 0, 0) (1, 0, 0) (0, 1, 0) (0, 0, 1) (carC n (carC m (0, 0, 0))) (carC n (carC m (1, 0, 0))) (carC n (carC m (0, 1, 0))) (carC n (carC m (0, 0, 1)))) = some (mulT m.1.toNat n.1.toNat) ∧
  subC (carC n (carC m (0, 0, 0))) (turnC (mulT m.1.toNat n.1.toNat) (0, 0, 0)) = addC (movT n.1.toNat m.2) n.2 := by
 have hT : m.1.toNat < 24 := by have := (rightB_iff.1 hm).1; omega
 have kT : n.1.toNat < 24 := by have := (rightB_iff.1 hn).1; omega
 have hM := mul_lt hT kT
 have e : ∀ c, carC n (carC m c) = movC (addC (movT n.1.toNat m.2) n.2) (turnC (mulT m.1.toNat n.1.toNat) c) := fun c => by
  unfold carC
  rw [turn_mov, mov_mov, turn_mul hT kT]
 have e0 : ∀ c, carC n (carC m c) = addC (carC n (carC m (0, 0, 0))) (movT (mulT m.1.toNat n.1.toNat) c) := fun c => by
  rw [e, e, ← origin_eq _ c]
  unfold movC addC subC
  exact Prod.ext (by simp only; omega) (Prod.ext (by simp only; omega) (by simp only; omega))
 constructor
 ·rw [e0 (1, 0, 0), e0 (0, 1, 0), e0 (0, 0, 1)]
  have key : ∀ t, t < 24 → ofB (0, 0, 0) (1, 0, 0) (0, 1, 0) (0, 0, 1) (carC n (carC m (0, 0, 0))) (addC (carC n (carC m (0, 0, 0))) (movT (mulT m.1.toNat n.1.toNat) (1, 0, 0))) (addC (carC n (carC m (0, 0, 0))) (movT (mulT m.1.toNat n.1.toNat) (0, 1, 0))) (addC (carC n (carC m (0, 0, 0))) (movT (mulT m.1.toNat n.1.toNat) (0, 0, 1))) t = (t == mulT m.1.toNat n.1.toNat) := fun t ht =>
   of_told (g := fun u => u) ht hM (fun _ h => h) (fun u => by rw [subC_zero]) (fun u => by rw [subC_zero]) (fun u => by rw [subC_zero])
  exact find_range hM (by rw [key _ hM]; exact beq_self_eq_true _) fun t ht h => by rw [key t ht] at h; exact eq_of_beq h
 ·rw [e]
  unfold movC addC subC
  exact Prod.ext (by simp only; omega) (Prod.ext (by simp only; omega) (by simp only; omega))
theorem mul_inv_iff {t u : Nat} (ht : t < 24) (hu : u < 24) : mulT t u = 0 ↔ u = invT t := by
 constructor
 ·intro h
  have h2 : mulT (invT t) (mulT t u) = u := by
   have := mul_inv_left hu (inv_lt ht)
   have e : invT (invT t) = t := by
    have h3 := turn_told (t := invT (invT t)) (u := t) (inv_lt (inv_lt ht)) ht fun c => by
     have h4 := turn_inv (inv_lt ht) (turnC t c)
     rw [turn_inv ht] at h4
     exact h4
    exact h3
   rw [e] at this; exact this
  rw [h] at h2
  have h5 : mulT (invT t) 0 = invT t := turn_told (mul_lt (inv_lt ht) (by omega)) (inv_lt ht) fun c => by
   rw [← turn_mul (inv_lt ht) (by omega), turn_zero]
  rw [h5] at h2; exact h2.symm
 ·rintro rfl
  exact turn_told (mul_lt ht (inv_lt ht)) (by omega) fun c => by rw [← turn_mul ht (inv_lt ht), turn_inv ht, turn_zero]
theorem back_ref {m : Mo} (hm : rightB m.1 m.2 = true) :
  (List.range 24).find? (ofB (carC m (0, 0, 0)) (carC m (1, 0, 0)) (carC m (0, 1, 0)) (carC m (0, 0, 1)) (0, 0, 0) (1, 0, 0) (0, 1, 0) (0, 0, 1)) = some (invT m.1.toNat) ∧
  subC (0, 0, 0) (turnC (invT m.1.toNat) (carC m (0, 0, 0))) = negC (movT (invT m.1.toNat) m.2) := by
 have hT : m.1.toNat < 24 := by have := (rightB_iff.1 hm).1; omega
 have hI := inv_lt hT
 have e0 : ∀ c, subC (carC m c) (carC m (0, 0, 0)) = movT m.1.toNat c := fun c => by
  unfold carC
  rw [← origin_eq]
  unfold movC addC subC
  exact Prod.ext (by simp only; omega) (Prod.ext (by simp only; omega) (by simp only; omega))
 have z : ∀ c : Cl, addC (0, 0, 0) (movT 0 c) = c := fun c => by
  rw [← origin_eq, turn_zero, turn_zero]
  unfold addC subC; simp
 constructor
 ·have key : ∀ t, t < 24 → ofB (carC m (0, 0, 0)) (carC m (1, 0, 0)) (carC m (0, 1, 0)) (carC m (0, 0, 1)) (0, 0, 0) (1, 0, 0) (0, 1, 0) (0, 0, 1) t = (mulT m.1.toNat t == 0) := fun t ht => by
   have h1 : ofB (carC m (0, 0, 0)) (carC m (1, 0, 0)) (carC m (0, 1, 0)) (carC m (0, 0, 1)) (0, 0, 0) (addC (0, 0, 0) (movT 0 (1, 0, 0))) (addC (0, 0, 0) (movT 0 (0, 1, 0))) (addC (0, 0, 0) (movT 0 (0, 0, 1))) t = (mulT m.1.toNat t == 0) := by
    unfold ofB
    rw [movC_apart, movC_apart, movC_apart, e0, e0, e0, movT_mul hT ht, movT_mul hT ht, movT_mul hT ht]
    have hl := List.all_eq_true.1 (List.all_eq_true.1 told_lin (mulT m.1.toNat t) (List.mem_range.2 (mul_lt hT ht))) 0 (List.mem_range.2 (by omega))
    rw [beq_iff_eq] at hl
    have e : ∀ x y : Cl, (addC (0, 0, 0) x == addC (0, 0, 0) y) = (x == y) := fun x y => by
     rw [Bool.eq_iff_iff, beq_iff_eq, beq_iff_eq]
     exact ⟨addC_inj, fun h => by rw [h]⟩
    rw [e, e, e, hl]
   rw [z, z, z] at h1
   exact h1
  exact find_range hI (by rw [key _ hI, beq_iff_eq]; exact (mul_inv_iff hT hI).2 rfl) fun t ht h => by
   rw [key t ht, beq_iff_eq] at h; exact (mul_inv_iff hT ht).1 h
 ·unfold carC
  rw [turn_mov, turn_inv hT]
  unfold movC addC subC negC
  exact Prod.ext (by simp only; omega) (Prod.ext (by simp only; omega) (by simp only; omega))
/-- what Back of the program looks for -/
theorem back_prog {t u : Nat} (ht : t < 24) (hu : u < 24) : (turnC u (turnC t (0, 1, 2)) == (0, 1, 2)) = (u == invT t) := by
 have := List.all_eq_true.1 (List.all_eq_true.1 told_back t (List.mem_range.2 ht)) u (List.mem_range.2 hu)
 exact beq_iff_eq.1 this
/-! SolidTurns -/
theorem turned_placed (s : Sol) (t : Int) : turnedM s t = placedM s t (0, 0, 0) := by
 unfold turnedM placedM
 have h : rightB t (0, 0, 0) = inB t 0 23 := by unfold rightB; rw [show shortB (0, 0, 0) = true by decide]; simp
 rw [h, movedM_none]
theorem four_turns (s : Sol) : spunS (spunS (spunS (spunS s 1) 1) 1) 1 = s := by
 have e1 : mulT 1 1 = 2 := by decide +kernel
 have e2 : mulT 2 1 = 3 := by decide +kernel
 have e3 : mulT 3 1 = 0 := by decide +kernel
 rw [spun_mul (t := 1) (u := 1) (by omega) (by omega) s, e1, spun_mul (t := 2) (u := 1) (by omega) (by omega) s, e2, spun_mul (t := 3) (u := 1) (by omega) (by omega) s, e3, spun_zero]
theorem movT_zero (t : Nat) : movT t (0, 0, 0) = (0, 0, 0) := by
 rw [← origin_eq]; unfold subC; simp
theorem then_turns {t u : Int} (ht : inB t 0 23 = true) (hu : inB u 0 23 = true) : thenM (t, (0, 0, 0)) (u, (0, 0, 0)) = ((((mulT t.toNat u.toNat : Nat) : Int), (0, 0, 0)), 0) := by
 have h1 := inB_iff.1 ht; have h2 := inB_iff.1 hu
 have hr : ∀ v, inB v 0 23 = true → rightB v (0, 0, 0) = true := fun v h => by unfold rightB; rw [h]; decide
 have hm := mul_lt (t := t.toNat) (u := u.toNat) (by omega) (by omega)
 have hz : addC (movT u.toNat (0, 0, 0)) (0, 0, 0) = (0, 0, 0) := by rw [movT_zero]; rfl
 unfold thenM
 simp only
 rw [if_pos (by rw [hr t ht, hr u hu]; rfl), hz, if_pos (hr _ (inB_iff.2 ⟨by omega, by omega⟩))]
end Go.Solid
end
section
namespace Go.Draw
open Go.Solid
set_option maxRecDepth 10000
/-! TopLifted: what is lifted can go as before -/
theorem up_get (b : Sol) (n : Nat) : (upS b).getLsbD n = (decide (n < 512) && decide (64 ≤ n) && b.getLsbD (n - 64)) := by
 by_cases h : n < 512
 ·rw [up_bit b n h]; simp [h]
 ·rw [BitVec.getLsbD_of_ge _ _ (by omega)]; simp [h]
theorem up_shl (b : Sol) : upS b = b <<< 64 := by
 apply BitVec.eq_of_getLsbD_eq
 intro n hn
 rw [up_get, BitVec.getLsbD_shiftLeft]
 simp only [hn, decide_true, Bool.true_and]
 congr 1
 by_cases h : n < 64 <;> simp [h] <;> omega
theorem up_meets {a b : Sol} (h : meets (upS a) (upS b) = true) : meets a b = true := by
 obtain ⟨n, hn, h1, h2⟩ := (meets_iff _ _).1 h
 rw [up_get] at h1 h2
 simp only [Bool.and_eq_true, decide_eq_true_eq] at h1 h2
 exact (meets_iff _ _).2 ⟨n - 64, by omega, h1.2, h2.2⟩
theorem sand_get (m : List Sol) {n : Nat} (hn : n < 512) : (sandM m).getLsbD n = !(m.any fun s => s.getLsbD n) := by
 unfold sandM allS
 rw [BitVec.getLsbD_not, allS_bit_from]
 simp [hn]
theorem up_sand (m : List Sol) {a : Sol} (h : meets (upS a) (sandM (m.map upS)) = true) : meets a (sandM m) = true := by
 obtain ⟨n, hn, h1, h2⟩ := (meets_iff _ _).1 h
 rw [sand_get _ hn] at h2
 rw [up_get] at h1
 simp only [Bool.and_eq_true, decide_eq_true_eq] at h1
 refine (meets_iff _ _).2 ⟨n - 64, by omega, h1.2, ?_⟩
 rw [sand_get _ (by omega)]
 rw [Bool.not_eq_true', List.any_eq_false] at h2 ⊢
 intro s hs hb
 refine h2 (upS s) (List.mem_map_of_mem hs) ?_
 rw [up_get, hb]
 simp [hn, h1.1.2]
theorem up_pl (b : Sol) {k : Nat} (hk : k < 8) : plv (upS b) k = if k = 0 then 0 else plv b (k - 1) := by
 unfold upS; rw [plv_mkS _ _ hk]
theorem off_zero (side : Nat) : offP side 0 = 0 := by
 unfold offP; split <;> simp
theorem on_zero (side : Nat) : onP side 0 = 0 := by
 unfold onP; split <;> simp
theorem up_in {side : Nat} {b : Sol} (h : inS side b = true) : inS side (upS b) = true := by
 rw [inS_iff] at h ⊢
 intro k hk
 rw [up_pl b hk]
 split
 ·exact off_zero side
 ·exact h (k - 1) (by omega)
theorem up_step (side : Nat) (b : Sol) : stepS side (upS b) = upS (stepS side b) := by
 apply sol_ext
 intro k hk
 rw [up_pl _ hk]
 unfold stepS mapS
 rw [plv_mkS _ _ hk, up_pl b hk]
 by_cases h : k = 0
 ·rw [if_pos h, if_pos h]; exact on_zero side
 ·rw [if_neg h, if_neg h, plv_mkS _ _ (by omega)]
theorem up_ups : ∀ (n : Nat) (b : Sol) (y : Sol × Bool), y ∈ upsL n (upS b) → y.2 = true ∧ ∃ z ∈ upsL n b, y.1 = upS z.1
 | 0, _, _, h => by cases h
 | n + 1, b, y, h => by
  rw [upsL] at h
  split at h
  ·cases h
  ·next h0 =>
   have h1 : upS b ≠ 0 := fun e => h0 (by rw [e, up_zero])
   rw [upsL, if_neg h1]
   rcases List.mem_cons.1 h with rfl | h
   ·exact ⟨rfl, _, List.mem_cons_self, rfl⟩
   ·obtain ⟨h2, z, hz, e⟩ := up_ups n (upS b) y h
    exact ⟨h2, z, List.mem_cons_of_mem _ hz, e⟩
theorem up_way (side : Nat) : ∀ (far : Nat) (b : Sol), (∀ z ∈ wayL side far b, z.2 = true) → ∀ y ∈ wayL side far (upS b), y.2 = true ∧ ∃ z ∈ wayL side far b, y.1 = upS z.1
 | 0, b, _, y, hy => up_ups 8 b y hy
 | far + 1, b, h, y, hy => by
  by_cases hi : inS side b = true
  ·rw [wayL, if_pos hi] at h ⊢
   rw [wayL, if_pos (up_in hi), up_step] at hy
   rcases List.mem_cons.1 hy with rfl | hy
   ·exact ⟨rfl, _, List.mem_cons_self, rfl⟩
   ·obtain ⟨h2, z, hz, e⟩ := up_way side far (stepS side b) (fun z hz => h z (List.mem_cons_of_mem _ hz)) y hy
    exact ⟨h2, z, List.mem_cons_of_mem _ hz, e⟩
  ·rw [wayL, if_neg hi] at h
   have := h _ List.mem_cons_self
   cases this
theorem up_getD (m : List Sol) (i : Nat) : (m.map upS).getD i 0 = upS (m.getD i 0) := by
 rw [List.getD_eq_getElem?_getD, List.getD_eq_getElem?_getD, List.getElem?_map]
 cases m[i]?
 ·exact up_zero.symm
 ·rfl
theorem free_iff {m : List Sol} (hm : m.length ≤ 64) {x : Mv} {g : U} : freeM m x g = true ↔ ∀ y ∈ wayL x.2.1 x.2.2 (m.getD x.1 0), y.2 = true ∧ meets y.1 (sandM m) = false ∧ ∀ i, i < m.length → i ≠ x.1 → meets y.1 (m.getD i 0) = true → g.getLsbD i = true := by
 unfold freeM
 simp only [Bool.and_eq_true, Bool.not_eq_true', beq_iff_eq]
 rw [inWay_sand _ hm, List.any_eq_false, ← sub_iff]
 constructor
 ·rintro ⟨h1, h2⟩ y hy
  have h3 := h1 y hy
  rw [Bool.or_eq_true, not_or] at h3
  refine ⟨by simpa using h3.1, by simpa using h3.2, fun i hi hne hb => h2 i ?_⟩
  rw [inWay_bit _ hm]
  simp only [Bool.and_eq_true, decide_eq_true_eq, bne_iff_ne]
  exact ⟨⟨hi, hne⟩, List.any_eq_true.2 ⟨y, hy, hb⟩⟩
 ·intro h
  refine ⟨fun y hy => ?_, fun i hi => ?_⟩
  ·obtain ⟨h1, h2, _⟩ := h y hy
   rw [h1, h2]; simp
  ·rw [inWay_bit _ hm] at hi
   simp only [Bool.and_eq_true, decide_eq_true_eq, bne_iff_ne] at hi
   obtain ⟨y, hy, hb⟩ := List.any_eq_true.1 hi.2
   exact (h y hy).2.2 i hi.1.1 hi.1.2 hb
theorem up_free {m : List Sol} (hm : m.length ≤ 64) {x : Mv} {g : U} (h : freeM m x g = true) : freeM (m.map upS) x g = true := by
 rw [free_iff hm] at h
 rw [free_iff (by rw [List.length_map]; exact hm)]
 intro y hy
 rw [up_getD] at hy
 obtain ⟨h1, z, hz, e⟩ := up_way x.2.1 x.2.2 _ (fun z hz => (h z hz).1) y hy
 obtain ⟨_, h3, h4⟩ := h z hz
 refine ⟨h1, ?_, fun i hi hne hb => h4 i (by rwa [List.length_map] at hi) hne ?_⟩
 ·cases hb : meets y.1 (sandM (m.map upS))
  ·rfl
  ·rw [e] at hb
   rw [up_sand m hb] at h3; cases h3
 ·rw [e, up_getD] at hb
  exact up_meets hb
/-- a mould whose pieces can go wherever those of another one can -/
def Eas (m t : List Sol) : Prop := t.length = m.length ∧ ∀ x g, freeM m x g = true → freeM t x g = true
def shM (k : Nat) (m : List Sol) : List Sol := m.map fun s : Sol => s <<< (64 * k)
theorem sh_eas {m : List Sol} (hm : m.length ≤ 64) : ∀ k, Eas m (shM k m)
 | 0 => by
  have : shM 0 m = m := by unfold shM; simp
  rw [this]; exact ⟨rfl, fun _ _ h => h⟩
 | k + 1 => by
  obtain ⟨h1, h2⟩ := sh_eas hm k
  have : shM (k + 1) m = (shM k m).map upS := by
   unfold shM
   rw [List.map_map]
   congr 1; funext s
   show s <<< (64 * (k + 1)) = upS (s <<< (64 * k))
   rw [up_shl, ← BitVec.shiftLeft_add]; rfl
  rw [this]
  exact ⟨by rw [List.length_map, h1], fun x g h => up_free (by omega) (h2 x g h)⟩
section
variable {m t : List Sol} (hE : Eas m t) (hm : m.length ≤ 12)
include hE
theorem eas_can {p : Nat} {G : U} (h : canM m p G = true) : canM t p G = true := by
 unfold canM goesM at h ⊢
 rw [find_isSome, List.any_eq_true] at h ⊢
 obtain ⟨x, hx, hf⟩ := h
 exact ⟨x, hx, hE.2 x G hf⟩
theorem eas_fe {S : U} (h : Fe (canM m) S) : Fe (canM t) S := by
 induction h with
 | zero => exact .zero
 | add _ hp hn hc ih => exact .add ih hp hn (eas_can hE hc)
theorem eas_goes {x : MvI} {g : U} (h : goesI m x g = true) : goesI t x g = true := by
 unfold goesI at h ⊢
 rw [Bool.and_eq_true] at h ⊢
 rw [hE.1]
 exact ⟨h.1, hE.2 _ _ h.2⟩
theorem eas_madeF : ∀ (l : List MvI) (g G : U), madeF m l g = some G → madeF t l g = some G
 | [], _, _, h => h
 | x :: l, g, G, h => by
  unfold madeF at h ⊢
  split at h
  ·next hg => rw [if_pos (eas_goes hE hg)]; exact eas_madeF l _ _ h
  ·cases h
theorem eas_made {l : List MvI} (h : (madeM m l).isSome = true) : (madeM t l).isSome = true := by
 obtain ⟨G, hG⟩ := Option.isSome_iff_exists.1 h
 unfold madeM at hG ⊢
 rw [eas_madeF hE l 0 G hG]; rfl
include hm
theorem eas_last : Sub (lastR m) (lastR t) := by
 have h := eas_fe hE (gone_fe hm 12)
 have hs := gone_all hm 12
 rw [← hE.1] at hs
 exact fe_last (by rw [hE.1]; exact hm) hs h
theorem eas_left : Sub (roundsM t).2 (roundsM m).2 := by
 rw [rounds_left hm, rounds_left (by rw [hE.1]; exact hm)]
 unfold greatL
 intro i hi
 rw [andnot_bit] at hi ⊢
 rw [hE.1] at hi
 rw [Bool.and_eq_true, Bool.not_eq_true'] at hi ⊢
 refine ⟨hi.1, ?_⟩
 cases h : (lastR m).getLsbD i
 ·rfl
 ·rw [eas_last hE hm i h] at hi; cases hi.2
theorem eas_below {p : Nat} {l : U} (h : l ∈ pathsM m p) : ∃ k ∈ pathsM t p, Sub k l := by
 obtain ⟨h1, h2, h3⟩ := paths_mem hm h
 exact paths_below (by rw [hE.1]; exact hm) (by rw [hE.1]; exact h1) h2 (eas_fe hE h3)
theorem eas_paths {p : Nat} (h : (pathsM m p).isEmpty = false) : (pathsM t p).isEmpty = false := by
 cases hl : pathsM m p with
 | nil => rw [hl] at h; cases h
 | cons l L =>
  obtain ⟨k, hk, _⟩ := eas_below hE hm (p := p) (l := l) (by rw [hl]; exact List.mem_cons_self)
  cases hk' : pathsM t p with
  | nil => rw [hk'] at hk; cases hk
  | cons _ _ => rfl
theorem eas_needs {p : Nat} (hp : p < m.length) : Sub (needsU t p) (needsU m p) := by
 intro q hq
 have hq64 : q < m.length := by
  unfold needsU at hq
  rw [needs_fold, BitVec.getLsbD_and, allU_bit _ _ (by rw [hE.1]; omega), hE.1] at hq
  simp only [Bool.and_eq_true, decide_eq_true_eq] at hq
  exact hq.1.1
 rw [needs_bit (by rw [hE.1]; exact hm) (by rw [hE.1]; exact hq64) (by rw [hE.1]; exact hp), Bool.and_eq_true] at hq
 rw [needs_bit hm hq64 hp, Bool.and_eq_true]
 refine ⟨hq.1, List.all_eq_true.2 fun s hs => ?_⟩
 obtain ⟨k, hk, hks⟩ := eas_below hE hm hs
 exact hks q (List.all_eq_true.1 hq.2 k hk)
end
/-- what Moved makes of a solid that goes up -/
theorem moved_sh {s x : Sol} {k : Nat} (hs : s ≠ 0) (h : movedM s (0, 0, (k : Int)) = (x, 0)) : x = s <<< (64 * k) ∧ x ≠ 0 := by
 rcases movedM_ok.1 h with ⟨h1, _⟩ | ⟨_, h2, h3⟩
 ·exact absurd h1 hs
 ·have hx : ∀ n, n < 512 → x.getLsbD n = (decide (64 * k ≤ n) && s.getLsbD (n - 64 * k)) := by
   intro n hn
   rw [h3, ← hasS_cellN hn, Bool.eq_iff_iff, imgS_has h2 (cellN_in hn), Bool.and_eq_true, decide_eq_true_eq]
   constructor
   ·rintro ⟨c, hc, e⟩
    have hg : inG c = true := by unfold hasS at hc; rw [Bool.and_eq_true] at hc; exact hc.1
    have hb : bitN (movC (0, 0, (k : Int)) c) = n := by rw [e, bitN_cellN]
    have hgi := inG_iff.1 hg
    have hm : bitN (movC (0, 0, (k : Int)) c) = bitN c + 64 * k := by
     obtain ⟨a, b, z⟩ := c
     unfold movC addC bitN at *
     simp only at *
     omega
    unfold hasS at hc
    rw [Bool.and_eq_true] at hc
    refine ⟨by omega, ?_⟩
    rw [← hb, hm, Nat.add_sub_cancel]; exact hc.2
   ·rintro ⟨h4, h5⟩
    have hl : n - 64 * k < 512 := by omega
    refine ⟨cellN (n - 64 * k), by rw [hasS_cellN hl]; exact h5, ?_⟩
    have hz : n / 64 = (n - 64 * k) / 64 + k := by omega
    unfold movC addC cellN
    simp only
    refine Prod.ext ?_ (Prod.ext ?_ ?_)
    ·simp only; omega
    ·simp only; omega
    ·simp only; omega
  refine ⟨?_, ?_⟩
  ·apply BitVec.eq_of_getLsbD_eq
   intro n hn
   rw [hx n hn, BitVec.getLsbD_shiftLeft]
   simp only [hn, decide_true, Bool.true_and]
   congr 1
   by_cases h : n < 64 * k <;> simp [h] <;> omega
  ·obtain ⟨c, hc⟩ := has_some hs
   intro h0
   have h6 := stays_iff.1 h2 c hc
   have := (imgS_has h2 h6).2 ⟨c, hc, rfl⟩
   rw [← h3, h0] at this
   unfold hasS at this
   simp at this
theorem shl_meets {a b : Sol} (k : Nat) (h : meets (a <<< (64 * k)) (b <<< (64 * k)) = true) : meets a b = true := by
 obtain ⟨n, hn, h1, h2⟩ := (meets_iff _ _).1 h
 rw [BitVec.getLsbD_shiftLeft] at h1 h2
 simp only [Bool.and_eq_true, decide_eq_true_eq] at h1 h2
 exact (meets_iff _ _).2 ⟨n - 64 * k, by omega, h1.2, h2.2⟩
/-- the pieces, lifted; none leaves the grid -/
theorem moved_list {m : List Sol} {k : Nat} (hg : goodM m = true) (h : ∀ s ∈ m, (movedM s (0, 0, (k : Int))).2 = 0) : m.map (fun s => (movedM s (0, 0, (k : Int))).1) = shM k m ∧ goodM (shM k m) = true := by
 obtain ⟨h1, h2⟩ := (goodM_iff m).1 hg
 have hs : ∀ s ∈ m, (movedM s (0, 0, (k : Int))).1 = s <<< (64 * k) ∧ s <<< (64 * k) ≠ 0 := fun s hs => by
  have := moved_sh (h1 s hs) (k := k) (x := (movedM s (0, 0, (k : Int))).1) (Prod.ext rfl (h s hs))
  exact ⟨this.1, by rw [← this.1]; exact this.2⟩
 refine ⟨List.map_congr_left fun s hs' => (hs s hs').1, ?_⟩
 rw [goodM_iff]
 unfold shM
 refine ⟨fun x hx => ?_, ?_⟩
 ·obtain ⟨s, hs', rfl⟩ := List.mem_map.1 hx
  exact (hs s hs').2
 ·rw [List.pairwise_map]
  refine h2.imp fun {a b} hab => ?_
  cases hb : meets (b <<< (64 * k)) (a <<< (64 * k))
  ·rfl
  ·rw [shl_meets k hb] at hab; cases hab
end Go.Draw
end
