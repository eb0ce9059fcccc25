import Derived.Test.YtccnkebkgegohaaGreatDoorG22
/-
  Given contracts of functions of the program, and laws for them, one behind the other.
-/
set_option linter.unusedVariables false
set_option linter.unusedSimpArgs false
set_option linter.unusedSectionVars false
section
namespace Go.Tra
variable {α : Type} [DecidableEq α] {D : α → α → Bool}
/-- of a list only two letters -/
def pj (a b : α) (l : List α) : List α := l.filter fun x => decide (x = a) || decide (x = b)
/-- the same, of each two letters that hang together -/
def Eqv (D : α → α → Bool) (l m : List α) : Prop := ∀ a b, D a b = true → pj a b l = pj a b m
theorem Eqv.refl (l : List α) : Eqv D l l := fun _ _ _ => rfl
theorem Eqv.symm {l m : List α} (h : Eqv D l m) : Eqv D m l := fun a b hd => (h a b hd).symm
theorem Eqv.trans {l m n : List α} (h : Eqv D l m) (k : Eqv D m n) : Eqv D l n := fun a b hd => (h a b hd).trans (k a b hd)
theorem pj_append (a b : α) (l m : List α) : pj a b (l ++ m) = pj a b l ++ pj a b m := List.filter_append ..
theorem pj_cons_in {a b x : α} (h : x = a ∨ x = b) (l : List α) : pj a b (x :: l) = x :: pj a b l := by
 unfold pj; rw [List.filter_cons_of_pos]; simpa using h
theorem pj_cons_out {a b x : α} (h : x ≠ a) (h' : x ≠ b) (l : List α) : pj a b (x :: l) = pj a b l := by
 unfold pj; rw [List.filter_cons_of_neg]; simp [h, h']
theorem Eqv.app {l m l' m' : List α} (h : Eqv D l m) (k : Eqv D l' m') : Eqv D (l ++ l') (m ++ m') := fun a b hd => by
 rw [pj_append, pj_append, h a b hd, k a b hd]
theorem Eqv.cons (x : α) {l m : List α} (h : Eqv D l m) : Eqv D (x :: l) (x :: m) := Eqv.app (l := [x]) (m := [x]) (Eqv.refl _) h
theorem Eqv.cancel {c l m : List α} (h : Eqv D (c ++ l) (c ++ m)) : Eqv D l m := fun a b hd => by
 have := h a b hd
 rw [pj_append, pj_append] at this
 exact List.append_cancel_left this
theorem Eqv.cancel1 {x : α} {l m : List α} (h : Eqv D (x :: l) (x :: m)) : Eqv D l m := Eqv.cancel (c := [x]) h
theorem count_pj (a : α) (l : List α) : l.count a = (pj a a l).length := by
 induction l with
 | nil => rfl
 | cons x l ih =>
  by_cases h : x = a
  ·subst h; rw [pj_cons_in (.inl rfl)]; simp [ih]
  ·rw [pj_cons_out h h, ← ih, List.count_cons_of_ne]; exact h
theorem Eqv.perm (hr : ∀ a, D a a = true) {l m : List α} (h : Eqv D l m) : l.Perm m := by
 rw [List.perm_iff_count]
 intro a
 rw [count_pj, count_pj, h a a (hr a)]
theorem Eqv.len (hr : ∀ a, D a a = true) {l m : List α} (h : Eqv D l m) : l.length = m.length := (h.perm hr).length_eq
theorem Eqv.mem (hr : ∀ a, D a a = true) {l m : List α} (h : Eqv D l m) {x : α} : x ∈ l ↔ x ∈ m := (h.perm hr).mem_iff
theorem Eqv.swap (hs : ∀ a b, D a b = D b a) {x y : α} (h : D x y = false) (l : List α) : Eqv D (x :: y :: l) (y :: x :: l) := fun a b hd => by
 by_cases hxy : x = y
 ·subst hxy; rfl
 by_cases hx : x = a ∨ x = b
 ·by_cases hy : y = a ∨ y = b
  ·exfalso
   rcases hx with e1 | e1 <;> rcases hy with e2 | e2
   ·exact hxy (e1.trans e2.symm)
   ·subst e1; subst e2; rw [hd] at h; cases h
   ·subst e1; subst e2; rw [hs, hd] at h; cases h
   ·exact hxy (e1.trans e2.symm)
  ·have hy' : y ≠ a ∧ y ≠ b := by simpa using hy
   rw [pj_cons_in hx, pj_cons_out hy'.1 hy'.2, pj_cons_out hy'.1 hy'.2, pj_cons_in hx]
 ·have hx' : x ≠ a ∧ x ≠ b := by simpa using hx
  by_cases hy : y = a ∨ y = b
  ·rw [pj_cons_out hx'.1 hx'.2, pj_cons_in hy, pj_cons_in hy, pj_cons_out hx'.1 hx'.2]
  ·have hy' : y ≠ a ∧ y ≠ b := by simpa using hy
   rw [pj_cons_out hx'.1 hx'.2, pj_cons_out hy'.1 hy'.2, pj_cons_out hy'.1 hy'.2, pj_cons_out hx'.1 hx'.2]
/-- a letter passes a word that is independent of it -/
theorem Eqv.pass (hs : ∀ a b, D a b = D b a) {x : α} : ∀ {u : List α}, (∀ y ∈ u, D y x = false) → Eqv D (u ++ [x]) (x :: u)
 | [], _ => Eqv.refl _
 | y :: u, h => by
  have h1 := Eqv.cons y (Eqv.pass hs (u := u) fun z hz => h z (List.mem_cons_of_mem _ hz))
  exact h1.trans (Eqv.swap hs (h y (List.mem_cons_self ..)) u)
/-- a letter can be the first one -/
def free (D : α → α → Bool) (x : α) : List α → Bool
 | [] => false
 | y :: l => if y = x then true else !D y x && free D x l
theorem free_cons_self (x : α) (l : List α) : free D x (x :: l) = true := by simp [free]
theorem free_mem {x : α} : ∀ {l : List α}, free D x l = true → x ∈ l
 | y :: l, h => by
  by_cases e : y = x
  ·subst e; exact List.mem_cons_self ..
  ·simp only [free, if_neg e, Bool.and_eq_true] at h
   exact List.mem_cons_of_mem _ (free_mem h.2)
theorem free_eqv (hs : ∀ a b, D a b = D b a) {x : α} : ∀ {l : List α}, free D x l = true → Eqv D l (x :: l.erase x)
 | y :: l, h => by
  by_cases e : y = x
  ·subst e; rw [List.erase_cons_head]; exact Eqv.refl _
  ·simp only [free, if_neg e, Bool.and_eq_true, Bool.not_eq_true'] at h
   rw [List.erase_cons_tail (by simpa using e)]
   exact (Eqv.cons y (free_eqv hs h.2)).trans (Eqv.swap hs h.1 _)
theorem free_of_heads (hr : ∀ a, D a a = true) {x : α} : ∀ {l : List α}, (∀ z, D z x = true → (pj z x l).head? = some x) → free D x l = true
 | [], h => by have := h x (hr x); simp [pj] at this
 | y :: l, h => by
  by_cases e : y = x
  ·subst e; exact free_cons_self ..
  ·have hd : D y x = false := by
    cases hd : D y x with
    | false => rfl
    | true => have := h y hd; rw [pj_cons_in (.inl rfl)] at this; simp at this; exact absurd this e
   simp only [free, if_neg e, hd, Bool.not_false, Bool.true_and]
   refine free_of_heads hr fun z hz => ?_
   have := h z hz
   rw [pj_cons_out (fun e2 => by rw [e2, hz] at hd; cases hd) e] at this
   exact this
theorem free_of (hr : ∀ a, D a a = true) {x : α} {l m : List α} (h : Eqv D l (x :: m)) : free D x l = true :=
 free_of_heads hr fun z hz => by rw [h z x hz, pj_cons_in (.inr rfl)]; rfl
theorem erase_of (hr : ∀ a, D a a = true) (hs : ∀ a b, D a b = D b a) {x : α} {l m : List α} (h : Eqv D l (x :: m)) : Eqv D (l.erase x) m :=
 ((free_eqv hs (free_of hr h)).symm.trans h).cancel1
theorem free_iff (hr : ∀ a, D a a = true) (hs : ∀ a b, D a b = D b a) {l m : List α} (h : Eqv D l m) (x : α) : free D x l = free D x m := by
 rw [Bool.eq_iff_iff]
 exact ⟨fun k => free_of hr (h.symm.trans (free_eqv hs k)), fun k => free_of hr (h.trans (free_eqv hs k))⟩
theorem Eqv.erase (hr : ∀ a, D a a = true) (hs : ∀ a b, D a b = D b a) {l m : List α} (h : Eqv D l m) {x : α} (hf : free D x l = true) : Eqv D (l.erase x) (m.erase x) :=
 erase_of hr hs (h.trans (free_eqv hs (by rw [← free_iff hr hs h]; exact hf)))
theorem free_append {x : α} : ∀ {u v : List α}, free D x u = true → free D x (u ++ v) = true
 | y :: u, v, h => by
  by_cases e : y = x
  ·subst e; exact free_cons_self ..
  ·simp only [free, if_neg e, Bool.and_eq_true, List.cons_append] at h ⊢
   exact ⟨h.1, free_append h.2⟩
/-- free behind a word: in it, or independent of all of it -/
theorem free_split (hr : ∀ a, D a a = true) {x : α} : ∀ {u v : List α}, free D x (u ++ v) = true → free D x u = true ∨ (x ∉ u ∧ (∀ y ∈ u, D y x = false) ∧ free D x v = true)
 | [], v, h => .inr ⟨by simp, by simp, h⟩
 | y :: u, v, h => by
  by_cases e : y = x
  ·subst e; exact .inl (free_cons_self ..)
  ·simp only [free, if_neg e, Bool.and_eq_true, List.cons_append, Bool.not_eq_true'] at h ⊢
   rcases free_split hr h.2 with h2 | ⟨h2, h3, h4⟩
   ·exact .inl ⟨h.1, h2⟩
   ·refine .inr ⟨?_, ?_, h4⟩
    ·intro hm; rcases List.mem_cons.1 hm with rfl | hm
     ·exact e rfl
     ·exact h2 hm
    ·intro z hz; rcases List.mem_cons.1 hz with rfl | hz
     ·exact h.1
     ·exact h3 z hz
theorem erase_append_out {x : α} {u v : List α} (h : x ∉ u) : (u ++ v).erase x = u ++ v.erase x := List.erase_append_right _ h
theorem erase_append_in {x : α} {u v : List α} (h : x ∈ u) : (u ++ v).erase x = u.erase x ++ v := List.erase_append_left _ h
/-! ### beginnings -/
def Pre (D : α → α → Bool) (g h : List α) : Prop := ∃ r, Eqv D (g ++ r) h
theorem Pre.refl (g : List α) : Pre D g g := ⟨[], by simpa using Eqv.refl _⟩
theorem Pre.nil (g : List α) : Pre D [] g := ⟨g, Eqv.refl _⟩
theorem Pre.trans {g h k : List α} : Pre D g h → Pre D h k → Pre D g k
 | ⟨r, hr⟩, ⟨s, hs⟩ => ⟨r ++ s, by rw [← List.append_assoc]; exact (Eqv.app hr (Eqv.refl _)).trans hs⟩
theorem Pre.of {g h : List α} (e : Eqv D g h) : Pre D g h := ⟨[], by simpa using e⟩
theorem Pre.eqv {g h g' h' : List α} (k : Pre D g h) (a : Eqv D g g') (b : Eqv D h h') : Pre D g' h' := (Pre.of a.symm).trans (k.trans (Pre.of b))
theorem Pre.app {c g h : List α} : Pre D g h → Pre D (c ++ g) (c ++ h)
 | ⟨r, hr⟩ => ⟨r, by rw [List.append_assoc]; exact Eqv.app (Eqv.refl _) hr⟩
theorem Pre.cancel {c g h : List α} : Pre D (c ++ g) (c ++ h) → Pre D g h
 | ⟨r, hr⟩ => ⟨r, by rw [List.append_assoc] at hr; exact Eqv.cancel hr⟩
theorem Pre.left (c r : List α) : Pre D c (c ++ r) := ⟨r, Eqv.refl _⟩
theorem Pre.len (hr : ∀ a, D a a = true) {g h : List α} : Pre D g h → g.length ≤ h.length
 | ⟨r, h⟩ => by have := h.len hr; rw [List.length_append] at this; omega
/-- what a letter that is free in a word does to its beginnings -/
theorem Pre.free_in (hr : ∀ a, D a a = true) (hs : ∀ a b, D a b = D b a) {x : α} {g h : List α} (k : Pre D g h) (hf : free D x h = true) (hx : x ∈ g) : free D x g = true ∧ Pre D (g.erase x) (h.erase x) := by
 obtain ⟨r, e⟩ := k
 have h1 : free D x (g ++ r) = true := by rw [free_iff hr hs e]; exact hf
 rcases free_split hr h1 with h2 | ⟨h2, _⟩
 ·refine ⟨h2, r, ?_⟩
  have := Eqv.erase hr hs e h1
  rwa [erase_append_in hx] at this
 ·exact absurd hx h2
theorem Pre.free_out (hr : ∀ a, D a a = true) (hs : ∀ a b, D a b = D b a) {x : α} {g h : List α} (k : Pre D g h) (hf : free D x h = true) (hx : x ∉ g) : (∀ y ∈ g, D y x = false) ∧ Pre D g (h.erase x) := by
 obtain ⟨r, e⟩ := k
 have h1 : free D x (g ++ r) = true := by rw [free_iff hr hs e]; exact hf
 rcases free_split hr h1 with h2 | ⟨_, h3, _⟩
 ·exact absurd (free_mem h2) hx
 ·refine ⟨h3, r.erase x, ?_⟩
  have := Eqv.erase hr hs e h1
  rwa [erase_append_out hx] at this
theorem Pre.free (hr : ∀ a, D a a = true) (hs : ∀ a b, D a b = D b a) {x : α} {g h : List α} (k : Pre D g h) (hf : Tra.free D x g = true) : Tra.free D x h = true := by
 obtain ⟨r, e⟩ := k
 rw [← free_iff hr hs e]; exact free_append hf
theorem exists_free {g : List α} (h : g ≠ []) : ∃ x, free D x g = true := by
 cases g with
 | nil => exact absurd rfl h
 | cons x g => exact ⟨x, free_cons_self ..⟩
/-- no letter is free in both -/
def Apart (D : α → α → Bool) (a b : List α) : Prop := ∀ x, free D x a = true → free D x b = false
theorem Apart.pre (hr : ∀ a, D a a = true) (hs : ∀ a b, D a b = D b a) {a b : List α} (h : Apart D a b) (k : Pre D a b) : a = [] := by
 by_cases e : a = []
 ·exact e
 ·obtain ⟨x, hx⟩ := exists_free (D := D) e
  have := k.free hr hs hx
  rw [h x hx] at this; cases this
/-- the greatest common beginning of what has no common letter is nothing -/
theorem Apart.common (hr : ∀ a, D a a = true) (hs : ∀ a b, D a b = D b a) {a b k : List α} (h : Apart D a b) (ha : Pre D k a) (hb : Pre D k b) : k = [] := by
 by_cases e : k = []
 ·exact e
 ·obtain ⟨x, hx⟩ := exists_free (D := D) e
  have h1 := ha.free hr hs hx
  have h2 := hb.free hr hs hx
  rw [h x h1] at h2; cases h2
/-- what begins both begins what is taken from both -/
theorem strip_common (hr : ∀ a, D a a = true) (hs : ∀ a b, D a b = D b a) : ∀ {c g h a b k : List α}, Eqv D (c ++ a) g → Eqv D (c ++ b) h → Apart D a b → Pre D k g → Pre D k h → Pre D k c
 | [], g, h, a, b, k, e1, e2, hA, k1, k2 => by
  have := hA.common hr hs (k1.eqv (Eqv.refl _) e1.symm) (k2.eqv (Eqv.refl _) e2.symm)
  subst this; exact Pre.nil _
 | x :: c, g, h, a, b, k, e1, e2, hA, k1, k2 => by
  have f1 : free D x g = true := by rw [← free_iff hr hs e1]; exact free_cons_self ..
  have f2 : free D x h = true := by rw [← free_iff hr hs e2]; exact free_cons_self ..
  have e1' : Eqv D (c ++ a) (g.erase x) := by have := Eqv.erase hr hs e1 (free_cons_self ..); simpa using this
  have e2' : Eqv D (c ++ b) (h.erase x) := by have := Eqv.erase hr hs e2 (free_cons_self ..); simpa using this
  by_cases hx : x ∈ k
  ·obtain ⟨h1, h2⟩ := k1.free_in hr hs f1 hx
   obtain ⟨_, h3⟩ := k2.free_in hr hs f2 hx
   have := strip_common hr hs e1' e2' hA h2 h3
   exact (Pre.app (c := [x]) this).eqv (free_eqv hs h1).symm (Eqv.refl _)
  ·obtain ⟨h1, h2⟩ := k1.free_out hr hs f1 hx
   obtain ⟨_, h3⟩ := k2.free_out hr hs f2 hx
   have h4 := Pre.app (c := [x]) (strip_common hr hs e1' e2' hA h2 h3)
   exact ((Pre.left k [x]).eqv (Eqv.refl _) (Eqv.pass hs h1)).trans h4
/-- two words that are independent begin what both begin -/
theorem join_least (hr : ∀ a, D a a = true) (hs : ∀ a b, D a b = D b a) : ∀ {a b k : List α}, (∀ x ∈ a, ∀ y ∈ b, D x y = false) → Pre D a k → Pre D b k → Pre D (a ++ b) k
 | [], _, _, _, _, kb => kb
 | x :: a, b, k, h, ka, kb => by
  have hf := ka.free hr hs (free_cons_self x a)
  have hx : x ∉ b := fun hm => by have := h x (List.mem_cons_self ..) x hm; rw [hr] at this; cases this
  have h1 := (ka.free_in hr hs hf (List.mem_cons_self ..)).2
  rw [List.erase_cons_head] at h1
  have h2 := (kb.free_out hr hs hf hx).2
  have h3 := join_least hr hs (fun y hy => h y (List.mem_cons_of_mem _ hy)) h1 h2
  exact (Pre.app (c := [x]) h3).eqv (Eqv.refl _) (free_eqv hs hf).symm
/-! ### the least list -/
/-- the letters that can be first, in their order -/
def frs (D : α → α → Bool) : List α → List α → List α
 | _, [] => []
 | pre, y :: l => if pre.all (fun z => !D z y) then y :: frs D (pre ++ [y]) l else frs D (pre ++ [y]) l
def minV (f : α → α → Int) : α → List α → α
 | m, [] => m
 | m, x :: xs => minV f (if f x m < 0 then x else m) xs
theorem mem_frs (hr : ∀ a, D a a = true) {x : α} : ∀ {l pre : List α}, x ∈ frs D pre l ↔ (∀ z ∈ pre, D z x = false) ∧ free D x l = true
 | [], pre => by simp [frs, free]
 | y :: l, pre => by
  unfold frs
  by_cases e : y = x
  ·subst e
   constructor
   ·intro h
    split at h
    ·next h1 => exact ⟨by simpa using h1, free_cons_self ..⟩
    ·have := (mem_frs hr).1 h
     have := this.1 y (by simp)
     rw [hr] at this; cases this
   ·intro h
    rw [if_pos (by simpa using h.1)]
    exact List.mem_cons_self ..
  ·have ih := mem_frs hr (x := x) (l := l) (pre := pre ++ [y])
   have : (∀ z ∈ pre ++ [y], D z x = false) ∧ free D x l = true ↔ (∀ z ∈ pre, D z x = false) ∧ free D x (y :: l) = true := by
    simp only [List.mem_append, List.mem_singleton, free, if_neg e, Bool.and_eq_true, Bool.not_eq_true']
    constructor
    ·rintro ⟨h1, h2⟩
     exact ⟨fun z hz => h1 z (.inl hz), h1 y (.inr rfl), h2⟩
    ·rintro ⟨h1, h2, h3⟩
     refine ⟨fun z hz => ?_, h3⟩
     rcases hz with hz | rfl
     ·exact h1 z hz
     ·exact h2
   rw [← this, ← ih]
   split
   ·simp [Ne.symm e]
   ·rfl
/-- what a comparison of a total order obeys -/
structure Cmp (f : α → α → Int) : Prop where
 asym : ∀ {a b}, f a b < 0 → ¬ f b a < 0
 tot : ∀ {a b}, a ≠ b → f a b < 0 ∨ f b a < 0
 tr : ∀ {a b c}, f a b < 0 → f b c < 0 → f a c < 0
theorem minV_mem (f : α → α → Int) : ∀ (m : α) (xs : List α), minV f m xs ∈ m :: xs
 | m, [] => by simp [minV]
 | m, x :: xs => by
  have := minV_mem f (if f x m < 0 then x else m) xs
  unfold minV
  rcases List.mem_cons.1 this with h | h
  ·rw [h]; split <;> simp
  ·simp [h]
theorem minV_le {f : α → α → Int} (hc : Cmp f) : ∀ (m : α) (xs : List α), ∀ y ∈ m :: xs, y = minV f m xs ∨ f (minV f m xs) y < 0
 | m, [], y, h => by simp at h; exact .inl (by simp [minV, h])
 | m, x :: xs, y, h => by
  have key := minV_le hc (if f x m < 0 then x else m) xs
  have top := key (if f x m < 0 then x else m) (List.mem_cons_self ..)
  show y = minV f (if f x m < 0 then x else m) xs ∨ f (minV f (if f x m < 0 then x else m) xs) y < 0
  have le : ∀ {u v w : α}, (v = u ∨ f u v < 0) → (w = v ∨ f v w < 0) → (w = u ∨ f u w < 0) := fun h1 h2 => by
   rcases h1 with rfl | h1
   ·exact h2
   ·rcases h2 with rfl | h2
    ·exact .inr h1
    ·exact .inr (hc.tr h1 h2)
  rcases List.mem_cons.1 h with rfl | h
  ·refine le top ?_
   split
   ·next h1 => exact .inr h1
   ·exact .inl rfl
  ·rcases List.mem_cons.1 h with rfl | h
   ·refine le top ?_
    split
    ·exact .inl rfl
    ·next h1 =>
     by_cases e : y = m
     ·exact .inl e
     ·rcases hc.tot e with h2 | h2
      ·exact absurd h2 h1
      ·exact .inr h2
   ·exact key y (List.mem_cons_of_mem _ h)
theorem minV_unique {f : α → α → Int} (hc : Cmp f) {m m' : α} {xs xs' : List α} (h : ∀ y, y ∈ m :: xs ↔ y ∈ m' :: xs') : minV f m xs = minV f m' xs' := by
 have h1 := minV_le hc m xs _ ((h _).2 (minV_mem f m' xs'))
 have h2 := minV_le hc m' xs' _ ((h _).1 (minV_mem f m xs))
 rcases h1 with h1 | h1
 ·exact h1.symm
 ·rcases h2 with h2 | h2
  ·exact h2
  ·exact absurd h2 (hc.asym h1)
/-- again and again the least letter that can be first -/
def norm (D : α → α → Bool) (f : α → α → Int) : Nat → List α → List α
 | 0, _ => []
 | n + 1, l => match frs D [] l with
  | [] => []
  | x :: xs => minV f x xs :: norm D f n (l.erase (minV f x xs))
theorem frs_head (y : α) (l : List α) : frs D [] (y :: l) = y :: frs D [y] l := by simp [frs]
theorem norm_cons (f : α → α → Int) (n : Nat) (y : α) (l : List α) : norm D f (n + 1) (y :: l) = minV f y (frs D [y] l) :: norm D f n ((y :: l).erase (minV f y (frs D [y] l))) := by
 rw [norm, frs_head]
theorem min_free (hr : ∀ a, D a a = true) (f : α → α → Int) (y : α) (l : List α) : free D (minV f y (frs D [y] l)) (y :: l) = true := by
 have := minV_mem f y (frs D [y] l)
 rw [← frs_head] at this
 exact ((mem_frs hr).1 this).2
theorem norm_eqv (hr : ∀ a, D a a = true) (hs : ∀ a b, D a b = D b a) (f : α → α → Int) : ∀ {n : Nat} {l : List α}, l.length = n → Eqv D l (norm D f n l)
 | 0, l, h => by have := List.eq_nil_of_length_eq_zero h; subst this; exact Eqv.refl _
 | n + 1, [], h => by simp at h
 | n + 1, y :: l, h => by
  rw [norm_cons]
  have hf := min_free hr f y l
  have hm := free_mem hf
  refine (free_eqv hs hf).trans (Eqv.cons _ (norm_eqv hr hs f ?_))
  rw [List.length_erase_of_mem hm, h]; rfl
theorem norm_unique (hr : ∀ a, D a a = true) (hs : ∀ a b, D a b = D b a) {f : α → α → Int} (hc : Cmp f) : ∀ {n : Nat} {l m : List α}, l.length = n → Eqv D l m → norm D f n l = norm D f n m
 | 0, _, _, _, _ => rfl
 | n + 1, [], _, h, _ => by simp at h
 | n + 1, y :: l, [], h, e => by have := e.len hr; simp at this
 | n + 1, y :: l, z :: m, h, e => by
  rw [norm_cons, norm_cons]
  have hu : minV f y (frs D [y] l) = minV f z (frs D [z] m) := by
   refine minV_unique hc fun x => ?_
   rw [← frs_head, ← frs_head, mem_frs hr, mem_frs hr, free_iff hr hs e]
  have hf := min_free hr f y l
  rw [← hu]
  congr 1
  refine norm_unique hr hs hc ?_ (Eqv.erase hr hs e hf)
  rw [List.length_erase_of_mem (free_mem hf), h]; rfl
/-- two words are the same exactly if their least lists are -/
theorem norm_iff (hr : ∀ a, D a a = true) (hs : ∀ a b, D a b = D b a) {f : α → α → Int} (hc : Cmp f) (l m : List α) : norm D f l.length l = norm D f m.length m ↔ Eqv D l m := by
 constructor
 ·intro h
  exact (norm_eqv hr hs f rfl).trans (by rw [h]; exact (norm_eqv hr hs f rfl).symm)
 ·intro h
  rw [← h.len hr]
  exact norm_unique hr hs hc rfl h
end Go.Tra
end
section
namespace Go.Tra
variable {α : Type} [DecidableEq α] {D : α → α → Bool}
/-! ### turns: what is done and taken back -/
/-- what a letter's opposite obeys -/
structure Inv (D : α → α → Bool) (iv : α → Option α) : Prop where
 back : ∀ {x y}, iv x = some y → iv y = some x
 dep : ∀ {x y}, iv x = some y → ∀ z, D z y = D z x
def consR (D : α → α → Bool) (iv : α → Option α) (x : α) (r : List α) : List α := match iv x with
 | none => x :: r
 | some y => if free D y r then r.erase y else x :: r
def red (D : α → α → Bool) (iv : α → Option α) : List α → List α
 | [] => []
 | x :: l => consR D iv x (red D iv l)
def IsRed (D : α → α → Bool) (iv : α → Option α) (r : List α) : Prop := ∀ u x y v, iv x = some y → ¬ Eqv D r (u ++ x :: y :: v)
section
variable {iv : α → Option α}
theorem IsRed.eqv {r r' : List α} (h : IsRed D iv r) (e : Eqv D r r') : IsRed D iv r' := fun u x y v hx k => h u x y v hx (e.trans k)
theorem IsRed.tail {x : α} {r : List α} (h : IsRed D iv (x :: r)) : IsRed D iv r := fun u a b v ha k => h (x :: u) a b v ha (Eqv.cons x k)
theorem IsRed.nil (hr : ∀ a, D a a = true) : IsRed D iv ([] : List α) := fun u x y v _ k => by
 have := k.len hr
 simp at this
/-! no turn is found: it is reduced -/
def scanNo (D : α → α → Bool) (iv : α → Option α) (x : α) : List α → Bool
 | [] => true
 | y :: l => if iv x = some y then false else if D x y then true else scanNo D iv x l
def noTurn (D : α → α → Bool) (iv : α → Option α) : List α → Bool
 | [] => true
 | x :: l => scanNo D iv x l && noTurn D iv l
end
end Go.Tra
end
section
namespace Go.Tra
variable {α : Type} [DecidableEq α] {D : α → α → Bool}
/-! ### runs -/
section
variable {S : Type}
def runO (st : S → α → Option S) : S → List α → Option S
 | s, [] => some s
 | s, a :: l => (st s a).bind fun s' => runO st s' l
/-- what steps that hang not together obey -/
structure StepsO (D : α → α → Bool) (st : S → α → Option S) : Prop where
 swap : ∀ {s s1 s2 a b}, D a b = false → st s a = some s1 → st s1 b = some s2 → ∃ s3, st s b = some s3 ∧ st s3 a = some s2
 join : ∀ {s s1 s2 a b}, D a b = false → st s a = some s1 → st s b = some s2 → ∃ s3, st s1 b = some s3
variable {st : S → α → Option S}
theorem runO_app : ∀ (s : S) (l m : List α), runO st s (l ++ m) = (runO st s l).bind fun s' => runO st s' m
 | s, [], m => rfl
 | s, a :: l, m => by
  simp only [List.cons_append, runO]
  cases st s a with
  | none => rfl
  | some s' => exact runO_app s' l m
theorem runO_free (hs : ∀ a b, D a b = D b a) (hS : StepsO D st) {x : α} : ∀ {l : List α} {s t : S}, free D x l = true → runO st s l = some t → runO st s (x :: l.erase x) = some t
 | y :: l, s, t, hf, h => by
  by_cases e : y = x
  ·subst e; rw [List.erase_cons_head]; exact h
  ·simp only [free, if_neg e, Bool.and_eq_true, Bool.not_eq_true'] at hf
   rw [List.erase_cons_tail (by simpa using e)]
   simp only [runO, Option.bind_eq_some_iff] at h ⊢
   obtain ⟨s1, h1, h2⟩ := h
   have ih := runO_free hs hS hf.2 h2
   simp only [runO, Option.bind_eq_some_iff] at ih
   obtain ⟨s2, h3, h4⟩ := ih
   obtain ⟨s3, h5, h6⟩ := hS.swap hf.1 h1 h3
   exact ⟨s3, h5, s2, h6, h4⟩
theorem runO_eqv (hr : ∀ a, D a a = true) (hs : ∀ a b, D a b = D b a) (hS : StepsO D st) : ∀ {l m : List α} {s t : S}, Eqv D l m → runO st s m = some t → runO st s l = some t
 | [], m, s, t, e, h => by
  have := e.len hr
  have : m = [] := List.eq_nil_of_length_eq_zero this.symm
  subst this; exact h
 | x :: l, m, s, t, e, h => by
  have h1 := runO_free hs hS (free_of hr e.symm) h
  simp only [runO, Option.bind_eq_some_iff] at h1 ⊢
  obtain ⟨s1, h2, h3⟩ := h1
  exact ⟨s1, h2, runO_eqv hr hs hS (erase_of hr hs e.symm).symm h3⟩
theorem runO_pre {s t : S} {l m : List α} (h : runO st s (l ++ m) = some t) : ∃ u, runO st s l = some u ∧ runO st u m = some t := by
 rw [runO_app, Option.bind_eq_some_iff] at h; exact h
/-- a turn leaves the state -/
theorem runO_turn {x y : α} (ht : ∀ {s s1 s2}, st s x = some s1 → st s1 y = some s2 → s2 = s) {s t : S} {u v : List α} (h : runO st s (u ++ x :: y :: v) = some t) : runO st s (u ++ v) = some t := by
 obtain ⟨s1, h1, h2⟩ := runO_pre h
 simp only [runO, Option.bind_eq_some_iff] at h2
 obtain ⟨s2, h3, s3, h4, h5⟩ := h2
 rw [ht h3 h4] at h5
 rw [runO_app, h1]; exact h5
end
/-! ### what two words have in common -/
/-- the first pair of letters with which both can begin, by their places -/
def share (D : α → α → Bool) (a b : List α) : Option α := (frs D [] a).find? fun x => free D x b
def bey (D : α → α → Bool) : Nat → List α → List α → List α → List α × List α × List α
 | 0, c, a, b => (c, a, b)
 | n + 1, c, a, b => match share D a b with
  | none => (c, a, b)
  | some x => bey D n (c ++ [x]) (a.erase x) (b.erase x)
structure Bey (D : α → α → Bool) (g h : List α) (r : List α × List α × List α) : Prop where
 left : Eqv D (r.1 ++ r.2.1) g
 right : Eqv D (r.1 ++ r.2.2) h
 apart : Apart D r.2.1 r.2.2
section
variable {g h : List α} {r : List α × List α × List α}
theorem Bey.pre2 (B : Bey D g h r) : Pre D r.1 h := ⟨_, B.right⟩
theorem Bey.great (hr : ∀ a, D a a = true) (hs : ∀ a b, D a b = D b a) (B : Bey D g h r) {k : List α} (k1 : Pre D k g) (k2 : Pre D k h) : Pre D k r.1 :=
 strip_common hr hs B.left B.right B.apart k1 k2
theorem Bey.begins (hr : ∀ a, D a a = true) (hs : ∀ a b, D a b = D b a) (B : Bey D g h r) : r.2.1 = [] ↔ Pre D g h := by
 constructor
 ·intro e
  have := B.left
  rw [e, List.append_nil] at this
  exact B.pre2.eqv this (Eqv.refl _)
 ·intro k
  have h1 : Pre D g r.1 := B.great hr hs (Pre.refl _) k
  have h2 := h1.len hr
  have h3 := B.left.len hr
  rw [List.length_append] at h3
  exact List.eq_nil_of_length_eq_zero (by omega)
/-- the least continuation -/
theorem Bey.least (hr : ∀ a, D a a = true) (hs : ∀ a b, D a b = D b a) (B : Bey D g h r) (hd : ∀ x ∈ r.2.1, ∀ y ∈ r.2.2, D x y = false) {k : List α} (k1 : Pre D g k) (k2 : Pre D h k) : Pre D (r.1 ++ (r.2.1 ++ r.2.2)) k := by
 have h1 := k1.eqv B.left.symm (Eqv.refl _)
 have h2 := k2.eqv B.right.symm (Eqv.refl _)
 obtain ⟨s, e⟩ := (Pre.left r.1 r.2.1).trans h1
 have h1' : Pre D r.2.1 s := Pre.cancel (h1.eqv (Eqv.refl _) e.symm)
 have h2' : Pre D r.2.2 s := Pre.cancel (h2.eqv (Eqv.refl _) e.symm)
 exact (Pre.app (join_least hr hs hd h1' h2')).eqv (Eqv.refl _) e
end
end Go.Tra
end
section
namespace Go.Proofs.YtccnkebkgegohaaGreatDoor
open Go.Tra
section
variable {α : Type} [DecidableEq α] {D : α → α → Bool}
theorem frs_snoc : ∀ (pre l : List α) (y : α), frs D pre (l ++ [y]) = frs D pre l ++ (if (pre ++ l).all (fun z => !D z y) then [y] else [])
 | pre, [], y => by simp [frs]
 | pre, x :: l, y => by
  have ih := frs_snoc (pre ++ [x]) l y
  simp only [List.append_assoc, List.cons_append, List.nil_append] at ih
  simp only [List.cons_append, frs, ih]
  split <;> simp
/-- a row of places, and what stands there -/
structure RowOf (D : α → α → Bool) (a : Int → α) (dep : Int → Int → Bool) (left : List Int) : Prop where
 nodup : left.Nodup
 same : ∀ i ∈ left, ∀ j ∈ left, dep i j = D (a i) (a j)
variable {a : Int → α} {dep : Int → Int → Bool} {left : List Int}
theorem RowOf.filter (h : RowOf D a dep left) (q : Int → Bool) : RowOf D a dep (left.filter q) where
 nodup := h.nodup.filter _
 same i hi j hj := h.same i ((List.mem_filter.1 hi).1) j ((List.mem_filter.1 hj).1)
theorem frs_rows (h : RowOf D a dep left) : ∀ k, k ≤ left.length → (freeUpto dep left k).map a = frs D [] ((left.take k).map a)
 | 0, _ => by simp [freeUpto, frs]
 | k + 1, hk => by
  have ih := frs_rows h k (by omega)
  have hx : left[k]? = some left[k] := by simp [show k < left.length by omega]
  have e0 : left.take (k + 1) = left.take k ++ [left[k]] := by rw [List.take_add_one, hx]; rfl
  have e : (left.take (k + 1)).map a = (left.take k).map a ++ [a left[k]] := by rw [e0, List.map_append]; rfl
  rw [e, frs_snoc, ← ih]
  have eg : left.getD k 0 = left[k] := by simp [show k < left.length by omega]
  rw [freeUpto, freeAt, eg]
  have eall : ((left.take k).any fun j => dep j left[k]) = !(([] ++ (left.take k).map a).all fun z => !D z (a left[k])) := by
   rw [List.nil_append, List.all_map]
   rw [List.any_eq_not_all_not]
   congr 1
   rw [Bool.eq_iff_iff, List.all_eq_true, List.all_eq_true]
   constructor
   ·intro hh x hx'; have := hh x hx'; rw [h.same x (List.mem_of_mem_take hx') _ (List.getElem_mem _)] at this; simpa using this
   ·intro hh x hx'; have := hh x hx'; rw [h.same x (List.mem_of_mem_take hx') _ (List.getElem_mem _)]; simpa using this
  rw [eall, Bool.not_not, apply_ite (List.map a), List.map_append]
  split <;> simp
theorem frs_row (h : RowOf D a dep left) : (freeUpto dep left left.length).map a = frs D [] (left.map a) := by
 have := frs_rows h left.length (Nat.le_refl _)
 rwa [List.take_length] at this
theorem freeUpto_split {m : Int} : ∀ k, k ≤ left.length → m ∈ freeUpto dep left k → ∃ pre suf, left = pre ++ m :: suf ∧ ∀ z ∈ pre, dep z m = false
 | 0, _, hm => by simp [freeUpto] at hm
 | k + 1, hk, hm => by
  rw [freeUpto] at hm
  have hx : left.getD k 0 = left[k] := by simp [show k < left.length by omega]
  split at hm
  ·next hf =>
   rcases List.mem_append.1 hm with hm | hm
   ·exact freeUpto_split k (by omega) hm
   ·have hm' : m = left[k] := by rw [hx] at hm; simpa using hm
    refine ⟨left.take k, left.drop (k + 1), ?_, ?_⟩
    ·rw [hm', List.getElem_cons_drop]; simp
    ·intro z hz
     unfold freeAt at hf
     rw [hx, ← hm'] at hf
     simp only [Bool.not_eq_true', List.any_eq_false] at hf
     simpa using hf z hz
  ·exact freeUpto_split k (by omega) hm
theorem filter_out {m : Int} {pre suf : List Int} (h : (pre ++ m :: suf).Nodup) : ((pre ++ m :: suf).filter fun y => !([m].contains y)) = pre ++ suf := by
 have h1 : ∀ z ∈ pre ++ suf, z ≠ m := by
  intro z hz e
  subst e
  rw [List.nodup_append] at h
  rcases List.mem_append.1 hz with hz | hz
  ·exact h.2.2 z hz z (List.mem_cons_self ..) rfl
  ·exact (List.nodup_cons.1 h.2.1).1 hz
 rw [List.filter_append, List.filter_cons_of_neg (by simp), ← List.filter_append]
 exact List.filter_eq_self.2 fun z hz => by simpa using h1 z hz
theorem erase_mid (hr : ∀ a, D a a = true) {x : α} {p s : List α} (h : ∀ z ∈ p, D z x = false) : (p ++ x :: s).erase x = p ++ s := by
 have : x ∉ p := fun hm => by have := h x hm; rw [hr] at this; cases this
 rw [List.erase_append_right _ this, List.erase_cons_head]
theorem drop_row (hr : ∀ a, D a a = true) (h : RowOf D a dep left) {m : Int} (hm : m ∈ freeUpto dep left left.length) : (left.filter fun y => !([m].contains y)).map a = (left.map a).erase (a m) := by
 obtain ⟨pre, suf, e, hd⟩ := freeUpto_split left.length (Nat.le_refl _) hm
 have hs := h.same
 have hn := h.nodup
 rw [e] at hn hs ⊢
 rw [filter_out hn, List.map_append, List.map_append, List.map_cons, erase_mid hr]
 intro z hz
 obtain ⟨i, hi, rfl⟩ := List.mem_map.1 hz
 rw [← hs i (by simp [hi]) m (by simp)]
 exact hd i hi
theorem minF_row {f : Int → Int → Int} {c : α → α → Int} (hf : ∀ i j, f i j = c (a i) (a j)) : ∀ (x : Int) (xs : List Int), a (minF f x xs) = minV c (a x) (xs.map a)
 | x, [] => rfl
 | x, y :: xs => by
  unfold minF
  simp only [List.map_cons, minV]
  rw [minF_row hf, hf]
  split <;> rfl
theorem minF_mem' {f : Int → Int → Int} : ∀ (x : Int) (xs : List Int), minF f x xs ∈ x :: xs
 | x, [] => by simp [minF]
 | x, y :: xs => by
  have := minF_mem' (f := f) (if f y x < 0 then y else x) xs
  unfold minF
  rcases List.mem_cons.1 this with h | h
  ·rw [h]; split <;> simp
  ·simp [h]
theorem leastI_row (hr : ∀ a, D a a = true) {f : Int → Int → Int} {c : α → α → Int} (hf : ∀ i j, f i j = c (a i) (a j)) : ∀ (n : Nat) {left : List Int}, RowOf D a dep left → (leastI dep f n left).map a = norm D c n (left.map a)
 | 0, _, _ => rfl
 | n + 1, left, h => by
  have e := frs_row h
  unfold leastI norm
  rw [← e]
  cases hfr : freeUpto dep left left.length with
  | nil => rfl
  | cons x xs =>
   simp only [List.map_cons]
   have hm : minF f x xs ∈ freeUpto dep left left.length := by rw [hfr]; exact minF_mem' x xs
   rw [leastI_row hr hf n (h.filter _), drop_row hr h hm, minF_row hf]
/-! turns -/
def remR (D : α → α → Bool) (iv : α → Option α) (x : α) : List α → Option (List α)
 | [] => none
 | y :: l => if iv x = some y then some l else if D x y then none else (remR D iv x l).map (y :: ·)
def turnL (D : α → α → Bool) (iv : α → Option α) : List α → Option (List α)
 | [] => none
 | x :: l => match remR D iv x l with
  | some l' => some l'
  | none => (turnL D iv l).map (x :: ·)
def reduceL (D : α → α → Bool) (iv : α → Option α) : Nat → List α → List α
 | 0, l => l
 | n + 1, l => match turnL D iv l with
  | none => l
  | some l' => reduceL D iv n l'
variable {iv : α → Option α} {tb : Int → Int → Bool}
/-! list level: what a turn's removal does -/
theorem remR_some {x : α} : ∀ {l l' : List α}, remR D iv x l = some l' → ∃ m y v, l = m ++ y :: v ∧ l' = m ++ v ∧ iv x = some y ∧ ∀ z ∈ m, D x z = false
 | y :: l, l', h => by
  unfold remR at h
  split at h
  ·next h1 => cases h; exact ⟨[], y, l, rfl, rfl, h1, by simp⟩
  ·split at h
   ·cases h
   ·next h1 h2 =>
    obtain ⟨l2, h3, rfl⟩ := Option.map_eq_some_iff.1 h
    obtain ⟨m, z, v, rfl, rfl, h4, h5⟩ := remR_some h3
    refine ⟨y :: m, z, v, rfl, rfl, h4, fun w hw => ?_⟩
    rcases List.mem_cons.1 hw with rfl | hw
    ·simpa using h2
    ·exact h5 w hw
theorem turnL_some : ∀ {l l' : List α}, turnL D iv l = some l' → ∃ u x m y v, l = u ++ x :: (m ++ y :: v) ∧ l' = u ++ (m ++ v) ∧ iv x = some y ∧ ∀ z ∈ m, D x z = false
 | x :: l, l', h => by
  unfold turnL at h
  split at h
  ·next l2 h1 =>
   cases h
   obtain ⟨m, y, v, rfl, rfl, h2, h3⟩ := remR_some h1
   exact ⟨[], x, m, y, v, rfl, rfl, h2, h3⟩
  ·obtain ⟨l2, h1, rfl⟩ := Option.map_eq_some_iff.1 h
   obtain ⟨u, z, m, y, v, rfl, rfl, h2, h3⟩ := turnL_some h1
   exact ⟨x :: u, z, m, y, v, rfl, rfl, h2, h3⟩
theorem turn_eqv (hs : ∀ a b, D a b = D b a) {u m v : List α} {x y : α} (h : ∀ z ∈ m, D x z = false) : Eqv D (u ++ x :: (m ++ y :: v)) ((u ++ m) ++ x :: y :: v) := by
 have h1 : Eqv D (x :: m) (m ++ [x]) := (Eqv.pass hs fun z hz => by rw [hs]; exact h z hz).symm
 have h2 := Eqv.app (Eqv.refl (D := D) u) (Eqv.app h1 (Eqv.refl (y :: v)))
 simpa using h2
section
variable {S : Type} {st : S → α → Option S}
theorem reduceL_run (hr : ∀ a, D a a = true) (hs : ∀ a b, D a b = D b a) (hS : StepsO D st) (ht : ∀ {x y s s1 s2}, iv x = some y → st s x = some s1 → st s1 y = some s2 → s2 = s) : ∀ {n : Nat} {l : List α} {s t : S}, runO st s l = some t → runO st s (reduceL D iv n l) = some t
 | 0, _, _, _, h => h
 | n + 1, l, s, t, h => by
  unfold reduceL
  cases hq : turnL D iv l with
  | none => exact h
  | some l' =>
   obtain ⟨u, x, m, y, v, rfl, rfl, h2, h3⟩ := turnL_some hq
   have h4 := runO_eqv hr hs hS (turn_eqv hs h3).symm h
   have h5 := runO_turn (fun h5 h6 => ht h2 h5 h6) h4
   rw [List.append_assoc] at h5
   exact reduceL_run hr hs hS ht h5
end
/-! two rows -/
variable {b : Int → α} {dep2 : Int → Int → Bool} {lb : List Int} {p : Int → Int → Bool}
end
end Go.Proofs.YtccnkebkgegohaaGreatDoor
end
section
namespace Go.Proofs.YtccnkebkgegohaaGreatDoor
open Go Go.Tra
/-! ### acts as letters -/
def depA (l : List Sol) (a b : Ac) : Bool := (acCells l a == acCells l b) || meetsB (acCells l a) (acCells l b)
def ivA (a : Ac) : Option Ac := if a.1 = 2 then some (3, a.2) else if a.1 = 3 then some (2, a.2) else none
theorem meetsB_comm (a b : Sol) : meetsB a b = meetsB b a := by unfold meetsB; rw [BitVec.and_comm]
theorem depA_refl (l : List Sol) (a : Ac) : depA l a a = true := by simp [depA]
theorem depA_symm (l : List Sol) (a b : Ac) : depA l a b = depA l b a := by
 unfold depA; rw [meetsB_comm, Bool.beq_comm]
theorem cells_iv {l : List Sol} {a b : Ac} (h : ivA a = some b) : acCells l b = acCells l a := by
 obtain ⟨k, p, s⟩ := a
 unfold ivA at h
 split at h
 ·next h1 => cases h; simp only at h1; subst h1; rfl
 ·split at h
  ·next h1 => cases h; simp only at h1; subst h1; rfl
  ·cases h
/-- an act's cells are not empty, where the pattern is as said and the act -/
theorem cells_ne {blank : Sol} {l : List Sol} (hp : chkPat blank l = 0) {a : Ac} (hf : fits l.length a = true) : acCells l a ≠ 0 := by
 unfold fits at hf
 unfold acCells
 split at hf
 ·next h1 => rw [if_pos h1]; simp at hf; exact hf.2
 ·next h1 =>
  rw [if_neg h1]
  simp at hf
  have hlt : a.2.1.toNat < l.length := by omega
  unfold chkPat at hp
  split at hp
  ·cases hp
  ·split at hp
   ·cases hp
   ·next h2 =>
    have hm : l[a.2.1.toNat] ∈ l := List.getElem_mem _
    intro h0
    have e : l.getD a.2.1.toNat 0 = l[a.2.1.toNat] := by simp [hlt]
    rw [e] at h0
    apply h2
    rw [Bool.or_eq_true, List.any_eq_true]
    exact .inr ⟨_, hm, by simp [h0]⟩
theorem depA_meets {l : List Sol} {a b : Ac} (ha : acCells l a ≠ 0) : depA l a b = meetsB (acCells l a) (acCells l b) := by
 unfold depA
 by_cases e : acCells l a = acCells l b
 ·rw [← e]
  have : meetsB (acCells l a) (acCells l a) = true := by unfold meetsB; rw [BitVec.and_self]; simpa using ha
  simp [this]
 ·have : (acCells l a == acCells l b) = false := by simpa using e
  rw [this, Bool.false_or]
/-! ### stands -/
theorem bits8 (op : BinOp) (x y : Int) : bits op .u8 x y = ((match op with
  | .and => BitVec.ofInt 8 x &&& BitVec.ofInt 8 y
  | .or => BitVec.ofInt 8 x ||| BitVec.ofInt 8 y
  | .xor => BitVec.ofInt 8 x ^^^ BitVec.ofInt 8 y
  | _ => BitVec.ofInt 8 x &&& ~~~BitVec.ofInt 8 y).toNat : Int) := by
 unfold bits IntKind.wrap
 simp only [IntKind.bits, IntKind.signed, Bool.false_and, Bool.false_eq_true, if_false]
 have : ∀ v : BitVec 8, ((v.toNat : Int) % 2 ^ 8) = (v.toNat : Int) := fun v => by have := v.isLt; omega
 exact this _
abbrev StB := Sol × BitVec 8
def bitB (a : Ac) : BitVec 8 := BitVec.ofInt 8 (bitOf a.2.1)
def stB (l : List Sol) (s : StB) (a : Ac) : Option StB :=
 if fits l.length a then
  (if a.1 = 1 then (if acCells l a &&& s.1 = acCells l a then some (s.1 &&& ~~~acCells l a, s.2) else none)
  else if a.1 = 2 then (if s.2 &&& bitB a = 0 ∧ acCells l a &&& s.1 = 0 then some (s.1 ||| acCells l a, s.2 ||| bitB a) else none)
  else (if s.2 &&& bitB a ≠ 0 ∧ acCells l a &&& s.1 = acCells l a then some (s.1 &&& ~~~acCells l a, s.2 &&& ~~~bitB a) else none))
 else none
def upI (s : StB) : Stn := (s.1, (s.2.toNat : Int))
theorem ofInt_toNat (v : BitVec 8) : BitVec.ofInt 8 (v.toNat : Int) = v := by simp
theorem refM1 (b : Int) (C wd : Sol) (o : Int) : refM (1, b, C) (wd, o) = if C &&& wd = C then 0 else 40 := by simp [refM]
theorem refM2 (b : Int) (C wd : Sol) (o : Int) : refM (2, b, C) (wd, o) = if bits .and .u8 o b = 0 then (if C &&& wd = 0 then 0 else 41) else 42 := by
 unfold refM meetsB
 dsimp only
 rw [if_neg (show ¬ (2 : Nat) = 1 by decide), if_pos rfl]
 by_cases h : bits .and .u8 o b = 0
 ·rw [if_pos h, h, if_neg (by decide)]
  by_cases h2 : C &&& wd = 0
  ·have e : (C &&& wd == 0#512) = true := beq_iff_eq.2 h2
   rw [if_pos h2, e]; rfl
  ·have e : (C &&& wd == 0#512) = false := beq_eq_false_iff_ne.2 h2
   rw [if_neg h2, e]; rfl
 ·have e : (bits .and .u8 o b != 0) = true := bne_iff_ne.2 h
  rw [if_pos e, if_neg h]
theorem refM3 (k : Nat) (h1 : k ≠ 1) (h2 : k ≠ 2) (b : Int) (C wd : Sol) (o : Int) : refM (k, b, C) (wd, o) = if bits .and .u8 o b = 0 then 42 else if C &&& wd = C then 0 else 40 := by
 simp [refM, h1, h2]
theorem next_B (l : List Sol) (s : StB) (a : Ac) : (∀ t, stB l s a = some t → nextM l (upI s) a = .inr (upI t)) ∧ (stB l s a = none → ∃ e, nextM l (upI s) a = .inl e) := by
 obtain ⟨k, p, c⟩ := a
 obtain ⟨wd, o⟩ := s
 unfold stB nextM
 by_cases hf : fits l.length (k, p, c) = true
 ·rw [if_pos hf, if_pos hf]
  generalize hc : acCells l (k, p, c) = C
  have hm : made l (k, p, c) = (k, if k = 1 then 0 else bitOf p, C) := by unfold made; rw [hc]
  have hu : upI (wd, o) = (wd, (o.toNat : Int)) := rfl
  rw [hm, hu]
  by_cases h1 : k = 1
  ·subst h1
   rw [refM1]
   have hd : doneM (1, if 1 = 1 then 0 else bitOf p, C) (wd, (o.toNat : Int)) = (wd &&& ~~~C, (o.toNat : Int)) := by simp [doneM]
   rw [hd]
   by_cases h2 : C &&& wd = C
   ·simp only [if_true, if_pos h2]
    exact ⟨fun t ht => by cases ht; rfl, fun h => by cases h⟩
   ·simp only [if_true, if_neg h2]
    exact ⟨fun t ht => (by cases ht), fun h => ⟨40, rfl⟩⟩
  ·have hbb : bitB (k, p, c) = BitVec.ofInt 8 (bitOf p) := rfl
   rw [hbb, if_neg h1]
   generalize hB : BitVec.ofInt 8 (bitOf p) = B
   have hz : ∀ v : BitVec 8, ((v.toNat : Int) = 0) ↔ v = 0 := fun v => by
    constructor
    ·intro h; apply BitVec.eq_of_toNat_eq; simpa using h
    ·intro h; subst h; rfl
   have hand : bits .and .u8 (o.toNat : Int) (bitOf p) = ((o &&& B).toNat : Int) := by rw [bits8, ofInt_toNat, hB]
   have hor : bits .or .u8 (o.toNat : Int) (bitOf p) = ((o ||| B).toNat : Int) := by rw [bits8, ofInt_toNat, hB]
   have hnot : bits .andNot .u8 (o.toNat : Int) (bitOf p) = ((o &&& ~~~B).toNat : Int) := by rw [bits8, ofInt_toNat, hB]
   by_cases h2 : k = 2
   ·subst h2
    have hd : doneM (2, bitOf p, C) (wd, (o.toNat : Int)) = (wd ||| C, ((o ||| B).toNat : Int)) := by simp [doneM, hor]
    rw [if_neg h1, refM2, hd, hand]
    simp only [if_true, hz]
    by_cases h3 : o &&& B = 0
    ·by_cases h4 : C &&& wd = 0
     ·simp only [h3, h4, if_true, and_self]
      exact ⟨fun t ht => by cases ht; rfl, fun h => by cases h⟩
     ·simp only [h3, h4, if_true, and_false, if_false]
      exact ⟨fun t ht => (by cases ht), fun h => ⟨41, rfl⟩⟩
    ·simp only [h3, false_and, if_false]
     exact ⟨fun t ht => (by cases ht), fun h => ⟨42, rfl⟩⟩
   ·have hd : doneM (k, bitOf p, C) (wd, (o.toNat : Int)) = (wd &&& ~~~C, ((o &&& ~~~B).toNat : Int)) := by simp [doneM, h1, h2, hnot]
    rw [if_neg h1, if_neg h2, refM3 k h1 h2, hd, hand]
    simp only [hz]
    by_cases h3 : o &&& B = 0
    ·simp only [h3, if_true, ne_eq, not_true, false_and, if_false]
     exact ⟨fun t ht => (by cases ht), fun h => ⟨42, rfl⟩⟩
    ·by_cases h4 : C &&& wd = C
     ·simp only [h3, h4, if_true, if_false, ne_eq, not_false_iff, and_self]
      exact ⟨fun t ht => by cases ht; rfl, fun h => by cases h⟩
     ·simp only [h3, h4, if_false, and_false]
      exact ⟨fun t ht => (by cases ht), fun h => ⟨40, rfl⟩⟩
 ·rw [if_neg hf, if_neg hf]
  exact ⟨fun t ht => (by cases ht), fun h => ⟨1, rfl⟩⟩
theorem run_B (l : List Sol) : ∀ (acts : List Ac) (k : Nat) (s : StB), (∀ t, runO (stB l) s acts = some t → runM l k (upI s) acts = .inr (upI t)) ∧ (runO (stB l) s acts = none → ∃ x, runM l k (upI s) acts = .inl x)
 | [], k, s => ⟨fun t ht => by cases ht; rfl, fun h => by cases h⟩
 | a :: rest, k, s => by
  obtain ⟨h1, h2⟩ := next_B l s a
  unfold runO runM
  cases hst : stB l s a with
  | none =>
   obtain ⟨e, he⟩ := h2 hst
   rw [he]
   exact ⟨fun t ht => (by cases ht), fun _ => ⟨_, rfl⟩⟩
  | some t =>
   rw [h1 t hst]
   exact run_B l rest (k + 1) t
/-- a history is good exactly if it runs -/
theorem begun_run {blank : Sol} {l : List Sol} (hp : chkPat blank l = 0) {acts : List Ac} (hn : acts.length ≤ 60) :
  (∀ t, runO (stB l) (blank, 0) acts = some t → begunM blank l acts = .inr (upI t)) ∧ (∀ s, begunM blank l acts = .inr s → ∃ t, runO (stB l) (blank, 0) acts = some t ∧ s = upI t) := by
 obtain ⟨h1, h2⟩ := run_B l acts 0 (blank, 0)
 have e : upI (blank, 0) = (blank, 0) := rfl
 rw [e] at h1 h2
 unfold begunM
 rw [if_pos hp, if_pos hn]
 refine ⟨h1, fun s hs => ?_⟩
 cases hr : runO (stB l) (blank, 0) acts with
 | none => obtain ⟨x, hx⟩ := h2 hr; rw [hx] at hs; cases hs
 | some t => rw [h1 t hr] at hs; cases hs; exact ⟨t, rfl, rfl⟩
theorem stB_fits {l : List Sol} {s t : StB} {a : Ac} (h : stB l s a = some t) : fits l.length a = true := by
 unfold stB at h
 split at h
 ·assumption
 ·cases h
theorem run_fits {l : List Sol} : ∀ {acts : List Ac} {s t : StB}, runO (stB l) s acts = some t → ∀ a ∈ acts, fits l.length a = true
 | [], _, _, _, _, h => by cases h
 | x :: acts, s, t, h, a, ha => by
  simp only [runO, Option.bind_eq_some_iff] at h
  obtain ⟨s1, h1, h2⟩ := h
  rcases List.mem_cons.1 ha with rfl | ha
  ·exact stB_fits h1
  ·exact run_fits h2 a ha
theorem bit_apart : ∀ p q : Fin 8, p ≠ q → BitVec.ofInt 8 (2 ^ p.1) &&& BitVec.ofInt 8 (2 ^ q.1) = 0 := by decide
/-- acts that hang not together, both of kept pieces: other bits -/
theorem bits_apart {l : List Sol} (h8 : l.length ≤ 8) {a b : Ac} (ha : fits l.length a = true) (hb : fits l.length b = true) (h1 : a.1 ≠ 1) (h2 : b.1 ≠ 1) (hd : depA l a b = false) : bitB a &&& bitB b = 0 := by
 unfold fits at ha hb
 rw [if_neg h1] at ha
 rw [if_neg h2] at hb
 simp only [Bool.and_eq_true, Bool.or_eq_true, beq_iff_eq, decide_eq_true_eq] at ha hb
 have hne : a.2.1.toNat ≠ b.2.1.toNat := by
  intro e
  unfold depA acCells at hd
  rw [if_neg h1, if_neg h2, e] at hd
  simp at hd
 exact bit_apart ⟨a.2.1.toNat, by omega⟩ ⟨b.2.1.toNat, by omega⟩ (by simpa using hne)
theorem cells_apart {l : List Sol} {a b : Ac} (hd : depA l a b = false) : acCells l a &&& acCells l b = 0 := by
 unfold depA meetsB at hd
 simp at hd
 exact hd.2
section bitlemmas
variable {n : Nat}
theorem bv_ext {x y : BitVec n} (h : ∀ i, x.getLsbD i = y.getLsbD i) : x = y := BitVec.eq_of_getLsbD_eq fun i _ => h i
theorem bv_sub {x y : BitVec n} : x &&& y = x ↔ ∀ i, x.getLsbD i = true → y.getLsbD i = true := by
 constructor
 ·intro h i hi
  have := congrArg (fun z => z.getLsbD i) h
  simp only [BitVec.getLsbD_and, hi, Bool.true_and] at this
  exact this
 ·intro h
  apply bv_ext
  intro i
  rw [BitVec.getLsbD_and]
  cases hx : x.getLsbD i with
  | false => rfl
  | true => rw [h i hx]; rfl
theorem bv_no {x y : BitVec n} : x &&& y = 0 ↔ ∀ i, x.getLsbD i = true → y.getLsbD i = false := by
 constructor
 ·intro h i hi
  have := congrArg (fun z => z.getLsbD i) h
  simp only [BitVec.getLsbD_and, hi, Bool.true_and] at this
  simpa using this
 ·intro h
  apply bv_ext
  intro i
  rw [BitVec.getLsbD_and]
  cases hx : x.getLsbD i with
  | false => simp
  | true => rw [h i hx]; simp
theorem not_lsb (x : BitVec n) {i : Nat} (hi : i < n) : (~~~x).getLsbD i = !x.getLsbD i := by simp [BitVec.getLsbD_not, hi]
end bitlemmas
end Go.Proofs.YtccnkebkgegohaaGreatDoor
end
section
namespace Go.Proofs.YtccnkebkgegohaaGreatDoor
open Go Go.Tra
/-! acts that hang not together can change places, and both be done -/
theorem stB_cut {l : List Sol} {s : StB} {a : Ac} (hf : fits l.length a = true) (h1 : a.1 = 1) : stB l s a = if acCells l a &&& s.1 = acCells l a then some (s.1 &&& ~~~acCells l a, s.2) else none := by
 unfold stB; rw [if_pos hf, if_pos h1]
theorem stB_fit {l : List Sol} {s : StB} {a : Ac} (hf : fits l.length a = true) (h2 : a.1 = 2) : stB l s a = if s.2 &&& bitB a = 0 ∧ acCells l a &&& s.1 = 0 then some (s.1 ||| acCells l a, s.2 ||| bitB a) else none := by
 unfold stB; rw [if_pos hf, if_neg (by omega), if_pos h2]
theorem stB_take {l : List Sol} {s : StB} {a : Ac} (hf : fits l.length a = true) (h3 : a.1 = 3) : stB l s a = if s.2 &&& bitB a ≠ 0 ∧ acCells l a &&& s.1 = acCells l a then some (s.1 &&& ~~~acCells l a, s.2 &&& ~~~bitB a) else none := by
 unfold stB; rw [if_pos hf, if_neg (by omega), if_neg (by omega)]
theorem fits_kindA {n : Nat} {a : Ac} (hf : fits n a = true) : a.1 = 1 ∨ a.1 = 2 ∨ a.1 = 3 := by
 unfold fits at hf
 split at hf
 ·exact .inl (by assumption)
 ·simp only [Bool.and_eq_true, Bool.or_eq_true, beq_iff_eq] at hf
  rcases hf.1.1.1 with h | h
  ·exact .inr (.inl h)
  ·exact .inr (.inr h)
/-- what an act asks and does, as sets: cells that must be there, that must not; bits likewise -/
structure Act1 where
 need : Sol
 ban : Sol
 add : Sol
 del : Sol
 bneed : BitVec 8
 bban : BitVec 8
 badd : BitVec 8
 bdel : BitVec 8
def Act1.ok (x : Act1) (s : StB) : Prop := x.need &&& s.1 = x.need ∧ x.ban &&& s.1 = 0 ∧ x.bneed &&& s.2 = x.bneed ∧ x.bban &&& s.2 = 0
def Act1.go (x : Act1) (s : StB) : StB := ((s.1 ||| x.add) &&& ~~~x.del, (s.2 ||| x.badd) &&& ~~~x.bdel)
theorem no0 {n : Nat} {p : Prop} {i : Nat} (h : (0 : BitVec n).getLsbD i = true) : p := by simp at h
theorem bv_full {n : Nat} (x : BitVec n) : x &&& ~~~0 = x := by
 apply BitVec.eq_of_getLsbD_eq
 intro i hi
 rw [BitVec.getLsbD_and, BitVec.getLsbD_not]
 simp [hi]
theorem bv_or0 {n : Nat} (x : BitVec n) : x ||| 0 = x := by
 apply BitVec.eq_of_getLsbD_eq
 intro i hi
 rw [BitVec.getLsbD_or]; simp
theorem bv_0and {n : Nat} (x : BitVec n) : 0 &&& x = 0 := by
 apply BitVec.eq_of_getLsbD_eq
 intro i hi
 rw [BitVec.getLsbD_and]; simp
structure Act1.in (x : Act1) (c : Sol) (b : BitVec 8) : Prop where
 need : ∀ i, x.need.getLsbD i = true → c.getLsbD i = true
 ban : ∀ i, x.ban.getLsbD i = true → c.getLsbD i = true
 add : ∀ i, x.add.getLsbD i = true → c.getLsbD i = true
 del : ∀ i, x.del.getLsbD i = true → c.getLsbD i = true
 bneed : ∀ i, x.bneed.getLsbD i = true → b.getLsbD i = true
 bban : ∀ i, x.bban.getLsbD i = true → b.getLsbD i = true
 badd : ∀ i, x.badd.getLsbD i = true → b.getLsbD i = true
 bdel : ∀ i, x.bdel.getLsbD i = true → b.getLsbD i = true
section
variable {n : Nat}
theorem sub_go {nd s ad dl c : BitVec n} (hn : ∀ i, nd.getLsbD i = true → c.getLsbD i = true) (ha : ∀ i, ad.getLsbD i = true → c.getLsbD i = false) (hd : ∀ i, dl.getLsbD i = true → c.getLsbD i = false) :
  nd &&& ((s ||| ad) &&& ~~~dl) = nd ↔ nd &&& s = nd := by
 rw [bv_sub, bv_sub]
 constructor
 ·intro h i hi
  have hlt : i < n := by
   cases Nat.lt_or_ge i n with
   | inl h => exact h
   | inr h => rw [BitVec.getLsbD_of_ge _ _ h] at hi; cases hi
  have := h i hi
  rw [BitVec.getLsbD_and, BitVec.getLsbD_or, not_lsb _ hlt] at this
  have hc := hn i hi
  cases hx : ad.getLsbD i with
  | true => rw [ha i hx] at hc; cases hc
  | false => rw [hx] at this; simp at this; exact this.1
 ·intro h i hi
  have hlt : i < n := by
   cases Nat.lt_or_ge i n with
   | inl h => exact h
   | inr h => rw [BitVec.getLsbD_of_ge _ _ h] at hi; cases hi
  rw [BitVec.getLsbD_and, BitVec.getLsbD_or, not_lsb _ hlt, h i hi]
  have hc := hn i hi
  cases hx : dl.getLsbD i with
  | true => rw [hd i hx] at hc; cases hc
  | false => rfl
theorem no_go {nd s ad dl c : BitVec n} (hn : ∀ i, nd.getLsbD i = true → c.getLsbD i = true) (ha : ∀ i, ad.getLsbD i = true → c.getLsbD i = false) (hd : ∀ i, dl.getLsbD i = true → c.getLsbD i = false) :
  nd &&& ((s ||| ad) &&& ~~~dl) = 0 ↔ nd &&& s = 0 := by
 rw [bv_no, bv_no]
 constructor
 ·intro h i hi
  have hlt : i < n := by
   cases Nat.lt_or_ge i n with
   | inl h => exact h
   | inr h => rw [BitVec.getLsbD_of_ge _ _ h] at hi; cases hi
  have := h i hi
  rw [BitVec.getLsbD_and, BitVec.getLsbD_or, not_lsb _ hlt] at this
  have hc := hn i hi
  cases hx : dl.getLsbD i with
  | true => rw [hd i hx] at hc; cases hc
  | false => rw [hx] at this; simp at this; exact this.1
 ·intro h i hi
  have hlt : i < n := by
   cases Nat.lt_or_ge i n with
   | inl h => exact h
   | inr h => rw [BitVec.getLsbD_of_ge _ _ h] at hi; cases hi
  rw [BitVec.getLsbD_and, BitVec.getLsbD_or, not_lsb _ hlt, h i hi]
  have hc := hn i hi
  cases hx : ad.getLsbD i with
  | true => rw [ha i hx] at hc; cases hc
  | false => rfl
theorem go_bool : ∀ S A B E F G H : Bool, (!A || G) = true → (!B || G) = true → (!E || H) = true → (!F || H) = true → (!G || !H) = true → ((((S || A) && !B) || E) && !F) = ((((S || E) && !F) || A) && !B) := by decide
theorem imp_bool {a b : Bool} (h : a = true → b = true) : (!a || b) = true := by
 cases a
 ·rfl
 ·rw [h rfl]; rfl
theorem go_go {s a1 d1 a2 d2 c e : BitVec n} (h1 : ∀ i, a1.getLsbD i = true → c.getLsbD i = true) (h2 : ∀ i, d1.getLsbD i = true → c.getLsbD i = true) (h3 : ∀ i, a2.getLsbD i = true → e.getLsbD i = true) (h4 : ∀ i, d2.getLsbD i = true → e.getLsbD i = true) (hce : ∀ i, c.getLsbD i = true → e.getLsbD i = false) :
  (((s ||| a1) &&& ~~~d1) ||| a2) &&& ~~~d2 = (((s ||| a2) &&& ~~~d2) ||| a1) &&& ~~~d1 := by
 apply BitVec.eq_of_getLsbD_eq
 intro i hi
 simp only [BitVec.getLsbD_and, BitVec.getLsbD_or, not_lsb _ hi]
 exact go_bool _ _ _ _ _ (c.getLsbD i) (e.getLsbD i) (imp_bool (h1 i)) (imp_bool (h2 i)) (imp_bool (h3 i)) (imp_bool (h4 i)) (imp_bool fun h => by rw [hce i h]; rfl)
end
structure okA (x : Act1) (a : Ac) (s : StB) : Prop where
 c1 : x.need &&& s.1 = x.need
 c2 : x.ban &&& s.1 = 0
 c3 : if a.1 = 3 then s.2 &&& bitB a ≠ 0 else True
 c4 : x.bban &&& s.2 = 0
theorem ite_some {α : Type} {p : Prop} [Decidable p] {x t : α} : (if p then some x else none) = some t ↔ p ∧ t = x := by
 by_cases h : p
 ·rw [if_pos h, Option.some.injEq]; exact ⟨fun e => ⟨h, e.symm⟩, fun e => e.2.symm⟩
 ·rw [if_neg h]; exact ⟨fun e => (by cases e), fun e => absurd e.1 h⟩
theorem go_cut (c : Sol) (s : StB) : Act1.go ⟨c, 0, 0, c, 0, 0, 0, 0⟩ s = (s.1 &&& ~~~c, s.2) := by
 unfold Act1.go; dsimp only; rw [bv_or0, bv_or0, bv_full]
theorem go_fit (c : Sol) (b : BitVec 8) (s : StB) : Act1.go ⟨0, c, c, 0, 0, b, b, 0⟩ s = (s.1 ||| c, s.2 ||| b) := by
 unfold Act1.go; dsimp only; rw [bv_full, bv_full]
theorem go_take (c : Sol) (b : BitVec 8) (s : StB) : Act1.go ⟨c, 0, 0, c, 0, 0, 0, b⟩ s = (s.1 &&& ~~~c, s.2 &&& ~~~b) := by
 unfold Act1.go; dsimp only; rw [bv_or0, bv_or0]
theorem act1 {l : List Sol} {a : Ac} (hf : fits l.length a = true) : ∃ x : Act1, (∀ s t, stB l s a = some t ↔ okA x a s ∧ t = x.go s) ∧ x.in (acCells l a) (if a.1 = 1 then 0 else bitB a) := by
 rcases fits_kindA hf with h | h | h
 ·refine ⟨⟨acCells l a, 0, 0, acCells l a, 0, 0, 0, 0⟩, fun s t => ?_, ⟨fun i h => h, fun i h => no0 h, fun i h => no0 h, fun i h => h, fun i h => no0 h, fun i h => no0 h, fun i h => no0 h, fun i h => no0 h⟩⟩
  rw [stB_cut hf h, go_cut, ite_some]
  exact ⟨fun e => ⟨⟨e.1, bv_0and _, by rw [if_neg (by omega)]; trivial, bv_0and _⟩, e.2⟩, fun e => ⟨e.1.c1, e.2⟩⟩
 ·refine ⟨⟨0, acCells l a, acCells l a, 0, 0, bitB a, bitB a, 0⟩, fun s t => ?_, ?_⟩
  ·rw [stB_fit hf h, go_fit, ite_some]
   exact ⟨fun e => ⟨⟨bv_0and _, e.1.2, by rw [if_neg (by omega)]; trivial, by rw [BitVec.and_comm]; exact e.1.1⟩, e.2⟩, fun e => ⟨⟨by rw [BitVec.and_comm]; exact e.1.c4, e.1.c2⟩, e.2⟩⟩
  ·rw [if_neg (by omega)]
   exact ⟨fun i h => no0 h, fun i h => h, fun i h => h, fun i h => no0 h, fun i h => no0 h, fun i h => h, fun i h => h, fun i h => no0 h⟩
 ·refine ⟨⟨acCells l a, 0, 0, acCells l a, 0, 0, 0, bitB a⟩, fun s t => ?_, ?_⟩
  ·rw [stB_take hf h, go_take, ite_some]
   exact ⟨fun e => ⟨⟨e.1.2, bv_0and _, by rw [if_pos h]; exact e.1.1, bv_0and _⟩, e.2⟩, fun e => ⟨⟨by have := e.1.c3; rw [if_pos h] at this; exact this, e.1.c1⟩, e.2⟩⟩
  ·rw [if_neg (by omega)]
   exact ⟨fun i h => h, fun i h => no0 h, fun i h => no0 h, fun i h => h, fun i h => no0 h, fun i h => no0 h, fun i h => no0 h, fun i h => h⟩
/-- they do nothing to each other -/
theorem act_other {l : List Sol} {a b : Ac} {x y : Act1} {ca cb : BitVec 8} (hx : x.in (acCells l a) ca) (hy : y.in (acCells l b) cb) (hc : acCells l a &&& acCells l b = 0) (hb : ca &&& cb = 0) (s : StB) :
  (y.need &&& (x.go s).1 = y.need ↔ y.need &&& s.1 = y.need) ∧ (y.ban &&& (x.go s).1 = 0 ↔ y.ban &&& s.1 = 0) ∧ (y.bban &&& (x.go s).2 = 0 ↔ y.bban &&& s.2 = 0) := by
 have h1 := bv_no.1 hc
 have h2 := bv_no.1 hb
 have e1 : ∀ i, x.add.getLsbD i = true → (acCells l b).getLsbD i = false := fun i h => h1 i (hx.add i h)
 have e2 : ∀ i, x.del.getLsbD i = true → (acCells l b).getLsbD i = false := fun i h => h1 i (hx.del i h)
 have e3 : ∀ i, x.badd.getLsbD i = true → cb.getLsbD i = false := fun i h => h2 i (hx.badd i h)
 have e4 : ∀ i, x.bdel.getLsbD i = true → cb.getLsbD i = false := fun i h => h2 i (hx.bdel i h)
 exact ⟨sub_go hy.need e1 e2, no_go hy.ban e1 e2, no_go hy.bban e3 e4⟩
theorem go_comm {l : List Sol} {a b : Ac} {x y : Act1} {ca cb : BitVec 8} (hx : x.in (acCells l a) ca) (hy : y.in (acCells l b) cb) (hc : acCells l a &&& acCells l b = 0) (hb : ca &&& cb = 0) (s : StB) : y.go (x.go s) = x.go (y.go s) := by
 unfold Act1.go
 exact Prod.ext (go_go hx.add hx.del hy.add hy.del (bv_no.1 hc)) (go_go hx.badd hx.bdel hy.badd hy.bdel (bv_no.1 hb))
theorem bits_ok {l : List Sol} (h8 : l.length ≤ 8) {a b : Ac} (ha : fits l.length a = true) (hb : fits l.length b = true) (hd : depA l a b = false) : (if a.1 = 1 then 0 else bitB a) &&& (if b.1 = 1 then 0 else bitB b) = 0 := by
 by_cases h1 : a.1 = 1
 ·rw [if_pos h1, bv_0and]
 ·by_cases h2 : b.1 = 1
  ·rw [if_pos h2, BitVec.and_comm, bv_0and]
  ·rw [if_neg h1, if_neg h2]; exact bits_apart h8 ha hb h1 h2 hd
/-- the bit of a piece is as it was -/
theorem on_other {l : List Sol} (h8 : l.length ≤ 8) {a b : Ac} (ha : fits l.length a = true) (hb : fits l.length b = true) (hd : depA l a b = false) {x : Act1} (hx : x.in (acCells l a) (if a.1 = 1 then 0 else bitB a)) (s : StB) :
  (if b.1 = 3 then (x.go s).2 &&& bitB b ≠ 0 else True) ↔ (if b.1 = 3 then s.2 &&& bitB b ≠ 0 else True) := by
 by_cases h3 : b.1 = 3
 ·rw [if_pos h3, if_pos h3]
  have h2 := bv_no.1 (bits_ok h8 ha hb hd)
  rw [if_neg (show ¬ b.1 = 1 by omega)] at h2
  have e3 : ∀ i, x.badd.getLsbD i = true → (bitB b).getLsbD i = false := fun i h => h2 i (hx.badd i h)
  have e4 : ∀ i, x.bdel.getLsbD i = true → (bitB b).getLsbD i = false := fun i h => h2 i (hx.bdel i h)
  have := no_go (nd := bitB b) (s := s.2) (fun i h => h) e3 e4
  rw [BitVec.and_comm, BitVec.and_comm s.2]
  exact not_congr this
 ·rw [if_neg h3, if_neg h3]
theorem stepsA {l : List Sol} (h8 : l.length ≤ 8) : StepsO (depA l) (stB l) where
 swap {s s1 s2 a b} hd h1 h2 := by
  have fa := stB_fits h1
  have fb := stB_fits h2
  obtain ⟨x, ex, ix⟩ := act1 fa
  obtain ⟨y, ey, iy⟩ := act1 fb
  have hd' : depA l b a = false := by rw [depA_symm]; exact hd
  obtain ⟨c1, rfl⟩ := (ex _ _).1 h1
  obtain ⟨c2, rfl⟩ := (ey _ _).1 h2
  have o1 := act_other ix iy (cells_apart hd) (bits_ok h8 fa fb hd) s
  have o2 := act_other iy ix (cells_apart hd') (bits_ok h8 fb fa hd') s
  have p1 := on_other h8 fa fb hd ix s
  have p2 := on_other h8 fb fa hd' iy s
  exact ⟨y.go s, (ey _ _).2 ⟨⟨o1.1.1 c2.c1, o1.2.1.1 c2.c2, p1.1 c2.c3, o1.2.2.1 c2.c4⟩, rfl⟩, (ex _ _).2 ⟨⟨o2.1.2 c1.c1, o2.2.1.2 c1.c2, p2.2 c1.c3, o2.2.2.2 c1.c4⟩, go_comm ix iy (cells_apart hd) (bits_ok h8 fa fb hd) s⟩⟩
 join {s s1 s2 a b} hd h1 h2 := by
  have fa := stB_fits h1
  have fb := stB_fits h2
  obtain ⟨x, ex, ix⟩ := act1 fa
  obtain ⟨y, ey, iy⟩ := act1 fb
  obtain ⟨c1, rfl⟩ := (ex _ _).1 h1
  obtain ⟨c2, rfl⟩ := (ey _ _).1 h2
  have o1 := act_other ix iy (cells_apart hd) (bits_ok h8 fa fb hd) s
  have p1 := on_other h8 fa fb hd ix s
  exact ⟨_, (ey _ _).2 ⟨⟨o1.1.2 c2.c1, o1.2.1.2 c2.c2, p1.2 c2.c3, o1.2.2.2 c2.c4⟩, rfl⟩⟩
section
variable {n : Nat}
theorem add_del {s c : BitVec n} (h : c &&& s = 0) : (s ||| c) &&& ~~~c = s := by
 apply BitVec.eq_of_getLsbD_eq
 intro i hi
 rw [BitVec.getLsbD_and, BitVec.getLsbD_or, not_lsb _ hi]
 have := bv_no.1 h i
 revert this
 cases c.getLsbD i <;> cases s.getLsbD i <;> simp
theorem del_add {s c : BitVec n} (h : c &&& s = c) : (s &&& ~~~c) ||| c = s := by
 apply BitVec.eq_of_getLsbD_eq
 intro i hi
 rw [BitVec.getLsbD_or, BitVec.getLsbD_and, not_lsb _ hi]
 have := bv_sub.1 h i
 revert this
 cases c.getLsbD i <;> cases s.getLsbD i <;> simp
end
theorem bit_in : ∀ (p : Fin 8) (o : BitVec 8), o &&& BitVec.ofInt 8 (2 ^ p.1) ≠ 0 → BitVec.ofInt 8 (2 ^ p.1) &&& o = BitVec.ofInt 8 (2 ^ p.1) := by decide +kernel
/-- what is fitted and taken, or taken and fitted, is as it was -/
theorem turnA {l : List Sol} (h8 : l.length ≤ 8) {x y : Ac} {s s1 s2 : StB} (hi : ivA x = some y) (h1 : stB l s x = some s1) (h2 : stB l s1 y = some s2) : s2 = s := by
 have fx := stB_fits h1
 have fy := stB_fits h2
 have hc := cells_iv (l := l) hi
 have hbit : bitB y = bitB x := by
  obtain ⟨k, p, c⟩ := x
  unfold ivA at hi
  split at hi
  ·cases hi; rfl
  ·split at hi
   ·cases hi; rfl
   ·cases hi
 have hbin : ∀ o : BitVec 8, x.1 ≠ 1 → o &&& bitB x ≠ 0 → bitB x &&& o = bitB x := by
  intro o hx1 ho
  unfold fits at fx
  rw [if_neg hx1] at fx
  simp only [Bool.and_eq_true, Bool.or_eq_true, beq_iff_eq, decide_eq_true_eq] at fx
  exact bit_in ⟨x.2.1.toNat, by omega⟩ o ho
 rcases fits_kindA fx with k | k | k
 ·unfold ivA at hi; rw [if_neg (by omega), if_neg (by omega)] at hi; cases hi
 ·have ky : y.1 = 3 := by unfold ivA at hi; rw [if_pos k] at hi; cases hi; rfl
  rw [stB_fit fx k] at h1
  rw [stB_take fy ky, hc, hbit] at h2
  split at h1
  ·next c1 =>
   cases h1
   split at h2
   ·cases h2
    exact Prod.ext (add_del c1.2) (add_del (by rw [BitVec.and_comm]; exact c1.1))
   ·cases h2
  ·cases h1
 ·have ky : y.1 = 2 := by unfold ivA at hi; rw [if_neg (by omega), if_pos k] at hi; cases hi; rfl
  rw [stB_take fx k] at h1
  rw [stB_fit fy ky, hc, hbit] at h2
  split at h1
  ·next c1 =>
   cases h1
   split at h2
   ·cases h2
    exact Prod.ext (del_add c1.2) (del_add (hbin _ (by omega) c1.1))
   ·cases h2
  ·cases h1
end Go.Proofs.YtccnkebkgegohaaGreatDoor
end
section
namespace Go.Proofs.YtccnkebkgegohaaGreatDoor
open Go Go.Tra
/-! ### the order of acts is one -/
theorem cmpI_lt {a b : Int} : cmpI a b < 0 ↔ a < b := by unfold cmpI; split <;> (try split) <;> omega
theorem cmpI_zero {a b : Int} : cmpI a b = 0 ↔ a = b := by unfold cmpI; split <;> (try split) <;> omega
def keyA (a : Ac) : List Int := (a.1 : Int) :: a.2.1 :: planes a.2.2
theorem cmpA_key (a b : Ac) : cmpA a b = cmpL (keyA a) (keyA b) := by
 unfold cmpA or3 keyA
 rw [cmpL, cmpL]
theorem key_inj {a b : Ac} (h : keyA a = keyA b) : a = b := by
 obtain ⟨k, p, s⟩ := a
 obtain ⟨k', p', s'⟩ := b
 unfold keyA planes at h
 simp only [List.cons.injEq, and_true] at h
 obtain ⟨h1, h2, q0, q1, q2, q3, q4, q5, q6, q7⟩ := h
 have e1 : k = k' := by omega
 have e2 : s = s' := sol_ext fun j hj => match j, hj with
  | 0, _ => pl_eq.1 q0
  | 1, _ => pl_eq.1 q1
  | 2, _ => pl_eq.1 q2
  | 3, _ => pl_eq.1 q3
  | 4, _ => pl_eq.1 q4
  | 5, _ => pl_eq.1 q5
  | 6, _ => pl_eq.1 q6
  | 7, _ => pl_eq.1 q7
  | n + 8, h => absurd h (by omega)
 rw [e1, h2, e2]
theorem key_len (a : Ac) : (keyA a).length = 10 := rfl
theorem cmpL_lt : ∀ {x y : List Int}, x.length = y.length → (cmpL x y < 0 ↔ x < y)
 | [], [], _ => by simp [cmpL]
 | a :: x, b :: y, h => by
  have ih := cmpL_lt (x := x) (y := y) (by simpa using h)
  unfold cmpL
  rw [List.cons_lt_cons_iff]
  by_cases e : a = b
  ·subst e
   rw [if_pos (cmpI_zero.2 rfl), ih]
   simp
  ·rw [if_neg (by rw [cmpI_zero]; exact e), cmpI_lt]
   simp [e]
theorem cmpA_lt {a b : Ac} : cmpA a b < 0 ↔ keyA a < keyA b := by rw [cmpA_key]; exact cmpL_lt ((key_len a).trans (key_len b).symm)
theorem cmpA_ok : Cmp cmpA where
 asym {a b} h := by rw [cmpA_lt] at h ⊢; exact List.lt_asymm h
 tot {a b} h := by
  rw [cmpA_lt, cmpA_lt]
  rcases Std.lt_trichotomy (keyA a) (keyA b) with h1 | h1 | h1
  ·exact .inl h1
  ·exact absurd (key_inj h1) h
  ·exact .inr h1
 tr {a b c} h k := by rw [cmpA_lt] at h k ⊢; exact List.lt_trans h k
/-! ### rows of places in a good history -/
abbrev atA (acts : List Ac) (i : Int) : Ac := acts.getD i.toNat (0, 0, 0)
theorem upto_nodup (n : Nat) : (upto n).Nodup := by
 unfold upto List.Nodup
 rw [List.pairwise_map]
 exact List.nodup_range.imp fun h e => h (by omega)
theorem upto_map (acts : List Ac) : (upto acts.length).map (atA acts) = acts := by
 apply List.ext_getElem?
 intro i
 unfold upto
 rw [List.map_map, List.getElem?_map]
 by_cases h : i < acts.length
 ·rw [List.getElem?_range h]; simp [h]
 ·rw [List.getElem?_eq_none (by simpa using h)]; simp; omega
/-- every act is as said, in a pattern that is -/
structure Fine (l : List Sol) (acts : List Ac) : Prop where
 ne : ∀ a ∈ acts, acCells l a ≠ 0
 fit : ∀ a ∈ acts, fits l.length a = true
theorem cells_at {l : List Sol} {acts : List Ac} {i : Int} (h : 0 ≤ i ∧ i < acts.length) : (cellsOf l acts).getD i.toNat 0 = acCells l (atA acts i) := by
 have h1 : i.toNat < acts.length := by omega
 have h2 : i.toNat < (cellsOf l acts).length := by unfold cellsOf; rw [List.length_map]; exact h1
 simp only [List.getD_eq_getElem?_getD, List.getElem?_eq_getElem h1, List.getElem?_eq_getElem h2, Option.getD_some]
 simp only [cellsOf, List.getElem_map]
theorem at_mem {acts : List Ac} {i : Int} (h : 0 ≤ i ∧ i < acts.length) : atA acts i ∈ acts := by
 have h1 : i.toNat < acts.length := by omega
 simp only [atA, List.getD_eq_getElem?_getD, List.getElem?_eq_getElem h1, Option.getD_some]
 exact List.getElem_mem _
theorem dep_at {l : List Sol} {acts : List Ac} (F : Fine l acts) {i j : Int} (hi : 0 ≤ i ∧ i < acts.length) (hj : 0 ≤ j ∧ j < acts.length) : depI (cellsOf l acts) i j = depA l (atA acts i) (atA acts j) := by
 unfold depI depN
 rw [cells_at hi, cells_at hj, depA_meets (F.ne _ (at_mem hi))]
theorem row_of {l : List Sol} {acts : List Ac} (F : Fine l acts) {left : List Int} (hn : left.Nodup) (hr : ∀ x ∈ left, 0 ≤ x ∧ x < (acts.length : Int)) : RowOf (depA l) (atA acts) (depI (cellsOf l acts)) left :=
 ⟨hn, fun i hi j hj => dep_at F (hr i hi) (hr j hj)⟩
theorem row_all {l : List Sol} {acts : List Ac} (F : Fine l acts) : RowOf (depA l) (atA acts) (depI (cellsOf l acts)) (upto acts.length) := row_of F (upto_nodup _) upto_range
/-- the normal form -/
def nrm (l : List Sol) (m : List Ac) : List Ac := norm (depA l) cmpA m.length m
theorem leastA_eq {l : List Sol} {acts : List Ac} {left : List Int} (h : RowOf (depA l) (atA acts) (depI (cellsOf l acts)) left) : leastA l acts left = nrm l (left.map (atA acts)) := by
 unfold leastA nrm
 rw [List.length_map]
 exact leastI_row (depA_refl l) (fun i j => rfl) _ h
theorem normalM_eq {l : List Sol} {acts : List Ac} (F : Fine l acts) : normalM l acts = nrm l acts := by
 have := leastA_eq (row_all F)
 rw [upto_map] at this
 exact this
theorem nrm_eqv (l : List Sol) (m : List Ac) : Eqv (depA l) m (nrm l m) := norm_eqv (depA_refl l) (depA_symm l) cmpA rfl
theorem nrm_iff (l : List Sol) {m m' : List Ac} : nrm l m = nrm l m' ↔ Eqv (depA l) m m' := norm_iff (depA_refl l) (depA_symm l) cmpA_ok m m'
theorem Fine.eqv {l : List Sol} {m m' : List Ac} (F : Fine l m) (e : Eqv (depA l) m m') : Fine l m' :=
 ⟨fun a ha => F.ne a ((e.mem (depA_refl l)).2 ha), fun a ha => F.fit a ((e.mem (depA_refl l)).2 ha)⟩
theorem Fine.app {l : List Sol} {m m' : List Ac} (F : Fine l m) (G : Fine l m') : Fine l (m ++ m') :=
 ⟨fun a ha => (List.mem_append.1 ha).elim (F.ne a) (G.ne a), fun a ha => (List.mem_append.1 ha).elim (F.fit a) (G.fit a)⟩
/-! ### a history that runs -/
structure Runs (blank : Sol) (l : List Sol) (acts : List Ac) (t : StB) : Prop where
 pat : chkPat blank l = 0
 len : acts.length ≤ 60
 run : runO (stB l) (blank, 0) acts = some t
theorem Runs.of {blank : Sol} {l : List Sol} {acts : List Ac} {s : Stn} (h : begunM blank l acts = .inr s) : ∃ t, Runs blank l acts t ∧ s = upI t := by
 obtain ⟨h1, h2, _⟩ := begunM_good h
 obtain ⟨t, h3, h4⟩ := (begun_run h1 h2).2 s h
 exact ⟨t, ⟨h1, h2, h3⟩, h4⟩
section
variable {blank : Sol} {l : List Sol} {acts : List Ac} {t : StB}
theorem Runs.good (R : Runs blank l acts t) : begunM blank l acts = .inr (upI t) := (begun_run R.pat R.len).1 t R.run
theorem Runs.fine (R : Runs blank l acts t) : Fine l acts := ⟨fun a ha => cells_ne R.pat (run_fits R.run a ha), run_fits R.run⟩
theorem pat_len {blank : Sol} {l : List Sol} (h : chkPat blank l = 0) : l.length ≤ 8 := by
 unfold chkPat at h
 split at h
 ·cases h
 ·omega
theorem Runs.eqv (R : Runs blank l acts t) {m : List Ac} (e : Eqv (depA l) acts m) : Runs blank l m t :=
 ⟨R.pat, by rw [← e.len (depA_refl l)]; exact R.len, runO_eqv (depA_refl l) (depA_symm l) (stepsA (pat_len R.pat)) e.symm R.run⟩
theorem Runs.nrm (R : Runs blank l acts t) : Runs blank l (nrm l acts) t := R.eqv (nrm_eqv l acts)
theorem Runs.pre (R : Runs blank l acts t) {g : List Ac} (k : Pre (depA l) g acts) : ∃ u, Runs blank l g u := by
 obtain ⟨r, e⟩ := k
 have R' := R.eqv e.symm
 obtain ⟨u, h1, _⟩ := runO_pre R'.run
 exact ⟨u, R.pat, by have := R'.len; rw [List.length_append] at this; omega, h1⟩
def redL (l : List Sol) (m : List Ac) : List Ac := reduceL (depA l) ivA m.length m
theorem Runs.red (R : Runs blank l acts t) : Runs blank l (redL l acts) t := by
 refine ⟨R.pat, Nat.le_trans ?_ R.len, reduceL_run (depA_refl l) (depA_symm l) (stepsA (pat_len R.pat)) (fun hi h1 h2 => turnA (pat_len R.pat) hi h1 h2) R.run⟩
 have : ∀ (n : Nat) (m : List Ac), (reduceL (depA l) ivA n m).length ≤ m.length := by
  intro n
  induction n with
  | zero => intro m; exact Nat.le_refl _
  | succ n ih =>
   intro m
   unfold reduceL
   cases hq : turnL (depA l) ivA m with
   | none => exact Nat.le_refl _
   | some m' =>
    obtain ⟨u, x, k, y, v, rfl, rfl, _, _⟩ := turnL_some hq
    refine Nat.le_trans (ih _) ?_
    simp only [List.length_append, List.length_cons]; omega
 exact this _ _
end
end Go.Proofs.YtccnkebkgegohaaGreatDoor
end
section
namespace Go.Proofs.YtccnkebkgegohaaGreatDoor
open Go Go.Tra
/-! ### two histories of one pattern -/
def beyA (l : List Sol) (g h : List Ac) : List Ac × List Ac × List Ac := bey (depA l) g.length [] g h
section
variable {blank : Sol} {l : List Sol} {g h : List Ac}
structure BeyIs (l : List Sol) (g h : List Ac) (r : List Ac × List Int × List Int) : Prop where
 c : r.1 = (beyA l g h).1
 a : r.2.1.map (atA g) = (beyA l g h).2.1
 b : r.2.2.map (atA h) = (beyA l g h).2.2
 ra : RowOf (depA l) (atA g) (depI (cellsOf l g)) r.2.1
 rb : RowOf (depA l) (atA h) (depI (cellsOf l h)) r.2.2
/-- the rests hang not together -/
def Free2 (l : List Sol) (g h : List Ac) : Prop := ∀ x ∈ (beyA l g h).2.1, ∀ y ∈ (beyA l g h).2.2, depA l x y = false
/-- what Conflict looks for -/
def confA (l : List Sol) (g h : List Ac) : Option (Ac × Ac) := conflictM l (nrm l (beyA l g h).2.1) (nrm l (beyA l g h).2.2)
/-- what Merge puts together -/
def joinA (l : List Sol) (g h : List Ac) : List Ac := (beyA l g h).1 ++ nrm l (beyA l g h).2.1 ++ nrm l (beyA l g h).2.2
/-- the least that both begin -/
structure IsJoin (l : List Sol) (g h m : List Ac) : Prop where
 left : Pre (depA l) g m
 right : Pre (depA l) h m
 least : ∀ {k}, Pre (depA l) g k → Pre (depA l) h k → Pre (depA l) m k
theorem IsJoin.symm {m : List Ac} (J : IsJoin l g h m) : IsJoin l h g m := ⟨J.right, J.left, fun a b => J.least b a⟩
theorem IsJoin.eqv {m m' : List Ac} (J : IsJoin l g h m) (e : Eqv (depA l) m m') : IsJoin l g h m' :=
 ⟨J.left.eqv (Eqv.refl _) e, J.right.eqv (Eqv.refl _) e, fun a b => (J.least a b).eqv e (Eqv.refl _)⟩
/-! the wood -/
def xorA (l : List Sol) : List Ac → Sol
 | [] => 0
 | a :: m => acCells l a ^^^ xorA l m
end
end Go.Proofs.YtccnkebkgegohaaGreatDoor
end
