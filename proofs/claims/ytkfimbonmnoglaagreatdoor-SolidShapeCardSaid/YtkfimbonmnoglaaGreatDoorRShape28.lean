import Derived.Test.YtkfimbonmnoglaaGreatDoorB27
import Derived.Test.YtkfimbonmnoglaaGreatDoorCards
import Derived.Test.YtkfimbonmnoglaaGreatDoorTie
import Derived.Deep.DeepHandedRow
import Derived.Lib.LaidTab
import Derived.LaidSub
import Derived.Carry
import Derived.ProofKit
import Derived.Deep.Cut
/-
  Given contracts of functions of the program, and laws for them, one behind the other.
-/
set_option linter.unusedVariables false
set_option linter.unusedSimpArgs false
set_option linter.unusedSectionVars false
section
namespace Go.Solid
open Go.Draw
set_option maxRecDepth 100000
theorem cellsS_in {s : Sol} {c : Cl} (h : c ∈ cellsS s) : inG c = true := by
 have := mem_cellsS.1 h
 unfold hasS at this
 rw [Bool.and_eq_true] at this
 exact this.1
end Go.Solid
end
section
namespace Go.Solid
open Go.Draw
set_option maxRecDepth 100000
theorem mem_rngI {a b i : Int} : i ∈ rngI a b ↔ a ≤ i ∧ i ≤ b := by
 unfold rngI
 rw [List.mem_map]
 constructor
 ·rintro ⟨k, hk, rfl⟩
  rw [List.mem_range] at hk; omega
 ·intro h
  exact ⟨(i - a).toNat, by rw [List.mem_range]; omega, by omega⟩
end Go.Solid
end
section
namespace Go.Solid
open Go.Draw
set_option maxRecDepth 100000
theorem comp_all {St : List Cl} {l : Sol} {c : Cl} {K : Sol} (h : IsComp St l c K) {e : Cl} (hr : Reach St l c e) : hasS K e = true := by
 induction hr with
 | start _ => exact h.has
 | step _ hd hh ih => exact h.closed _ ih _ hd hh
theorem comp_unique {St : List Cl} {l : Sol} {c : Cl} {K L : Sol} (h : IsComp St l c K) (k : IsComp St l c L) : K = L :=
 subS_antisymm (subS_iff.2 fun e he => comp_all k (h.reach e he)) (subS_iff.2 fun e he => comp_all h (k.reach e he))
end Go.Solid
end
section
namespace Go.Solid
open Go.Draw
set_option maxRecDepth 100000
theorem addNew_spec {seen : List Cl} {p : Cl} (h : seen.Nodup) : (addNew seen p).Nodup ∧ ∀ q, q ∈ addNew seen p ↔ q ∈ seen ∨ q = p := by
 unfold addNew
 split
 ·rename_i hp
  refine ⟨h, fun q => ⟨fun hq => .inl hq, fun hq => ?_⟩⟩
  rcases hq with hq | rfl
  ·exact hq
  ·exact hp
 ·rename_i hp
  refine ⟨?_, fun q => by rw [List.mem_append, List.mem_singleton]⟩
  rw [List.nodup_append]
  refine ⟨h, List.pairwise_singleton _ _, fun a ha b hb e => ?_⟩
  rw [List.mem_singleton] at hb
  subst hb e
  exact hp ha
theorem seen_spec (l : List Cl) : (seenF l).Nodup ∧ ∀ q, q ∈ seenF l ↔ q ∈ l := by
 have key : ∀ (l acc : List Cl), acc.Nodup → (l.foldl addNew acc).Nodup ∧ ∀ q, q ∈ l.foldl addNew acc ↔ q ∈ acc ∨ q ∈ l := by
  intro l
  induction l with
  | nil => intro acc h; exact ⟨h, fun q => by simp⟩
  | cons p l ih =>
   intro acc h
   obtain ⟨h1, h2⟩ := addNew_spec (p := p) h
   obtain ⟨h3, h4⟩ := ih _ h1
   refine ⟨h3, fun q => ?_⟩
   rw [List.foldl_cons, h4, h2, List.mem_cons, or_assoc]
 obtain ⟨h1, h2⟩ := key l [] List.nodup_nil
 exact ⟨h1, fun q => by rw [show seenF l = l.foldl addNew [] from rfl, h2]; simp⟩
theorem sumZ_perm (f : Cl → Int) {l m : List Cl} (h : l.Perm m) : sumZ f l = sumZ f m := by
 induction h with
 | nil => rfl
 | cons x _ ih => unfold sumZ at *; rw [List.map_cons, List.map_cons, List.sum_cons, List.sum_cons, ih]
 | swap x y l => unfold sumZ; simp only [List.map_cons, List.sum_cons]; omega
 | trans _ _ h1 h2 => exact h1.trans h2
theorem sumZ_filter (f : Cl → Int) (p : Cl → Bool) : ∀ l : List Cl, sumZ (fun q => if p q then f q else 0) l = sumZ f (l.filter p)
 | [] => rfl
 | q :: l => by
  have ih := sumZ_filter f p l
  unfold sumZ at ih ⊢
  rw [List.map_cons, List.sum_cons, ih, List.filter_cons]
  cases p q with
  | true => rw [if_pos rfl, if_pos rfl, List.map_cons, List.sum_cons]
  | false => simp
/-- the reference goes over all of them -/
def nameC (n : Nat) : Cl := (((2 * (n / 8 % 9) + n % 2 : Nat) : Int), ((2 * (n / 72 % 9) + n / 2 % 2 : Nat) : Int), ((2 * (n / 648) + n / 4 % 2 : Nat) : Int))
theorem nameC_inj {n m : Nat} (h : nameC n = nameC m) : n = m := by
 unfold nameC at h
 simp only [Prod.mk.injEq] at h
 omega
theorem name_of {x y z a b c : Nat} (hx : x ≤ 8) (hy : y ≤ 8) (ha : a < 2) (hb : b < 2) (hc : c < 2) : nameC (648 * z + 72 * y + 8 * x + 4 * c + 2 * b + a) = (((2 * x + a : Nat) : Int), ((2 * y + b : Nat) : Int), ((2 * z + c : Nat) : Int)) := by
 have e1 : (648 * z + 72 * y + 8 * x + 4 * c + 2 * b + a) / 8 = 81 * z + 9 * y + x := by omega
 have e2 : (648 * z + 72 * y + 8 * x + 4 * c + 2 * b + a) / 72 = 9 * z + y := by omega
 have e3 : (648 * z + 72 * y + 8 * x + 4 * c + 2 * b + a) / 648 = z := by omega
 have e4 : (648 * z + 72 * y + 8 * x + 4 * c + 2 * b + a) % 2 = a := by omega
 have e5 : (648 * z + 72 * y + 8 * x + 4 * c + 2 * b + a) / 2 % 2 = b := by omega
 have e6 : (648 * z + 72 * y + 8 * x + 4 * c + 2 * b + a) / 4 % 2 = c := by omega
 unfold nameC
 rw [e1, e2, e3, e4, e5, e6, show (81 * z + 9 * y + x) % 9 = x by omega, show (9 * z + y) % 9 = y by omega]
def touched (s : Sol) (p : Cl) : Bool := decide (p ∈ ptsS s)
def eulerR (s : Sol) : Int := ((List.range 5832).map fun n => if touched s (nameC n) then sgn (nameC n) else 0).sum
theorem steps_in {f : Bool} {d : Cl} (h : d ∈ stepsL f) : ∀ k, -1 ≤ co d k ∧ co d k ≤ 1 := by
 have h1 : ((stepsL f).all fun d => decide (-1 ≤ d.1 ∧ d.1 ≤ 1) && decide (-1 ≤ d.2.1 ∧ d.2.1 ≤ 1) && decide (-1 ≤ d.2.2 ∧ d.2.2 ≤ 1)) = true := by cases f <;> decide +kernel
 have h2 := List.all_eq_true.1 h1 d h
 simp only [Bool.and_eq_true, decide_eq_true_eq] at h2
 intro k
 match k with
 | 0 => exact h2.1.1
 | 1 => exact h2.1.2
 | _ + 2 => exact h2.2
theorem steps_all {d : Cl} (h : ∀ k, -1 ≤ co d k ∧ co d k ≤ 1) : d ∈ stepsL false := by
 obtain ⟨x, y, z⟩ := d
 have hx := h 0; have hy := h 1; have hz := h 2
 have hx' : x = -1 ∨ x = 0 ∨ x = 1 := by have : -1 ≤ x ∧ x ≤ 1 := hx; omega
 have hy' : y = -1 ∨ y = 0 ∨ y = 1 := by have : -1 ≤ y ∧ y ≤ 1 := hy; omega
 have hz' : z = -1 ∨ z = 0 ∨ z = 1 := by have : -1 ≤ z ∧ z ≤ 1 := hz; omega
 rcases hx' with rfl | rfl | rfl <;> rcases hy' with rfl | rfl | rfl <;> rcases hz' with rfl | rfl | rfl <;> decide +kernel
theorem pts_iff {s : Sol} {p : Cl} : p ∈ ptsS s ↔ ∃ c, hasS s c = true ∧ ∀ k, -1 ≤ co p k - (2 * co c k + 1) ∧ co p k - (2 * co c k + 1) ≤ 1 := by
 unfold ptsS
 rw [List.mem_flatMap]
 constructor
 ·rintro ⟨c, hc, h⟩
  rw [List.mem_map] at h
  obtain ⟨d, hd, rfl⟩ := h
  refine ⟨c, mem_cellsS.1 hc, fun k => ?_⟩
  have h1 := steps_in hd k
  have e : co (midC c d) k = 2 * co c k + 1 + co d k := by
   match k with
   | 0 => rfl
   | 1 => rfl
   | _ + 2 => rfl
  rw [e]; omega
 ·rintro ⟨c, hc, h⟩
  refine ⟨c, mem_cellsS.2 hc, List.mem_map.2 ⟨(p.1 - (2 * c.1 + 1), p.2.1 - (2 * c.2.1 + 1), p.2.2 - (2 * c.2.2 + 1)), steps_all fun k => ?_, ?_⟩⟩
  ·match k with
   | 0 => exact h 0
   | 1 => exact h 1
   | _ + 2 => exact h 2
  ·unfold midC
   refine Prod.ext ?_ (Prod.ext ?_ ?_)
   ·show 2 * c.1 + 1 + (p.1 - (2 * c.1 + 1)) = p.1; omega
   ·show 2 * c.2.1 + 1 + (p.2.1 - (2 * c.2.1 + 1)) = p.2.1; omega
   ·show 2 * c.2.2 + 1 + (p.2.2 - (2 * c.2.2 + 1)) = p.2.2; omega
theorem euler_ref (s : Sol) : eulerR s = eulerS s := by
 have e1 : eulerR s = sumZ (fun q => if touched s q then sgn q else 0) ((List.range 5832).map nameC) := by
  unfold eulerR sumZ
  rw [List.map_map]; rfl
 rw [e1, sumZ_filter]
 unfold eulerS
 refine sumZ_perm _ ((List.perm_ext_iff_of_nodup ?_ (seen_spec _).1).2 fun q => ?_)
 ·refine List.Pairwise.filter _ ?_
  rw [List.pairwise_map]
  exact (show (List.range 5832).Nodup from List.nodup_range).imp fun {a b} h e => h (nameC_inj e)
 ·rw [List.mem_filter, (seen_spec _).2]
  unfold touched
  rw [decide_eq_true_eq]
  refine ⟨fun h => h.2, fun h => ⟨?_, h⟩⟩
  obtain ⟨c, hc, hk⟩ := pts_iff.1 h
  have hg := inG_iff.1 (has_in hc)
  have h0 := hk 0; have h1 := hk 1; have h2 := hk 2
  obtain ⟨x, y, z⟩ := q
  obtain ⟨a, b, d⟩ := c
  have h0' : -1 ≤ x - (2 * a + 1) ∧ x - (2 * a + 1) ≤ 1 := h0
  have h1' : -1 ≤ y - (2 * b + 1) ∧ y - (2 * b + 1) ≤ 1 := h1
  have h2' : -1 ≤ z - (2 * d + 1) ∧ z - (2 * d + 1) ≤ 1 := h2
  simp only at hg
  obtain ⟨X, hX⟩ : ∃ X : Nat, x = X := ⟨x.toNat, by omega⟩
  obtain ⟨Y, hY⟩ : ∃ X : Nat, y = X := ⟨y.toNat, by omega⟩
  obtain ⟨Z, hZ⟩ : ∃ X : Nat, z = X := ⟨z.toNat, by omega⟩
  subst hX hY hZ
  refine List.mem_map.2 ⟨648 * (Z / 2) + 72 * (Y / 2) + 8 * (X / 2) + 4 * (Z % 2) + 2 * (Y % 2) + X % 2, List.mem_range.2 (by omega), ?_⟩
  rw [name_of (by omega) (by omega) (Nat.mod_lt _ (by decide)) (Nat.mod_lt _ (by decide)) (Nat.mod_lt _ (by decide))]
  refine Prod.ext ?_ (Prod.ext ?_ ?_)
  ·show ((2 * (X / 2) + X % 2 : Nat) : Int) = X; omega
  ·show ((2 * (Y / 2) + Y % 2 : Nat) : Int) = Y; omega
  ·show ((2 * (Z / 2) + Z % 2 : Nat) : Int) = Z; omega
end Go.Solid
end
section
namespace Go.Solid
open Go.Draw
set_option maxRecDepth 100000
def farC (a b : Cl) : Int × Int := (max (a.1 - b.1) (b.1 - a.1) + max (a.2.1 - b.2.1) (b.2.1 - a.2.1) + max (a.2.2 - b.2.2) (b.2.2 - a.2.2), max (max (max (a.1 - b.1) (b.1 - a.1)) (max (a.2.1 - b.2.1) (b.2.1 - a.2.1))) (max (a.2.2 - b.2.2) (b.2.2 - a.2.2)))
def nearC (faces : Bool) (a b : Cl) : Bool := (faces && decide ((farC a b).1 = 1)) || (!faces && decide ((farC a b).2 = 1))
theorem near_small (f : Bool) : ((([-1, 0, 1] : List Int).flatMap fun x => ([-1, 0, 1] : List Int).flatMap fun y => ([-1, 0, 1] : List Int).map fun z => ((x, y, z) : Cl)).all fun d => nearC f d (0, 0, 0) == (decide (d ≠ (0, 0, 0)) && decide (d ∈ stepsL f))) = true := by cases f <;> decide +kernel
theorem near_sub (f : Bool) (a b : Cl) : nearC f a b = nearC f (subC a b) (0, 0, 0) := by
 unfold nearC farC subC
 simp only [Int.sub_zero, Int.zero_sub, Int.neg_sub]
theorem near_iff {f : Bool} {a b : Cl} : nearC f a b = true ↔ a ≠ b ∧ subC a b ∈ stepsL f := by
 rw [near_sub]
 have hz : a ≠ b ↔ subC a b ≠ (0, 0, 0) := by
  refine not_congr ⟨fun h => ?_, fun h => ?_⟩
  ·subst h; unfold subC; simp
  ·have h1 : a.1 - b.1 = 0 := congrArg Prod.fst h
   have h2 : a.2.1 - b.2.1 = 0 := congrArg (fun c : Cl => c.2.1) h
   have h3 : a.2.2 - b.2.2 = 0 := congrArg (fun c : Cl => c.2.2) h
   exact Prod.ext (by omega) (Prod.ext (by omega) (by omega))
 rw [hz]
 generalize subC a b = d
 by_cases hd : ∀ k, -1 ≤ co d k ∧ co d k ≤ 1
 ·obtain ⟨x, y, z⟩ := d
  have hx := hd 0; have hy := hd 1; have hz := hd 2
  have hx' : x = -1 ∨ x = 0 ∨ x = 1 := by have : -1 ≤ x ∧ x ≤ 1 := hx; omega
  have hy' : y = -1 ∨ y = 0 ∨ y = 1 := by have : -1 ≤ y ∧ y ≤ 1 := hy; omega
  have hz' : z = -1 ∨ z = 0 ∨ z = 1 := by have : -1 ≤ z ∧ z ≤ 1 := hz; omega
  have hm : ((x, y, z) : Cl) ∈ (([-1, 0, 1] : List Int).flatMap fun x => ([-1, 0, 1] : List Int).flatMap fun y => ([-1, 0, 1] : List Int).map fun z => ((x, y, z) : Cl)) := by
   simp only [List.mem_flatMap, List.mem_map, List.mem_cons, List.not_mem_nil, or_false]
   exact ⟨x, hx', y, hy', z, hz', rfl⟩
  have := List.all_eq_true.1 (near_small f) _ hm
  rw [beq_iff_eq] at this
  rw [this, Bool.and_eq_true, decide_eq_true_eq, decide_eq_true_eq]
 ·constructor
  ·intro h
   refine absurd (fun k => ?_) hd
   unfold nearC farC at h
   simp only [Int.sub_zero, Int.zero_sub, Bool.or_eq_true, Bool.and_eq_true, decide_eq_true_eq] at h
   have h0 : (-1 ≤ d.1 ∧ d.1 ≤ 1) ∧ (-1 ≤ d.2.1 ∧ d.2.1 ≤ 1) ∧ (-1 ≤ d.2.2 ∧ d.2.2 ≤ 1) := by
    rcases h with ⟨_, h⟩ | ⟨_, h⟩ <;> omega
   match k with
   | 0 => exact h0.1
   | 1 => exact h0.2.1
   | _ + 2 => exact h0.2.2
  ·rintro ⟨_, h⟩
   exact absurd (steps_in h) hd
theorem add_sub (a b : Cl) : addC b (subC a b) = a := by
 unfold addC subC
 exact Prod.ext (by simp only; omega) (Prod.ext (by simp only; omega) (by simp only; omega))
def passStep (f : Bool) (ins : List Cl) (p : Sol × Bool) (c : Cl) : Sol × Bool := if hasS p.1 c then p else if ins.any (fun e => nearC f c e) then (p.1 ||| one (bitN c), true) else p
def passF (f : Bool) (ins l : List Cl) (p : Sol × Bool) : Sol × Bool := l.foldl (passStep f ins) p
theorem pass_spec (f : Bool) (ins : List Cl) : ∀ (l : List Cl) (p : Sol × Bool), (∀ c ∈ l, inG c = true) → (∀ e, hasS (passF f ins l p).1 e = true ↔ hasS p.1 e = true ∨ (e ∈ l ∧ ins.any (fun x => nearC f e x) = true)) ∧ ((passF f ins l p).2 = true ↔ p.2 = true ∨ ∃ e, e ∈ l ∧ hasS p.1 e = false ∧ ins.any (fun x => nearC f e x) = true)
 | [], p, _ => ⟨fun e => by show hasS p.1 e = true ↔ _; simp, by show p.2 = true ↔ _; simp⟩
 | c :: l, p, h => by
  have hc := h c List.mem_cons_self
  obtain ⟨i1, i2⟩ := pass_spec f ins l (passStep f ins p c) fun x hx => h x (List.mem_cons_of_mem _ hx)
  have e0 : passF f ins (c :: l) p = passF f ins l (passStep f ins p c) := rfl
  rw [e0]
  have s1 : ∀ e, hasS (passStep f ins p c).1 e = true ↔ hasS p.1 e = true ∨ (e = c ∧ ins.any (fun x => nearC f e x) = true) := by
   intro e
   unfold passStep
   by_cases h1 : hasS p.1 c = true
   ·rw [if_pos h1]
    exact ⟨.inl, fun h => h.elim id fun h => by rw [h.1]; exact h1⟩
   ·rw [if_neg h1]
    by_cases h2 : ins.any (fun e => nearC f c e) = true
    ·rw [if_pos h2]
     simp only
     rw [or_has, one_has hc]
     exact ⟨fun h => h.imp id fun h => ⟨h, by rw [h]; exact h2⟩, fun h => h.imp id fun h => h.1⟩
    ·rw [if_neg h2]
     exact ⟨.inl, fun h => h.elim id fun h => absurd (h.1 ▸ h.2) h2⟩
  have s2 : (passStep f ins p c).2 = true ↔ p.2 = true ∨ (hasS p.1 c = false ∧ ins.any (fun x => nearC f c x) = true) := by
   unfold passStep
   by_cases h1 : hasS p.1 c = true
   ·rw [if_pos h1, h1]; simp
   ·rw [if_neg h1, not_has.2 h1]
    by_cases h2 : ins.any (fun e => nearC f c e) = true
    ·rw [if_pos h2]; simp [h2]
    ·rw [if_neg h2]; simp [h2]
  refine ⟨fun e => ?_, ?_⟩
  ·rw [i1, s1, List.mem_cons]
   constructor
   ·rintro ((h | h) | h)
    ·exact .inl h
    ·exact .inr ⟨.inl h.1, h.2⟩
    ·exact .inr ⟨.inr h.1, h.2⟩
   ·rintro (h | ⟨h | h, k⟩)
    ·exact .inl (.inl h)
    ·exact .inl (.inr ⟨h, k⟩)
    ·exact .inr ⟨h, k⟩
  ·rw [i2, s2]
   constructor
   ·rintro ((h | h) | ⟨e, h, k, m⟩)
    ·exact .inl h
    ·exact .inr ⟨c, List.mem_cons_self, h.1, h.2⟩
    ·refine .inr ⟨e, List.mem_cons_of_mem _ h, ?_, m⟩
     rw [not_has] at k ⊢
     exact fun hh => k ((s1 e).2 (.inl hh))
   ·rintro (h | ⟨e, h, k, m⟩)
    ·exact .inl (.inl h)
    ·rcases List.mem_cons.1 h with rfl | h
     ·exact .inl (.inr ⟨k, m⟩)
     ·cases hp : hasS (passStep f ins p c).1 e with
      | false => exact .inr ⟨e, h, hp, m⟩
      | true =>
       rcases (s1 e).1 hp with h3 | h3
       ·rw [k] at h3; cases h3
       ·obtain ⟨rfl, h4⟩ := h3
        exact .inl (.inr ⟨k, h4⟩)
/-- on the way to a component -/
structure Growing (St : List Cl) (l : Sol) (c : Cl) (K : Sol) : Prop where
 sub : subS K l = true
 has : hasS K c = true
 reach : ∀ e, hasS K e = true → Reach St l c e
theorem grow_start {St : List Cl} {l : Sol} {c : Cl} (h : hasS l c = true) : Growing St l c (one (bitN c)) := by
 have hg := has_in h
 refine ⟨subS_iff.2 fun e he => ?_, (one_has hg).2 rfl, fun e he => ?_⟩
 ·rw [(one_has hg).1 he]; exact h
 ·rw [(one_has hg).1 he]; exact Reach.start h
theorem any_near {f : Bool} {K : Sol} {e : Cl} : (cellsS K).any (fun x => nearC f e x) = true ↔ ∃ x, hasS K x = true ∧ nearC f e x = true := by
 rw [List.any_eq_true]
 exact ⟨fun ⟨x, h, k⟩ => ⟨x, mem_cellsS.1 h, k⟩, fun ⟨x, h, k⟩ => ⟨x, mem_cellsS.2 h, k⟩⟩
theorem grow_pass {f : Bool} {l : Sol} {c : Cl} {K : Sol} (h : Growing (stepsL f) l c K) : Growing (stepsL f) l c (passF f (cellsS K) (cellsS l) (K, false)).1 := by
 have hp := (pass_spec f (cellsS K) (cellsS l) (K, false) fun c hc => cellsS_in hc).1
 have key : ∀ e, hasS (passF f (cellsS K) (cellsS l) (K, false)).1 e = true → Reach (stepsL f) l c e := by
  intro e he
  rcases (hp e).1 he with h1 | ⟨h1, h2⟩
  ·exact h.reach e h1
  ·obtain ⟨x, hx, hn⟩ := any_near.1 h2
   obtain ⟨_, hd⟩ := near_iff.1 hn
   have := (h.reach x hx).step hd (by rw [add_sub]; exact mem_cellsS.1 h1)
   rw [add_sub] at this; exact this
 exact ⟨subS_iff.2 fun e he => (key e he).has, (hp c).2 (.inl h.has), key⟩
theorem grow_end {f : Bool} {l : Sol} {c : Cl} {K : Sol} (h : Growing (stepsL f) l c K) (hb : (passF f (cellsS K) (cellsS l) (K, false)).2 = false) : (passF f (cellsS K) (cellsS l) (K, false)).1 = K ∧ K = partS (stepsL f) l c := by
 obtain ⟨hp, hq⟩ := pass_spec f (cellsS K) (cellsS l) (K, false) fun c hc => cellsS_in hc
 have hno : ∀ e, e ∈ cellsS l → hasS K e = false → ¬ ((cellsS K).any (fun x => nearC f e x) = true) := by
  intro e he hk hn
  have := hq.2 (.inr ⟨e, he, hk, hn⟩)
  rw [hb] at this; cases this
 have e1 : (passF f (cellsS K) (cellsS l) (K, false)).1 = K := by
  refine subS_antisymm (subS_iff.2 fun e he => ?_) (subS_iff.2 fun e he => (hp e).2 (.inl he))
  rcases (hp e).1 he with h1 | ⟨h1, h2⟩
  ·exact h1
  ·cases hk : hasS K e with
   | true => rfl
   | false => exact absurd h2 (hno e h1 hk)
 refine ⟨e1, comp_unique ⟨h.sub, h.has, h.reach, fun e he d hd hl => ?_⟩ (comp_spec (subS_iff.1 h.sub c h.has))⟩
 cases hk : hasS K (addC e d) with
 | true => rfl
 | false =>
  refine absurd (any_near.2 ⟨e, he, near_iff.2 ⟨fun hh => ?_, ?_⟩⟩) (hno _ (mem_cellsS.2 hl) hk)
  ·rw [hh, he] at hk; cases hk
  ·have : subC (addC e d) e = d := by
    unfold subC addC
    exact Prod.ext (by simp only; omega) (Prod.ext (by simp only; omega) (by simp only; omega))
   rw [this]; exact hd
theorem grow_more {f : Bool} {l K : Sol} (hb : (passF f (cellsS K) (cellsS l) (K, false)).2 = true) : countS (cutS l (passF f (cellsS K) (cellsS l) (K, false)).1) < countS (cutS l K) := by
 obtain ⟨hp, hq⟩ := pass_spec f (cellsS K) (cellsS l) (K, false) fun c hc => cellsS_in hc
 rcases hq.1 hb with h | ⟨e, he, hk, hn⟩
 ·cases h
 ·have hs : subS (cutS l (passF f (cellsS K) (cellsS l) (K, false)).1) (cutS l K) = true := subS_iff.2 fun x hx => by
   obtain ⟨h1, h2⟩ := cut_has.1 hx
   refine cut_has.2 ⟨h1, ?_⟩
   rw [not_has] at h2 ⊢
   exact fun h => h2 ((hp x).2 (.inl h))
  refine Nat.lt_of_not_le fun hle => ?_
  have := count_eq hs hle
  have h2 : hasS (cutS l K) e = true := cut_has.2 ⟨mem_cellsS.1 he, hk⟩
  rw [← this] at h2
  have h3 := (cut_has.1 h2).2
  rw [not_has] at h3
  exact h3 ((hp e).2 (.inr ⟨he, hn⟩))
theorem steps_faces : stepsL true = [(0, 0, -1), (0, -1, 0), (-1, 0, 0), (1, 0, 0), (0, 1, 0), (0, 0, 1)] := by decide +kernel
def oneB (b : Bool) : Nat := if b then 1 else 0
def bareR (s : Sol) (c : Cl) : Nat := oneB (!hasS s (addC c (-1, 0, 0))) + oneB (!hasS s (addC c (0, -1, 0))) + oneB (!hasS s (addC c (0, 0, -1))) + oneB (!hasS s (addC c (1, 0, 0))) + oneB (!hasS s (addC c (0, 1, 0))) + oneB (!hasS s (addC c (0, 0, 1)))
theorem filter_len {α : Type} (p : α → Bool) : ∀ l : List α, (l.filter p).length = (l.map fun a => oneB (p a)).sum
 | [] => rfl
 | a :: l => by
  rw [List.filter_cons, List.map_cons, List.sum_cons, ← filter_len p l]
  cases p a
  ·simp [oneB]
  ·simp [oneB]; omega
theorem bare_eq (s : Sol) (c : Cl) : bareN s c = bareR s c := by
 unfold bareN bareR
 rw [filter_len, steps_faces]
 simp only [List.map_cons, List.map_nil, List.sum_cons, List.sum_nil]
 omega
def innerS : Sol := mkS fun z => if 1 ≤ z ∧ z ≤ 6 then 0x007e7e7e7e7e7e00#64 else 0
theorem inner_all : ((List.range 512).all fun n => innerS.getLsbD n == (decide (1 ≤ n % 8 ∧ n % 8 ≤ 6) && decide (1 ≤ n / 8 % 8 ∧ n / 8 % 8 ≤ 6) && decide (1 ≤ n / 64 ∧ n / 64 ≤ 6))) = true := by decide +kernel
theorem inner_has {c : Cl} : hasS innerS c = true ↔ (1 ≤ c.1 ∧ c.1 ≤ 6) ∧ (1 ≤ c.2.1 ∧ c.2.1 ≤ 6) ∧ (1 ≤ c.2.2 ∧ c.2.2 ≤ 6) := by
 cases hg : inG c with
 | false =>
  rw [hasS_out hg]
  constructor
  ·intro h; cases h
  ·rintro ⟨h1, h2, h3⟩
   have : inG c = true := inG_iff.2 ⟨by omega, by omega, by omega⟩
   rw [hg] at this; cases this
 | true =>
  have h := List.all_eq_true.1 inner_all (bitN c) (List.mem_range.2 (bitN_lt hg))
  have hG := inG_iff.1 hg
  have hb : ((bitN c : Nat) : Int) = 64 * c.2.2 + 8 * c.2.1 + c.1 := by unfold bitN; omega
  unfold hasS
  rw [hg, Bool.true_and, beq_iff_eq.1 h, Bool.and_eq_true, Bool.and_eq_true, decide_eq_true_eq, decide_eq_true_eq, decide_eq_true_eq]
  omega
theorem cav_inner {x : Sol} (hx : x ≠ 0) : cavB x = subS x innerS := by
 rw [Bool.eq_iff_iff]
 unfold cavB
 simp only [Bool.and_eq_true, decide_eq_true_eq]
 constructor
 ·rintro ⟨⟨⟨⟨⟨h1, h2⟩, h3⟩, h4⟩, h5⟩, h6⟩
  refine subS_iff.2 fun c hc => inner_has.2 ?_
  have a0 : (loS x).1 ≤ c.1 := loS_le hc 0
  have a1 : (loS x).2.1 ≤ c.2.1 := loS_le hc 1
  have a2 : (loS x).2.2 ≤ c.2.2 := loS_le hc 2
  have b0 : c.1 ≤ (hiS x).1 := le_hiS hc 0
  have b1 : c.2.1 ≤ (hiS x).2.1 := le_hiS hc 1
  have b2 : c.2.2 ≤ (hiS x).2.2 := le_hiS hc 2
  omega
 ·intro h
  have key : ∀ c, hasS x c = true → _ := fun c hc => inner_has.1 (subS_iff.1 h c hc)
  obtain ⟨c0, h0, e0⟩ := loS_at hx 0
  obtain ⟨c1, h1, e1⟩ := loS_at hx 1
  obtain ⟨c2, h2, e2⟩ := loS_at hx 2
  obtain ⟨d0, g0, f0⟩ := hiS_at hx 0
  obtain ⟨d1, g1, f1⟩ := hiS_at hx 1
  obtain ⟨d2, g2, f2⟩ := hiS_at hx 2
  have e0' : (loS x).1 = c0.1 := e0
  have e1' : (loS x).2.1 = c1.2.1 := e1
  have e2' : (loS x).2.2 = c2.2.2 := e2
  have f0' : (hiS x).1 = d0.1 := f0
  have f1' : (hiS x).2.1 = d1.2.1 := f1
  have f2' : (hiS x).2.2 = d2.2.2 := f2
  have := key c0 h0; have := key c1 h1; have := key c2 h2; have := key d0 g0; have := key d1 g1; have := key d2 g2
  omega
theorem cavs_ref (s : Sol) : cavsS s = (classesS (stepsL true) (~~~s)).filter fun x => subS x innerS :=
 List.filter_congr fun x hx => cav_inner (classes_ne (steps_sym true) hx)
end Go.Solid
end
section
namespace Go.Solid
open Go.Draw
set_option maxRecDepth 100000
def turnedM (s : Sol) (t : Int) : Sol × Int := if inB t 0 23 then (spunS s t.toNat, 0) else (0, 1)
end Go.Solid
end
section
namespace Go.Solid
open Go.Draw
set_option maxRecDepth 100000
theorem cls_zero (St : List Cl) : classesS St 0 = [] := by
 unfold classesS
 have : cellsS (0 : Sol) = [] := by
  cases h : cellsS (0 : Sol) with
  | nil => rfl
  | cons c l =>
   have hc : hasS (0 : Sol) c = true := mem_cellsS.1 (by rw [h]; exact List.mem_cons_self)
   unfold hasS at hc
   simp at hc
 rw [this]; rfl
theorem cut_less {St : List Cl} {l : Sol} {c : Cl} (hc : hasS l c = true) : countS (cutS l (partS St l c)) < countS l := by
 have hv := vis_spec St 512 l c (count_512 l)
 rw [← vis_cut]
 refine Nat.lt_of_not_le fun hle => ?_
 have := count_eq hv.sub hle
 have h2 := hv.gone
 rw [this, hc] at h2; cases h2
theorem cls_step (St : List Cl) {l : Sol} {c : Cl} {t : List Cl} (h : cellsS l = c :: t) : classesS St l = partS St l c :: classesS St (cutS l (partS St l c)) := by
 have hc : hasS l c = true := mem_cellsS.1 (by rw [h]; exact List.mem_cons_self)
 have h1 := cut_less (St := St) hc
 obtain ⟨n, hn⟩ : ∃ n, countS l = n + 1 := ⟨countS l - 1, by omega⟩
 rw [classes_ref St l (Nat.le_of_eq hn), classes_ref St (cutS l (partS St l c)) (n := n) (by omega), clsR]
 split
 ·rename_i h0; rw [h0] at h; cases h
 ·rename_i c' t' h0
  rw [h0] at h; cases h; rfl
/-- one pass, cell by cell -/
def passQ (f : Bool) (l : Sol) (K : Sol) (i : Nat) : Sol × Bool := passF f (cellsS K) ((cellsS l).take i) (K, false)
theorem passQ_zero (f : Bool) (l K : Sol) : passQ f l K 0 = (K, false) := rfl
theorem passQ_step (f : Bool) {l K : Sol} {i : Nat} {c : Cl} (h : (cellsS l)[i]? = some c) : passQ f l K (i + 1) = passStep f (cellsS K) (passQ f l K i) c := by
 unfold passQ passF
 rw [List.take_add_one, h, List.foldl_append]; rfl
theorem passQ_end (f : Bool) (l K : Sol) : passQ f l K (cellsS l).length = passF f (cellsS K) (cellsS l) (K, false) := by
 unfold passQ
 rw [List.take_of_length_le (Nat.le_refl _)]
/-- nearness, cell by cell -/
def nearQ (f : Bool) (c : Cl) (K : Sol) (k : Nat) : Bool := ((cellsS K).take k).any fun e => nearC f c e
theorem nearQ_zero (f : Bool) (c : Cl) (K : Sol) : nearQ f c K 0 = false := rfl
theorem nearQ_step (f : Bool) (c : Cl) {K : Sol} {k : Nat} {e : Cl} (h : (cellsS K)[k]? = some e) : nearQ f c K (k + 1) = (nearQ f c K k || nearC f c e) := by
 unfold nearQ
 rw [List.take_add_one, h, List.any_append]
 simp
theorem nearQ_end (f : Bool) (c : Cl) (K : Sol) : nearQ f c K (cellsS K).length = (cellsS K).any fun e => nearC f c e := by
 unfold nearQ
 rw [List.take_of_length_le (Nat.le_refl _)]
/-- where the search for one class stands: it grows still, or it has all -/
def GrowI (f : Bool) (l : Sol) (c : Cl) (K : Sol) (g : Bool) : Prop := (g = true ∧ Growing (stepsL f) l c K) ∨ (g = false ∧ K = partS (stepsL f) l c)
theorem growI_start {f : Bool} {l : Sol} {c : Cl} (h : hasS l c = true) : GrowI f l c (one (bitN c)) true := .inl ⟨rfl, grow_start h⟩
theorem growI_pass {f : Bool} {l : Sol} {c : Cl} {K : Sol} (h : GrowI f l c K true) : GrowI f l c (passQ f l K (cellsS l).length).1 (passQ f l K (cellsS l).length).2 ∧ 2 * countS (cutS l (passQ f l K (cellsS l).length).1) + (if (passQ f l K (cellsS l).length).2 then 1 else 0) < 2 * countS (cutS l K) + 1 := by
 rcases h with ⟨_, h⟩ | ⟨h, _⟩
 ·rw [passQ_end]
  cases hb : (passF f (cellsS K) (cellsS l) (K, false)).2 with
  | true => exact ⟨.inl ⟨rfl, grow_pass h⟩, by have := grow_more hb; simp only [if_true]; omega⟩
  | false =>
   obtain ⟨e1, e2⟩ := grow_end h hb
   exact ⟨.inr ⟨rfl, by rw [e1]; exact e2⟩, by rw [e1]; simp⟩
 ·cases h
theorem growI_end {f : Bool} {l : Sol} {c : Cl} {K : Sol} (h : GrowI f l c K false) : K = partS (stepsL f) l c := by
 rcases h with ⟨h, _⟩ | ⟨_, h⟩
 ·cases h
 ·exact h
theorem cutS_eq (a b : Sol) : cutS a b = a &&& ~~~b := rfl
theorem cells_ne {l : Sol} (h : l ≠ 0) : ∃ c t, cellsS l = c :: t ∧ hasS l c = true := by
 obtain ⟨e, he⟩ := has_some h
 cases hl : cellsS l with
 | nil => have := mem_cellsS.2 he; rw [hl] at this; cases this
 | cons c t => exact ⟨c, t, rfl, mem_cellsS.1 (by rw [hl]; exact List.mem_cons_self)⟩
/-- cavities, class by class -/
def cavQ (L : List Sol) (i : Nat) : List Sol := (L.take i).filter fun x => subS x innerS
theorem cavQ_zero (L : List Sol) : cavQ L 0 = [] := rfl
theorem cavQ_step {L : List Sol} {i : Nat} {x : Sol} (h : L[i]? = some x) : cavQ L (i + 1) = if subS x innerS then cavQ L i ++ [x] else cavQ L i := by
 unfold cavQ
 rw [List.take_add_one, h, List.filter_append]
 cases hx : subS x innerS <;> simp [hx]
theorem cavQ_end (s : Sol) : cavQ (classesS (stepsL true) (~~~s)) (classesS (stepsL true) (~~~s)).length = cavsS s := by
 rw [cavs_ref]
 unfold cavQ
 rw [List.take_of_length_le (Nat.le_refl _)]
end Go.Solid
end
section
namespace Go.Solid
open Go.Draw
set_option maxRecDepth 100000
def wC (S : Ch) (c : Cl) : Bool := if 0 ≤ c.2.2 then wN S c.1 c.2.1 (c.2.2.toNat + 1) else false
end Go.Solid
end
section
namespace Go.Solid
open Go.Draw
set_option maxRecDepth 100000
def rcF (s : Sol) (z y x : Int) : List Cl := ((rngI x 7).map fun x => ((x, y, z) : Cl)).filter (hasS s)
def rcG (s : Sol) (z y : Int) : List Cl := (rngI y 7).flatMap fun y => rcF s z y 0
def rcH (s : Sol) (z : Int) : List Cl := (rngI z 7).flatMap fun z => rcG s z 0
def rcY (s : Sol) (z y : Int) : List Cl := rcG s z y ++ rcH s (z + 1)
def rcX (s : Sol) (z y x : Int) : List Cl := rcF s z y x ++ rcY s z (y + 1)
theorem rng_none {a b : Int} (h : b < a) : rngI a b = [] := by
 unfold rngI
 rw [show (b - a + 1).toNat = 0 by omega]; rfl
theorem rng_cons {a b : Int} (h : a ≤ b) : rngI a b = a :: rngI (a + 1) b := by
 rw [rngI_append (a := a) (b := a) (c := b) (by omega) h]
 have : rngI a a = [a] := by unfold rngI; rw [show (a - a + 1).toNat = 1 by omega]; simp
 rw [this]; rfl
theorem all_cells : (List.range 512).map cellN = (rngI 0 7).flatMap fun z => (rngI 0 7).flatMap fun y => (rngI 0 7).map fun x => ((x, y, z) : Cl) := by decide +kernel
theorem rc_all (s : Sol) : rcH s 0 = cellsS s := by
 have e : cellsS s = ((List.range 512).map cellN).filter (hasS s) := by
  unfold cellsS bitsS
  rw [List.filter_map]
  congr 1
 rw [e, all_cells]
 unfold rcH rcG rcF
 simp only [List.filter_flatMap]
theorem rcH_end (s : Sol) {z : Int} (h : 7 < z) : rcH s z = [] := by unfold rcH; rw [rng_none h]; rfl
theorem rcH_step (s : Sol) {z : Int} (h : z ≤ 7) : rcH s z = rcY s z 0 := by
 conv => lhs; unfold rcH
 rw [rng_cons h, List.flatMap_cons]; rfl
theorem rcY_end (s : Sol) {z y : Int} (h : 7 < y) : rcY s z y = rcH s (z + 1) := by unfold rcY rcG; rw [rng_none h]; rfl
theorem rcY_step (s : Sol) {z y : Int} (h : y ≤ 7) : rcY s z y = rcX s z y 0 := by
 conv => lhs; unfold rcY rcG
 rw [rng_cons h, List.flatMap_cons, List.append_assoc]; rfl
theorem rcX_end (s : Sol) {z y x : Int} (h : 7 < x) : rcX s z y x = rcY s z (y + 1) := by unfold rcX rcF; rw [rng_none h]; rfl
theorem rcX_step (s : Sol) {z y x : Int} (h : x ≤ 7) : rcX s z y x = if hasS s (x, y, z) then (x, y, z) :: rcX s z y (x + 1) else rcX s z y (x + 1) := by
 conv => lhs; unfold rcX rcF
 rw [rng_cons h, List.map_cons, List.filter_cons]
 split <;> rfl
end Go.Solid
end
section
namespace Go.Solid
open Go.Draw
set_option maxRecDepth 100000
def bkF (l h : Cl) (z y x : Int) : List Cl := (rngI x h.1).map fun x => ((x, y, z) : Cl)
def bkG (l h : Cl) (z y : Int) : List Cl := (rngI y h.2.1).flatMap fun y => bkF l h z y l.1
def bkH (l h : Cl) (z : Int) : List Cl := (rngI z h.2.2).flatMap fun z => bkG l h z l.2.1
def bkY (l h : Cl) (z y : Int) : List Cl := bkG l h z y ++ bkH l h (z + 1)
def bkX (l h : Cl) (z y x : Int) : List Cl := bkF l h z y x ++ bkY l h z (y + 1)
theorem bkH_end (l h : Cl) {z : Int} (k : h.2.2 < z) : bkH l h z = [] := by unfold bkH; rw [rng_none k]; rfl
theorem bkH_step (l h : Cl) {z : Int} (k : z ≤ h.2.2) : bkH l h z = bkY l h z l.2.1 := by
 conv => lhs; unfold bkH
 rw [rng_cons k, List.flatMap_cons]; rfl
theorem bkY_end (l h : Cl) {z y : Int} (k : h.2.1 < y) : bkY l h z y = bkH l h (z + 1) := by unfold bkY bkG; rw [rng_none k]; rfl
theorem bkY_step (l h : Cl) {z y : Int} (k : y ≤ h.2.1) : bkY l h z y = bkX l h z y l.1 := by
 conv => lhs; unfold bkY bkG
 rw [rng_cons k, List.flatMap_cons, List.append_assoc]; rfl
theorem bkX_end (l h : Cl) {z y x : Int} (k : h.1 < x) : bkX l h z y x = bkY l h z (y + 1) := by unfold bkX bkF; rw [rng_none k]; rfl
theorem bkX_step (l h : Cl) {z y x : Int} (k : x ≤ h.1) : bkX l h z y x = (x, y, z) :: bkX l h z y (x + 1) := by
 conv => lhs; unfold bkX bkF
 rw [rng_cons k, List.map_cons]; rfl
def addL (a : Sol) (L : List Cl) : Sol := L.foldl (fun a c => a ||| one (bitN c)) a
theorem addL_nil (a : Sol) : addL a [] = a := rfl
theorem addL_cons (a : Sol) (c : Cl) (L : List Cl) : addL a (c :: L) = addL (a ||| one (bitN c)) L := rfl
def okBox (l h : Cl) : Bool := inG l && inG h && decide (l.1 ≤ h.1) && decide (l.2.1 ≤ h.2.1) && decide (l.2.2 ≤ h.2.2)
def blockM (l h : Cl) : Sol × Int := if okBox l h then (addL 0 (bkH l h l.2.2), 0) else (0, 1)
end Go.Solid
end
section
namespace Go.Solid
open Go.Draw
set_option maxRecDepth 100000
/-- the images in their order, one by one -/
def imgF (s : Sol) (k : Nat) : List Sol := ((imgL s).take k).foldl putS []
end Go.Solid
end
section
namespace Go.Solid
open Go.Draw
set_option maxRecDepth 100000
theorem mem_bk {l h c : Cl} : c ∈ bkH l h l.2.2 ↔ (l.1 ≤ c.1 ∧ c.1 ≤ h.1) ∧ (l.2.1 ≤ c.2.1 ∧ c.2.1 ≤ h.2.1) ∧ (l.2.2 ≤ c.2.2 ∧ c.2.2 ≤ h.2.2) := by
 unfold bkH bkG bkF
 simp only [List.mem_flatMap, List.mem_map, mem_rngI]
 constructor
 ·rintro ⟨z, hz, y, hy, x, hx, rfl⟩
  exact ⟨hx, hy, hz⟩
 ·rintro ⟨hx, hy, hz⟩
  exact ⟨c.2.2, hz, c.2.1, hy, c.1, hx, rfl⟩
def someB (s : Sol) (l h : Cl) : Bool := (bkH l h l.2.2).any (hasS s)
theorem some_iff {s : Sol} {l h : Cl} : someB s l h = true ↔ ∃ c, hasS s c = true ∧ (l.1 ≤ c.1 ∧ c.1 ≤ h.1) ∧ (l.2.1 ≤ c.2.1 ∧ c.2.1 ≤ h.2.1) ∧ (l.2.2 ≤ c.2.2 ∧ c.2.2 ≤ h.2.2) := by
 unfold someB
 rw [List.any_eq_true]
 constructor
 ·rintro ⟨c, h1, h2⟩
  exact ⟨c, h2, mem_bk.1 h1⟩
 ·rintro ⟨c, h1, h2⟩
  exact ⟨c, mem_bk.2 h2, h1⟩
/-- the least cell around a corner, an edge, a face, a cell -/
def lowK (x y z a b c : Nat) : Cl := ((x : Int) - 1 + a, (y : Int) - 1 + b, (z : Int) - 1 + c)
theorem touched_some (s : Sol) {x y z a b c : Nat} (hx : x ≤ 8) (hy : y ≤ 8) (ha : a < 2) (hb : b < 2) (hc : c < 2) :
  touched s (nameC (648 * z + 72 * y + 8 * x + 4 * c + 2 * b + a)) = someB s (lowK x y z a b c) ((x : Int), (y : Int), (z : Int)) := by
 rw [name_of hx hy ha hb hc]
 rw [Bool.eq_iff_iff, some_iff]
 unfold touched lowK
 rw [decide_eq_true_eq, pts_iff]
 refine exists_congr fun e => ?_
 refine and_congr_right fun _ => ?_
 constructor
 ·intro h
  have h0 := h 0; have h1 := h 1; have h2 := h 2
  have h0' : -1 ≤ ((2 * x + a : Nat) : Int) - (2 * e.1 + 1) ∧ ((2 * x + a : Nat) : Int) - (2 * e.1 + 1) ≤ 1 := h0
  have h1' : -1 ≤ ((2 * y + b : Nat) : Int) - (2 * e.2.1 + 1) ∧ ((2 * y + b : Nat) : Int) - (2 * e.2.1 + 1) ≤ 1 := h1
  have h2' : -1 ≤ ((2 * z + c : Nat) : Int) - (2 * e.2.2 + 1) ∧ ((2 * z + c : Nat) : Int) - (2 * e.2.2 + 1) ≤ 1 := h2
  simp only
  omega
 ·rintro ⟨h0, h1, h2⟩ k
  simp only at h0 h1 h2
  match k with
  | 0 => show -1 ≤ ((2 * x + a : Nat) : Int) - (2 * e.1 + 1) ∧ ((2 * x + a : Nat) : Int) - (2 * e.1 + 1) ≤ 1; omega
  | 1 => show -1 ≤ ((2 * y + b : Nat) : Int) - (2 * e.2.1 + 1) ∧ ((2 * y + b : Nat) : Int) - (2 * e.2.1 + 1) ≤ 1; omega
  | _ + 2 => show -1 ≤ ((2 * z + c : Nat) : Int) - (2 * e.2.2 + 1) ∧ ((2 * z + c : Nat) : Int) - (2 * e.2.2 + 1) ≤ 1; omega
theorem sgn_name {x y z a b c : Nat} (hx : x ≤ 8) (hy : y ≤ 8) (ha : a < 2) (hb : b < 2) (hc : c < 2) :
  sgn (nameC (648 * z + 72 * y + 8 * x + 4 * c + 2 * b + a)) = if (a + b + c) % 2 = 0 then 1 else -1 := by
 rw [name_of hx hy ha hb hc]
 unfold sgn
 have e : ((2 * x + a : Nat) : Int) + (((2 * y + b : Nat) : Int) + ((2 * z + c : Nat) : Int)) = 2 * ((x : Int) + y + z) + ((a : Int) + b + c) := by omega
 simp only
 by_cases h : (a + b + c) % 2 = 0
 ·rw [if_pos h, if_pos (by omega)]
 ·rw [if_neg h, if_neg (by omega)]
def eulQ (s : Sol) (n : Nat) : Int := ((List.range n).map fun n => if touched s (nameC n) then sgn (nameC n) else 0).sum
theorem eulQ_zero (s : Sol) : eulQ s 0 = 0 := rfl
theorem eulQ_end (s : Sol) : eulQ s 5832 = eulerS s := euler_ref s
theorem eulQ_step (s : Sol) (n : Nat) : eulQ s (n + 1) = eulQ s n + if touched s (nameC n) then sgn (nameC n) else 0 := by
 unfold eulQ
 rw [List.range_succ, List.map_append, List.sum_append, List.map_singleton, List.sum_singleton]
/-- of kind k: three bits -/
theorem eulQ_kind (s : Sol) {x y z k : Nat} (hx : x ≤ 8) (hy : y ≤ 8) (hk : k < 8) :
  eulQ s (648 * z + 72 * y + 8 * x + k + 1) = eulQ s (648 * z + 72 * y + 8 * x + k) + (if someB s (lowK x y z (k % 2) (k / 2 % 2) (k / 4)) ((x : Int), (y : Int), (z : Int)) then (if (k % 2 + k / 2 % 2 + k / 4) % 2 = 0 then 1 else -1) else 0) := by
 have e : 648 * z + 72 * y + 8 * x + k = 648 * z + 72 * y + 8 * x + 4 * (k / 4) + 2 * (k / 2 % 2) + k % 2 := by omega
 rw [eulQ_step]
 conv => lhs; rw [show touched s (nameC (648 * z + 72 * y + 8 * x + k)) = someB s (lowK x y z (k % 2) (k / 2 % 2) (k / 4)) ((x : Int), (y : Int), (z : Int)) by rw [e]; exact touched_some s hx hy (Nat.mod_lt _ (by decide)) (Nat.mod_lt _ (by decide)) (by omega), show sgn (nameC (648 * z + 72 * y + 8 * x + k)) = if (k % 2 + k / 2 % 2 + k / 4) % 2 = 0 then 1 else -1 by rw [e]; exact sgn_name hx hy (Nat.mod_lt _ (by decide)) (Nat.mod_lt _ (by decide)) (by omega)]
theorem eulQ_abs (s : Sol) : ∀ n, eulQ s n ≤ n ∧ -(n : Int) ≤ eulQ s n
 | 0 => by rw [eulQ_zero]; omega
 | n + 1 => by
  have ih := eulQ_abs s n
  rw [eulQ_step]
  have : -1 ≤ (if touched s (nameC n) then sgn (nameC n) else 0) ∧ (if touched s (nameC n) then sgn (nameC n) else 0) ≤ 1 := by
   unfold sgn
   split
   ·split <;> omega
   ·omega
  omega
def skinQ (s : Sol) (L : List Cl) (i : Nat) : Nat := ((L.take i).map (bareR s)).sum
theorem skinQ_zero (s : Sol) (L : List Cl) : skinQ s L 0 = 0 := rfl
theorem skinQ_step (s : Sol) {L : List Cl} {i : Nat} {c : Cl} (h : L[i]? = some c) : skinQ s L (i + 1) = skinQ s L i + bareR s c := by
 unfold skinQ
 rw [List.take_add_one, h, List.map_append, List.sum_append]
 simp
theorem skinQ_end (s : Sol) : skinQ s (cellsS s) (cellsS s).length = skinS s := by
 unfold skinQ skinS
 rw [List.take_of_length_le (Nat.le_refl _)]
 congr 1
 exact List.map_congr_left fun c _ => (bare_eq s c).symm
end Go.Solid
end
section
namespace Go.Proofs.YtkfimbonmnoglaaGreatDoor
open Go.ChangeShapes Go.WideShapes Go.ChangeAt Go.RowKit Go.Draw
set_option maxRecDepth 100000
theorem ownK : ownKnob Tryz.prog.godebug = none := by kernel_rfl
theorem laidO : laidOutB Tryz.prog = true := by kernel_rfl
theorem and_t {a b : Bool} (h : a = true) (k : b = true) : (a && b) = true := by rw [h, k]; rfl
theorem gMaps : mapsRowed Tryz.prog = true := by kernel_rfl
theorem gStops : (Tryz.prog.stops == []) = true := by kernel_rfl
theorem gKnobs : (Tryz.prog.stopKnobs == []) = true := by kernel_rfl
theorem gHeard : Tryz.prog.stopsHeard = true := by kernel_rfl
theorem gEnter : Tryz.prog.mayEnter = true := by kernel_rfl
theorem cMain : Tryz.pinned.checked.prog.mainIs = some (true, ("2d2b98d2e7a6d467bd98fd00f57c4e37e19420a44b0c74c4b8b93e866a403526" : String).toList) := by kernel_rfl
end Go.Proofs.YtkfimbonmnoglaaGreatDoor
end
section
namespace Go.Proofs.YtkfimbonmnoglaaGreatDoor
open Go.RowKit Go.Rel Go.Draw Go.Solid
set_option maxRecDepth 100000
attribute [local go_sem] Oper.semAt_some
/-- a list of solids in memory, opened -/
def SlO (W : World) (a : Option Addr) (l : List Sol) : Prop := l = [] ∨ ∃ b off, a = some ⟨b, off, none⟩ ∧ Cells W b off 8 (l.map solL)
theorem SlO.mono {W W' : World} {a : Option Addr} {l : List Sol} (h : SlO W a l) (hb : Below W.heap.size W W') : SlO W' a l := by
 rcases h with h | ⟨b, off, h1, h2⟩
 ·exact .inl h
 ·exact .inr ⟨b, off, h1, h2.mono hb h2.1⟩
theorem SlO.at {W : World} {a : Option Addr} {l : List Sol} (h : SlO W a l) {k : Nat} {x : Sol} (hx : l[k]? = some x) : ∃ b off, a = some ⟨b, off, none⟩ ∧ Cells W b off 8 (l.map solL) := by
 rcases h with rfl | h
 ·cases hx
 ·exact h
theorem SlS.opened {W : World} {v : Value} {l : List Sol} (h : SlS W v l) : ∃ a c, v = .slice a l.length c ∧ SlO W a l := by
 obtain ⟨a, c, hv, _, _, hc⟩ := h
 refine ⟨a, c, by rw [hv, List.length_map], ?_⟩
 rcases hc with hc | hc
 ·exact .inl (List.map_eq_nil_iff.1 hc)
 ·exact .inr hc
theorem Cells.row {W : World} {b off k : Nat} {xs : List (List Value)} (h : Cells W b off k xs) {g : Nat} (hne : b ≠ g) (cs : Array Value) : Cells (W.setRow g cs) b off k xs :=
 ⟨by rw [setRow_size]; exact h.1, fun i j u hu => (cell_row_other _ _ _ _ _ hne).trans (h.2 i j u hu)⟩
end Go.Proofs.YtkfimbonmnoglaaGreatDoor
end
