import Derived.Test.YtkfimbonmnoglaaGreatDoorG07
import Derived.Test.YtkfimbonmnoglaaGreatDoorG08
/-
  Given contracts of functions of the program, and laws for them, one behind the other.
-/
set_option linter.unusedVariables false
set_option linter.unusedSimpArgs false
set_option linter.unusedSectionVars false
section
namespace Go.Solid
open Go.Draw
set_option maxRecDepth 100000
/-! the reference's components, by growing -/
def farC (a b : Cl) : Int × Int := (max (a.1 - b.1) (b.1 - a.1) + max (a.2.1 - b.2.1) (b.2.1 - a.2.1) + max (a.2.2 - b.2.2) (b.2.2 - a.2.2), max (max (max (a.1 - b.1) (b.1 - a.1)) (max (a.2.1 - b.2.1) (b.2.1 - a.2.1))) (max (a.2.2 - b.2.2) (b.2.2 - a.2.2)))
def nearC (faces : Bool) (a b : Cl) : Bool := (faces && decide ((farC a b).1 = 1)) || (!faces && decide ((farC a b).2 = 1))
theorem near_small (f : Bool) : ((([-1, 0, 1] : List Int).flatMap fun x => ([-1, 0, 1] : List Int).flatMap fun y => ([-1, 0, 1] : List Int).map fun z => ((x, y, z) : Cl)).all fun d => nearC f d (0, 0, 0) == (decide (d ≠ (0, 0, 0)) && decide (d ∈ stepsL f))) = true := by cases f <;> decide +kernel
theorem near_sub (f : Bool) (a b : Cl) : nearC f a b = nearC f (subC a b) (0, 0, 0) := by
 unfold nearC farC subC
 simp only [Int.sub_zero, Int.zero_sub, Int.neg_sub]
theorem near_iff {f : Bool} {a b : Cl} : nearC f a b = true ↔ a ≠ b ∧ subC a b ∈ stepsL f := by
 rw [near_sub]
 have hz : a ≠ b ↔ subC a b ≠ (0, 0, 0) := by
  refine not_congr ⟨fun h => ?_, fun h => ?_⟩
  ·subst h; unfold subC; simp
  ·have h1 : a.1 - b.1 = 0 := congrArg Prod.fst h
   have h2 : a.2.1 - b.2.1 = 0 := congrArg (fun c : Cl => c.2.1) h
   have h3 : a.2.2 - b.2.2 = 0 := congrArg (fun c : Cl => c.2.2) h
   exact Prod.ext (by omega) (Prod.ext (by omega) (by omega))
 rw [hz]
 generalize subC a b = d
 by_cases hd : ∀ k, -1 ≤ co d k ∧ co d k ≤ 1
 ·obtain ⟨x, y, z⟩ := d
  have hx := hd 0; have hy := hd 1; have hz := hd 2
  have hx' : x = -1 ∨ x = 0 ∨ x = 1 := by have : -1 ≤ x ∧ x ≤ 1 := hx; omega
  have hy' : y = -1 ∨ y = 0 ∨ y = 1 := by have : -1 ≤ y ∧ y ≤ 1 := hy; omega
  have hz' : z = -1 ∨ z = 0 ∨ z = 1 := by have : -1 ≤ z ∧ z ≤ 1 := hz; omega
  have hm : ((x, y, z) : Cl) ∈ (([-1, 0, 1] : List Int).flatMap fun x => ([-1, 0, 1] : List Int).flatMap fun y => ([-1, 0, 1] : List Int).map fun z => ((x, y, z) : Cl)) := by
   simp only [List.mem_flatMap, List.mem_map, List.mem_cons, List.not_mem_nil, or_false]
   exact ⟨x, hx', y, hy', z, hz', rfl⟩
  have := List.all_eq_true.1 (near_small f) _ hm
  rw [beq_iff_eq] at this
  rw [this, Bool.and_eq_true, decide_eq_true_eq, decide_eq_true_eq]
 ·constructor
  ·intro h
   refine absurd (fun k => ?_) hd
   unfold nearC farC at h
   simp only [Int.sub_zero, Int.zero_sub, Bool.or_eq_true, Bool.and_eq_true, decide_eq_true_eq] at h
   have h0 : (-1 ≤ d.1 ∧ d.1 ≤ 1) ∧ (-1 ≤ d.2.1 ∧ d.2.1 ≤ 1) ∧ (-1 ≤ d.2.2 ∧ d.2.2 ≤ 1) := by
    rcases h with ⟨_, h⟩ | ⟨_, h⟩ <;> omega
   match k with
   | 0 => exact h0.1
   | 1 => exact h0.2.1
   | _ + 2 => exact h0.2.2
  ·rintro ⟨_, h⟩
   exact absurd (steps_in h) hd
theorem add_sub (a b : Cl) : addC b (subC a b) = a := by
 unfold addC subC
 exact Prod.ext (by simp only; omega) (Prod.ext (by simp only; omega) (by simp only; omega))
theorem one_has {c e : Cl} (hc : inG c = true) : hasS (one (bitN c)) e = true ↔ e = c := by
 unfold hasS
 cases he : inG e with
 | false =>
  constructor
  ·simp
  ·rintro rfl; rw [he] at hc; cases hc
 | true =>
  rw [Bool.true_and, one_bit (bitN_lt he), decide_eq_true_eq]
  exact ⟨fun h => bitN_inj he hc h, fun h => by rw [h]⟩
theorem or_has {a b : Sol} {e : Cl} : hasS (a ||| b) e = true ↔ hasS a e = true ∨ hasS b e = true := by
 unfold hasS
 cases inG e with
 | false => simp
 | true => rw [Bool.true_and, Bool.true_and, Bool.true_and, BitVec.getLsbD_or, Bool.or_eq_true]
def passStep (f : Bool) (ins : List Cl) (p : Sol × Bool) (c : Cl) : Sol × Bool := if hasS p.1 c then p else if ins.any (fun e => nearC f c e) then (p.1 ||| one (bitN c), true) else p
def passF (f : Bool) (ins l : List Cl) (p : Sol × Bool) : Sol × Bool := l.foldl (passStep f ins) p
theorem pass_spec (f : Bool) (ins : List Cl) : ∀ (l : List Cl) (p : Sol × Bool), (∀ c ∈ l, inG c = true) → (∀ e, hasS (passF f ins l p).1 e = true ↔ hasS p.1 e = true ∨ (e ∈ l ∧ ins.any (fun x => nearC f e x) = true)) ∧ ((passF f ins l p).2 = true ↔ p.2 = true ∨ ∃ e, e ∈ l ∧ hasS p.1 e = false ∧ ins.any (fun x => nearC f e x) = true)
 | [], p, _ => ⟨fun e => by show hasS p.1 e = true ↔ _; simp, by show p.2 = true ↔ _; simp⟩
 | c :: l, p, h => by
  have hc := h c List.mem_cons_self
  obtain ⟨i1, i2⟩ := pass_spec f ins l (passStep f ins p c) fun x hx => h x (List.mem_cons_of_mem _ hx)
  have e0 : passF f ins (c :: l) p = passF f ins l (passStep f ins p c) := rfl
  rw [e0]
  have s1 : ∀ e, hasS (passStep f ins p c).1 e = true ↔ hasS p.1 e = true ∨ (e = c ∧ ins.any (fun x => nearC f e x) = true) := by
   intro e
   unfold passStep
   by_cases h1 : hasS p.1 c = true
   ·rw [if_pos h1]
    exact ⟨.inl, fun h => h.elim id fun h => by rw [h.1]; exact h1⟩
   ·rw [if_neg h1]
    by_cases h2 : ins.any (fun e => nearC f c e) = true
    ·rw [if_pos h2]
     simp only
     rw [or_has, one_has hc]
     exact ⟨fun h => h.imp id fun h => ⟨h, by rw [h]; exact h2⟩, fun h => h.imp id fun h => h.1⟩
    ·rw [if_neg h2]
     exact ⟨.inl, fun h => h.elim id fun h => absurd (h.1 ▸ h.2) h2⟩
  have s2 : (passStep f ins p c).2 = true ↔ p.2 = true ∨ (hasS p.1 c = false ∧ ins.any (fun x => nearC f c x) = true) := by
   unfold passStep
   by_cases h1 : hasS p.1 c = true
   ·rw [if_pos h1, h1]; simp
   ·rw [if_neg h1, not_has.2 h1]
    by_cases h2 : ins.any (fun e => nearC f c e) = true
    ·rw [if_pos h2]; simp [h2]
    ·rw [if_neg h2]; simp [h2]
  refine ⟨fun e => ?_, ?_⟩
  ·rw [i1, s1, List.mem_cons]
   constructor
   ·rintro ((h | h) | h)
    ·exact .inl h
    ·exact .inr ⟨.inl h.1, h.2⟩
    ·exact .inr ⟨.inr h.1, h.2⟩
   ·rintro (h | ⟨h | h, k⟩)
    ·exact .inl (.inl h)
    ·exact .inl (.inr ⟨h, k⟩)
    ·exact .inr ⟨h, k⟩
  ·rw [i2, s2]
   constructor
   ·rintro ((h | h) | ⟨e, h, k, m⟩)
    ·exact .inl h
    ·exact .inr ⟨c, List.mem_cons_self, h.1, h.2⟩
    ·refine .inr ⟨e, List.mem_cons_of_mem _ h, ?_, m⟩
     rw [not_has] at k ⊢
     exact fun hh => k ((s1 e).2 (.inl hh))
   ·rintro (h | ⟨e, h, k, m⟩)
    ·exact .inl (.inl h)
    ·rcases List.mem_cons.1 h with rfl | h
     ·exact .inl (.inr ⟨k, m⟩)
     ·cases hp : hasS (passStep f ins p c).1 e with
      | false => exact .inr ⟨e, h, hp, m⟩
      | true =>
       rcases (s1 e).1 hp with h3 | h3
       ·rw [k] at h3; cases h3
       ·obtain ⟨rfl, h4⟩ := h3
        exact .inl (.inr ⟨k, h4⟩)
/-- on the way to a component -/
structure Growing (St : List Cl) (l : Sol) (c : Cl) (K : Sol) : Prop where
 sub : subS K l = true
 has : hasS K c = true
 reach : ∀ e, hasS K e = true → Reach St l c e
theorem grow_start {St : List Cl} {l : Sol} {c : Cl} (h : hasS l c = true) : Growing St l c (one (bitN c)) := by
 have hg := has_in h
 refine ⟨subS_iff.2 fun e he => ?_, (one_has hg).2 rfl, fun e he => ?_⟩
 ·rw [(one_has hg).1 he]; exact h
 ·rw [(one_has hg).1 he]; exact Reach.start h
theorem any_near {f : Bool} {K : Sol} {e : Cl} : (cellsS K).any (fun x => nearC f e x) = true ↔ ∃ x, hasS K x = true ∧ nearC f e x = true := by
 rw [List.any_eq_true]
 exact ⟨fun ⟨x, h, k⟩ => ⟨x, mem_cellsS.1 h, k⟩, fun ⟨x, h, k⟩ => ⟨x, mem_cellsS.2 h, k⟩⟩
theorem grow_pass {f : Bool} {l : Sol} {c : Cl} {K : Sol} (h : Growing (stepsL f) l c K) : Growing (stepsL f) l c (passF f (cellsS K) (cellsS l) (K, false)).1 := by
 have hp := (pass_spec f (cellsS K) (cellsS l) (K, false) fun c hc => cellsS_in hc).1
 have key : ∀ e, hasS (passF f (cellsS K) (cellsS l) (K, false)).1 e = true → Reach (stepsL f) l c e := by
  intro e he
  rcases (hp e).1 he with h1 | ⟨h1, h2⟩
  ·exact h.reach e h1
  ·obtain ⟨x, hx, hn⟩ := any_near.1 h2
   obtain ⟨_, hd⟩ := near_iff.1 hn
   have := (h.reach x hx).step hd (by rw [add_sub]; exact mem_cellsS.1 h1)
   rw [add_sub] at this; exact this
 exact ⟨subS_iff.2 fun e he => (key e he).has, (hp c).2 (.inl h.has), key⟩
theorem grow_end {f : Bool} {l : Sol} {c : Cl} {K : Sol} (h : Growing (stepsL f) l c K) (hb : (passF f (cellsS K) (cellsS l) (K, false)).2 = false) : (passF f (cellsS K) (cellsS l) (K, false)).1 = K ∧ K = partS (stepsL f) l c := by
 obtain ⟨hp, hq⟩ := pass_spec f (cellsS K) (cellsS l) (K, false) fun c hc => cellsS_in hc
 have hno : ∀ e, e ∈ cellsS l → hasS K e = false → ¬ ((cellsS K).any (fun x => nearC f e x) = true) := by
  intro e he hk hn
  have := hq.2 (.inr ⟨e, he, hk, hn⟩)
  rw [hb] at this; cases this
 have e1 : (passF f (cellsS K) (cellsS l) (K, false)).1 = K := by
  refine subS_antisymm (subS_iff.2 fun e he => ?_) (subS_iff.2 fun e he => (hp e).2 (.inl he))
  rcases (hp e).1 he with h1 | ⟨h1, h2⟩
  ·exact h1
  ·cases hk : hasS K e with
   | true => rfl
   | false => exact absurd h2 (hno e h1 hk)
 refine ⟨e1, comp_unique ⟨h.sub, h.has, h.reach, fun e he d hd hl => ?_⟩ (comp_spec (subS_iff.1 h.sub c h.has))⟩
 cases hk : hasS K (addC e d) with
 | true => rfl
 | false =>
  refine absurd (any_near.2 ⟨e, he, near_iff.2 ⟨fun hh => ?_, ?_⟩⟩) (hno _ (mem_cellsS.2 hl) hk)
  ·rw [hh, he] at hk; cases hk
  ·have : subC (addC e d) e = d := by
    unfold subC addC
    exact Prod.ext (by simp only; omega) (Prod.ext (by simp only; omega) (by simp only; omega))
   rw [this]; exact hd
theorem grow_more {f : Bool} {l K : Sol} (hb : (passF f (cellsS K) (cellsS l) (K, false)).2 = true) : countS (cutS l (passF f (cellsS K) (cellsS l) (K, false)).1) < countS (cutS l K) := by
 obtain ⟨hp, hq⟩ := pass_spec f (cellsS K) (cellsS l) (K, false) fun c hc => cellsS_in hc
 rcases hq.1 hb with h | ⟨e, he, hk, hn⟩
 ·cases h
 ·have hs : subS (cutS l (passF f (cellsS K) (cellsS l) (K, false)).1) (cutS l K) = true := subS_iff.2 fun x hx => by
   obtain ⟨h1, h2⟩ := cut_has.1 hx
   refine cut_has.2 ⟨h1, ?_⟩
   rw [not_has] at h2 ⊢
   exact fun h => h2 ((hp x).2 (.inl h))
  refine Nat.lt_of_not_le fun hle => ?_
  have := count_eq hs hle
  have h2 : hasS (cutS l K) e = true := cut_has.2 ⟨mem_cellsS.1 he, hk⟩
  rw [← this] at h2
  have h3 := (cut_has.1 h2).2
  rw [not_has] at h3
  exact h3 ((hp e).2 (.inr ⟨he, hn⟩))
/-- the passes of the reference, until none grows -/
def growN (f : Bool) (l : Sol) : Nat → Sol → Sol
 | 0, K => K
 | n + 1, K => let p := passF f (cellsS K) (cellsS l) (K, false); if p.2 then growN f l n p.1 else p.1
/-! skin -/
theorem steps_faces : stepsL true = [(0, 0, -1), (0, -1, 0), (-1, 0, 0), (1, 0, 0), (0, 1, 0), (0, 0, 1)] := by decide +kernel
def oneB (b : Bool) : Nat := if b then 1 else 0
def bareR (s : Sol) (c : Cl) : Nat := oneB (!hasS s (addC c (-1, 0, 0))) + oneB (!hasS s (addC c (0, -1, 0))) + oneB (!hasS s (addC c (0, 0, -1))) + oneB (!hasS s (addC c (1, 0, 0))) + oneB (!hasS s (addC c (0, 1, 0))) + oneB (!hasS s (addC c (0, 0, 1)))
theorem filter_len {α : Type} (p : α → Bool) : ∀ l : List α, (l.filter p).length = (l.map fun a => oneB (p a)).sum
 | [] => rfl
 | a :: l => by
  rw [List.filter_cons, List.map_cons, List.sum_cons, ← filter_len p l]
  cases p a
  ·simp [oneB]
  ·simp [oneB]; omega
theorem bare_eq (s : Sol) (c : Cl) : bareN s c = bareR s c := by
 unfold bareN bareR
 rw [filter_len, steps_faces]
 simp only [List.map_cons, List.map_nil, List.sum_cons, List.sum_nil]
 omega
/-! cavities -/
def innerS : Sol := mkS fun z => if 1 ≤ z ∧ z ≤ 6 then 0x007e7e7e7e7e7e00#64 else 0
theorem inner_all : ((List.range 512).all fun n => innerS.getLsbD n == (decide (1 ≤ n % 8 ∧ n % 8 ≤ 6) && decide (1 ≤ n / 8 % 8 ∧ n / 8 % 8 ≤ 6) && decide (1 ≤ n / 64 ∧ n / 64 ≤ 6))) = true := by decide +kernel
theorem inner_has {c : Cl} : hasS innerS c = true ↔ (1 ≤ c.1 ∧ c.1 ≤ 6) ∧ (1 ≤ c.2.1 ∧ c.2.1 ≤ 6) ∧ (1 ≤ c.2.2 ∧ c.2.2 ≤ 6) := by
 cases hg : inG c with
 | false =>
  rw [hasS_out hg]
  constructor
  ·intro h; cases h
  ·rintro ⟨h1, h2, h3⟩
   have : inG c = true := inG_iff.2 ⟨by omega, by omega, by omega⟩
   rw [hg] at this; cases this
 | true =>
  have h := List.all_eq_true.1 inner_all (bitN c) (List.mem_range.2 (bitN_lt hg))
  have hG := inG_iff.1 hg
  have hb : ((bitN c : Nat) : Int) = 64 * c.2.2 + 8 * c.2.1 + c.1 := by unfold bitN; omega
  unfold hasS
  rw [hg, Bool.true_and, beq_iff_eq.1 h, Bool.and_eq_true, Bool.and_eq_true, decide_eq_true_eq, decide_eq_true_eq, decide_eq_true_eq]
  omega
def cavB (x : Sol) : Bool := decide (0 < (loS x).1) && decide (0 < (loS x).2.1) && decide (0 < (loS x).2.2) && decide ((hiS x).1 < 7) && decide ((hiS x).2.1 < 7) && decide ((hiS x).2.2 < 7)
theorem cav_inner {x : Sol} (hx : x ≠ 0) : cavB x = subS x innerS := by
 rw [Bool.eq_iff_iff]
 unfold cavB
 simp only [Bool.and_eq_true, decide_eq_true_eq]
 constructor
 ·rintro ⟨⟨⟨⟨⟨h1, h2⟩, h3⟩, h4⟩, h5⟩, h6⟩
  refine subS_iff.2 fun c hc => inner_has.2 ?_
  have a0 : (loS x).1 ≤ c.1 := loS_le hc 0
  have a1 : (loS x).2.1 ≤ c.2.1 := loS_le hc 1
  have a2 : (loS x).2.2 ≤ c.2.2 := loS_le hc 2
  have b0 : c.1 ≤ (hiS x).1 := le_hiS hc 0
  have b1 : c.2.1 ≤ (hiS x).2.1 := le_hiS hc 1
  have b2 : c.2.2 ≤ (hiS x).2.2 := le_hiS hc 2
  omega
 ·intro h
  have key : ∀ c, hasS x c = true → _ := fun c hc => inner_has.1 (subS_iff.1 h c hc)
  obtain ⟨c0, h0, e0⟩ := loS_at hx 0
  obtain ⟨c1, h1, e1⟩ := loS_at hx 1
  obtain ⟨c2, h2, e2⟩ := loS_at hx 2
  obtain ⟨d0, g0, f0⟩ := hiS_at hx 0
  obtain ⟨d1, g1, f1⟩ := hiS_at hx 1
  obtain ⟨d2, g2, f2⟩ := hiS_at hx 2
  have e0' : (loS x).1 = c0.1 := e0
  have e1' : (loS x).2.1 = c1.2.1 := e1
  have e2' : (loS x).2.2 = c2.2.2 := e2
  have f0' : (hiS x).1 = d0.1 := f0
  have f1' : (hiS x).2.1 = d1.2.1 := f1
  have f2' : (hiS x).2.2 = d2.2.2 := f2
  have := key c0 h0; have := key c1 h1; have := key c2 h2; have := key d0 g0; have := key d1 g1; have := key d2 g2
  omega
def cavsS (s : Sol) : List Sol := (classesS (stepsL true) (~~~s)).filter cavB
theorem classes_ne {St : List Cl} (hS : Sym St) {s x : Sol} (h : x ∈ classesS St s) : x ≠ 0 := by
 obtain ⟨c, _, hK, _⟩ := (classes_parts hS s).comp x h
 intro h0
 have := mem_cellsS.2 hK.has
 rw [h0, cellsS_zero] at this; cases this
theorem cavs_ref (s : Sol) : cavsS s = (classesS (stepsL true) (~~~s)).filter fun x => subS x innerS :=
 List.filter_congr fun x hx => cav_inner (classes_ne (steps_sym true) hx)
/-! the count, plane by plane -/
theorem count_planes (s : Sol) : countS s = cardU (plv s 0) + (cardU (plv s 1) + (cardU (plv s 2) + (cardU (plv s 3) + (cardU (plv s 4) + (cardU (plv s 5) + (cardU (plv s 6) + (cardU (plv s 7) + 0))))))) := by
 unfold countS bitsS
 rw [cells_filter]
 have hp : ∀ z (q : U), (planeL z q).length = cardU q := fun z q => by
  unfold planeL; rw [List.length_map]; rfl
 rw [show cellsFrom s 8 = cellsFrom s (8 - 0) from rfl, cellsFrom_succ s (by omega), cellsFrom_succ s (by omega), cellsFrom_succ s (by omega), cellsFrom_succ s (by omega), cellsFrom_succ s (by omega), cellsFrom_succ s (by omega), cellsFrom_succ s (by omega), cellsFrom_succ s (by omega)]
 simp only [List.length_append, hp]
 rfl
end Go.Solid
end
section
namespace Go.Solid
open Go.Draw
set_option maxRecDepth 100000
/-! motions: what Moved, Placed, Then and Back return -/
def inB (n a b : Int) : Bool := decide (a ≤ n) && decide (n ≤ b)
def shortB (d : Cl) : Bool := inB d.1 (-7) 7 && inB d.2.1 (-7) 7 && inB d.2.2 (-7) 7
def rightB (t : Int) (d : Cl) : Bool := inB t 0 23 && shortB d
theorem inB_iff {n a b : Int} : inB n a b = true ↔ a ≤ n ∧ n ≤ b := by unfold inB; simp
theorem shortB_iff {d : Cl} : shortB d = true ↔ ∀ k, -7 ≤ co d k ∧ co d k ≤ 7 := by
 unfold shortB
 rw [Bool.and_eq_true, Bool.and_eq_true, inB_iff, inB_iff, inB_iff]
 constructor
 ·rintro ⟨⟨h1, h2⟩, h3⟩ k
  match k with
  | 0 => exact h1
  | 1 => exact h2
  | _ + 2 => exact h3
 ·intro h; exact ⟨⟨h 0, h 1⟩, h 2⟩
theorem rightB_iff {t : Int} {d : Cl} : rightB t d = true ↔ (0 ≤ t ∧ t ≤ 23) ∧ shortB d = true := by
 unfold rightB; rw [Bool.and_eq_true, inB_iff]
def movedM (s : Sol) (d : Cl) : Sol × Int := if s = 0 then (0, 0) else if shortB d then (if stays (movC d) s then (imgS (movC d) s, 0) else (0, 20)) else (0, 20)
def turnedM (s : Sol) (t : Int) : Sol × Int := if inB t 0 23 then (spunS s t.toNat, 0) else (0, 1)
def placedM (s : Sol) (t : Int) (d : Cl) : Sol × Int := if rightB t d then movedM (spunS s t.toNat) d else (0, 1)
abbrev Mo := Int × Cl
def thenM (m n : Mo) : Mo × Int :=
 if rightB m.1 m.2 && rightB n.1 n.2 then
  (if rightB ((mulT m.1.toNat n.1.toNat : Nat) : Int) (addC (movT n.1.toNat m.2) n.2) then ((((mulT m.1.toNat n.1.toNat : Nat) : Int), addC (movT n.1.toNat m.2) n.2), 0) else ((0, (0, 0, 0)), 20))
 else ((0, (0, 0, 0)), 1)
def backM (m : Mo) : Mo × Int := if rightB m.1 m.2 then ((((invT m.1.toNat : Nat) : Int), negC (movT (invT m.1.toNat) m.2)), 0) else ((0, (0, 0, 0)), 1)
/-- what moves within the grid is short -/
theorem stays_short {s : Sol} {d : Cl} (hs : s ≠ 0) (h : stays (movC d) s = true) : shortB d = true := by
 obtain ⟨c, hc⟩ := has_some hs
 have h1 := co_in (has_in hc)
 have h2 := co_in (stays_iff.1 h c hc)
 refine shortB_iff.2 fun k => ?_
 have := h1 k; have := h2 k
 rw [co_mov] at this
 omega
theorem movedM_ok {s p : Sol} {d : Cl} : movedM s d = (p, 0) ↔ (s = 0 ∧ p = 0) ∨ (s ≠ 0 ∧ stays (movC d) s = true ∧ p = imgS (movC d) s) := by
 unfold movedM
 by_cases hs : s = 0
 ·rw [if_pos hs]
  simp only [Prod.mk.injEq, and_true]
  exact ⟨fun h => .inl ⟨hs, h.symm⟩, fun h => h.elim (fun h => h.2.symm) fun h => absurd hs h.1⟩
 ·rw [if_neg hs]
  constructor
  ·intro h
   right
   by_cases h1 : shortB d = true
   ·rw [if_pos h1] at h
    by_cases h2 : stays (movC d) s = true
    ·rw [if_pos h2] at h
     exact ⟨hs, h2, (congrArg Prod.fst h).symm⟩
    ·rw [if_neg h2] at h
     have := congrArg Prod.snd h
     simp at this
   ·rw [if_neg h1] at h
    have := congrArg Prod.snd h
    simp at this
  ·rintro (h | ⟨_, h2, rfl⟩)
   ·exact absurd h.1 hs
   ·rw [if_pos (stays_short hs h2), if_pos h2]
theorem movedM_none (s : Sol) : movedM s (0, 0, 0) = (s, 0) := by
 rw [movedM_ok]
 by_cases hs : s = 0
 ·exact .inl ⟨hs, hs⟩
 ·have := imgS_id (f := movC (0, 0, 0)) (s := s) fun c _ => mov_zero c
  exact .inr ⟨hs, this.1, this.2.symm⟩
theorem placedM_ok {s p : Sol} {t : Int} {d : Cl} : placedM s t d = (p, 0) ↔ rightB t d = true ∧ movedM (spunS s t.toNat) d = (p, 0) := by
 unfold placedM
 by_cases h : rightB t d = true
 ·rw [if_pos h]; exact ⟨fun k => ⟨h, k⟩, fun k => k.2⟩
 ·rw [if_neg h]
  constructor
  ·intro k; have := congrArg Prod.snd k; simp at this
  ·intro k; exact absurd k.1 h
theorem spun_nil (t : Nat) : spunS 0 t = 0 := img_zero _
theorem spun_zero_iff {s : Sol} {t : Nat} : spunS s t = 0 ↔ s = 0 := ⟨fun h => Classical.byContradiction fun hs => spun_ne hs t h, fun h => by rw [h, spun_nil]⟩
/-- a motion that fits is told by what Placed returns -/
theorem placed_fits {a b : Sol} (hb : b ≠ 0) {t : Int} {d : Cl} : (∃ p, placedM b t d = (p, 0) ∧ subS p a = true) ↔ 0 ≤ t ∧ FitsM a b (t.toNat, d) := by
 constructor
 ·rintro ⟨p, h, hp⟩
  obtain ⟨h1, h2⟩ := placedM_ok.1 h
  obtain ⟨ht, _⟩ := rightB_iff.1 h1
  rcases movedM_ok.1 h2 with ⟨h3, _⟩ | ⟨_, h4, rfl⟩
  ·exact absurd h3 (spun_ne hb _)
  ·exact ⟨ht.1, ⟨by show t.toNat < 24; omega, h4, hp⟩⟩
 ·rintro ⟨ht, h1, h2, h3⟩
  have h1' : t.toNat < 24 := h1
  exact ⟨_, placedM_ok.2 ⟨rightB_iff.2 ⟨⟨ht, by omega⟩, stays_short (spun_ne hb _) h2⟩, movedM_ok.2 (.inr ⟨spun_ne hb _, h2, rfl⟩)⟩, h3⟩
theorem linA_bound (a : Ax) {d : Cl} {K : Int} (h : ∀ k, -K ≤ co d k ∧ co d k ≤ K) : -K ≤ linA a d ∧ linA a d ≤ K := by
 unfold linA
 have := h a.1
 split <;> omega
theorem movT_short (t : Nat) {d : Cl} (h : shortB d = true) : shortB (movT t d) = true := by
 rw [shortB_iff] at h ⊢
 intro k
 match k with
 | 0 => exact linA_bound _ h
 | 1 => exact linA_bound _ h
 | _ + 2 => exact linA_bound _ h
theorem neg_short {d : Cl} (h : shortB d = true) : shortB (negC d) = true := by
 rw [shortB_iff] at h ⊢
 intro k
 have := h k
 rw [co_neg]; omega
/-- what is placed is taken back -/
theorem back_law {s p : Sol} {m : Mo} (h : placedM s m.1 m.2 = (p, 0)) : placedM p (backM m).1.1 (backM m).1.2 = (s, 0) := by
 obtain ⟨h1, h2⟩ := placedM_ok.1 h
 obtain ⟨ht, hd⟩ := rightB_iff.1 h1
 obtain ⟨t, d⟩ := m
 simp only at h h1 h2 ht hd
 have hT : t.toNat < 24 := by omega
 have hI := inv_lt hT
 have eB : (backM (t, d)).1 = (((invT t.toNat : Nat) : Int), negC (movT (invT t.toNat) d)) := by unfold backM; simp only; rw [if_pos h1]
 rw [eB]
 refine placedM_ok.2 ⟨rightB_iff.2 ⟨⟨by simp only; omega, by simp only; omega⟩, neg_short (movT_short _ hd)⟩, ?_⟩
 show movedM (spunS p (((invT t.toNat : Nat) : Int)).toNat) (negC (movT (invT t.toNat) d)) = (s, 0)
 rw [Int.toNat_natCast]
 rcases movedM_ok.1 h2 with ⟨h3, rfl⟩ | ⟨h3, h4, rfl⟩
 ·rw [spun_zero_iff.1 h3, spun_nil]
  exact movedM_ok.2 (.inl ⟨rfl, rfl⟩)
 ·have hs : s ≠ 0 := fun e => h3 (by rw [e, spun_nil])
  -- the turned moved solid is the solid, moved
  have key : ∀ c, movC (negC (movT (invT t.toNat) d)) (turnC (invT t.toNat) (movC d (turnC t.toNat c))) = c := fun c => by
   rw [turn_mov, mov_back, turn_inv hT]
  have c1 := imgS_comp (f := turnC t.toNat) (g := movC d) (spun_stays s _) h4
  have hst : stays (fun c => movC d (turnC t.toNat c)) s = true := c1.1
  have c2 := imgS_comp (f := fun c => movC d (turnC t.toNat c)) (g := turnC (invT t.toNat)) hst (by
   rw [c1.2]; exact spun_stays _ _)
  have id := imgS_id (s := s) (f := fun c => movC (negC (movT (invT t.toNat) d)) (turnC (invT t.toNat) (movC d (turnC t.toNat c)))) fun c _ => key c
  have e5 : imgS (fun c => turnC (invT t.toNat) (movC d (turnC t.toNat c))) s = spunS (imgS (movC d) (spunS s t.toNat)) (invT t.toNat) := by
   rw [c2.2, c1.2]; rfl
  refine movedM_ok.2 (.inr ⟨spun_ne (img_ne h4 h3) _, ?_, ?_⟩)
  ·rw [← e5, stays_iff]
   intro e he
   obtain ⟨c, hc, rfl⟩ := (imgS_has c2.1 (has_in he)).1 he
   rw [key]; exact has_in hc
  ·rw [← e5]
   have c3 := imgS_comp (f := fun c => turnC (invT t.toNat) (movC d (turnC t.toNat c))) (g := movC (negC (movT (invT t.toNat) d))) c2.1 (by
    rw [stays_iff]
    intro e he
    obtain ⟨c, hc, rfl⟩ := (imgS_has c2.1 (has_in he)).1 he
    rw [key]; exact has_in hc)
   rw [← c3.2, id.2]
/-- what two motions place, one behind the other -/
theorem then_law {s p q : Sol} {m n : Mo} (h : placedM s m.1 m.2 = (p, 0)) (k : placedM p n.1 n.2 = (q, 0)) (he : (thenM m n).2 = 0) : placedM s (thenM m n).1.1 (thenM m n).1.2 = (q, 0) := by
 obtain ⟨h1, h2⟩ := placedM_ok.1 h
 obtain ⟨k1, k2⟩ := placedM_ok.1 k
 obtain ⟨ht, hd⟩ := rightB_iff.1 h1
 obtain ⟨kt, kd⟩ := rightB_iff.1 k1
 have hT : m.1.toNat < 24 := by omega
 have kT : n.1.toNat < 24 := by omega
 unfold thenM at he ⊢
 rw [if_pos (by rw [h1, k1]; rfl)] at he ⊢
 by_cases hr : rightB ((mulT m.1.toNat n.1.toNat : Nat) : Int) (addC (movT n.1.toNat m.2) n.2) = true
 ·rw [if_pos hr]
  refine placedM_ok.2 ⟨hr, ?_⟩
  simp only [Int.toNat_natCast]
  rcases movedM_ok.1 h2 with ⟨h3, rfl⟩ | ⟨h3, h4, rfl⟩
  ·have hs := spun_zero_iff.1 h3
   rw [spun_nil] at k2
   rcases movedM_ok.1 k2 with ⟨_, rfl⟩ | ⟨h5, _⟩
   ·rw [hs, spun_nil]
    exact movedM_ok.2 (.inl ⟨rfl, rfl⟩)
   ·exact absurd rfl h5
  ·have hs : s ≠ 0 := fun e => h3 (by rw [e, spun_nil])
   rcases movedM_ok.1 k2 with ⟨h5, _⟩ | ⟨_, h6, rfl⟩
   ·exact absurd h5 (spun_ne (img_ne h4 h3) _)
   ·have := motion_comp (m := (m.1.toNat, m.2)) (n := (n.1.toNat, n.2)) hT kT h4 h6
    exact movedM_ok.2 (.inr ⟨spun_ne hs _, this.1, this.2.symm⟩)
 ·rw [if_neg hr] at he
  simp at he
/-! how the program and the reference find them -/
theorem find_range {p : Nat → Bool} {k : Nat} (hk : k < 24) (h : p k = true) (hu : ∀ t, t < 24 → p t = true → t = k) : (List.range 24).find? p = some k := by
 cases hf : (List.range 24).find? p with
 | none =>
  have := List.find?_eq_none.1 hf k (List.mem_range.2 hk)
  exact absurd h this
 | some t =>
  have h1 := List.find?_some hf
  have h2 := List.mem_range.1 (List.mem_of_find?_eq_some hf)
  rw [hu t h2 h1]
def foundB (to : Cl → Cl) (t : Nat) : Bool := turnC t (1, 0, 0) == to (1, 0, 0) && turnC t (0, 1, 0) == to (0, 1, 0) && turnC t (0, 0, 1) == to (0, 0, 1)
theorem found_mul {t u : Nat} (ht : t < 24) (hu : u < 24) : (List.range 24).find? (foundB fun c => turnC u (turnC t c)) = some (mulT t u) := by
 refine find_range (mul_lt ht hu) ?_ fun v hv h => ?_
 ·unfold foundB
  simp only [turn_mul ht hu, beq_self_eq_true, Bool.and_self]
 ·have h1 := List.all_eq_true.1 (List.all_eq_true.1 told_all v (List.mem_range.2 hv)) (mulT t u) (List.mem_range.2 (mul_lt ht hu))
  unfold foundB at h
  simp only [turn_mul ht hu] at h
  rw [h, beq_iff_eq] at h1
  exact eq_of_beq h1.symm
def carC (m : Mo) (c : Cl) : Cl := movC m.2 (turnC m.1.toNat c)
/-- the reference's search, by four cells -/
def ofB (f0 f1 f2 f3 t0 t1 t2 t3 : Cl) (t : Nat) : Bool := movC (subC t0 (turnC t f0)) (turnC t f1) == t1 && movC (subC t0 (turnC t f0)) (turnC t f2) == t2 && movC (subC t0 (turnC t f0)) (turnC t f3) == t3
theorem add_sub' (b c : Cl) : addC b (subC c b) = c := by
 unfold addC subC
 exact Prod.ext (by simp only; omega) (Prod.ext (by simp only; omega) (by simp only; omega))
theorem movC_apart (t : Nat) (a b c : Cl) : movC (subC a (turnC t b)) (turnC t c) = addC a (movT t (subC c b)) := by
 have h := turn_add t b (subC c b)
 rw [add_sub'] at h
 rw [h]
 unfold movC addC subC
 exact Prod.ext (by simp only; omega) (Prod.ext (by simp only; omega) (by simp only; omega))
theorem addC_inj {a b c : Cl} (h : addC a b = addC a c) : b = c := by
 have h1 : a.1 + b.1 = a.1 + c.1 := congrArg Prod.fst h
 have h2 : a.2.1 + b.2.1 = a.2.1 + c.2.1 := congrArg (fun x : Cl => x.2.1) h
 have h3 : a.2.2 + b.2.2 = a.2.2 + c.2.2 := congrArg (fun x : Cl => x.2.2) h
 exact Prod.ext (by omega) (Prod.ext (by omega) (by omega))
/-- whatever carries the corners is told by its turn -/
theorem of_told {t : Nat} {k : Nat} (ht : t < 24) (hk : k < 24) {f0 f1 f2 f3 a : Cl} {g : Nat → Nat} (hg : ∀ u, u < 24 → g u < 24) (h1 : ∀ u, movT u (subC f1 f0) = movT (g u) (1, 0, 0)) (h2 : ∀ u, movT u (subC f2 f0) = movT (g u) (0, 1, 0)) (h3 : ∀ u, movT u (subC f3 f0) = movT (g u) (0, 0, 1)) :
  ofB f0 f1 f2 f3 a (addC a (movT k (1, 0, 0))) (addC a (movT k (0, 1, 0))) (addC a (movT k (0, 0, 1))) t = (g t == k) := by
 unfold ofB
 rw [movC_apart, movC_apart, movC_apart, h1, h2, h3]
 have hl := List.all_eq_true.1 (List.all_eq_true.1 told_lin (g t) (List.mem_range.2 (hg t ht))) k (List.mem_range.2 hk)
 rw [beq_iff_eq] at hl
 have e : ∀ x y : Cl, (addC a x == addC a y) = (x == y) := fun x y => by
  rw [Bool.eq_iff_iff, beq_iff_eq, beq_iff_eq]
  exact ⟨addC_inj, fun h => by rw [h]⟩
 rw [e, e, e, hl]
theorem movT_mul {t u : Nat} (ht : t < 24) (hu : u < 24) (d : Cl) : movT u (movT t d) = movT (mulT t u) d := by
 have h : ∀ v, movT v d = subC (turnC v d) (turnC v (0, 0, 0)) := fun v => (origin_eq v d).symm
 rw [h (mulT t u), ← turn_mul ht hu, ← turn_mul ht hu, h t]
 have h2 := turn_add u (turnC t (0, 0, 0)) (subC (turnC t d) (turnC t (0, 0, 0)))
 rw [add_sub'] at h2
 rw [h2, subC_addC]
theorem subC_zero (c : Cl) : subC c (0, 0, 0) = c := by unfold subC; simp
theorem then_ref {m n : Mo} (hm : rightB m.1 m.2 = true) (hn : rightB n.1 n.2 = true) :
  (List.range 24).find? (ofB (0, 0, 0) (1, 0, 0) (0, 1, 0) (0, 0, 1) (carC n (carC m (0, 0, 0))) (carC n (carC m (1, 0, 0))) (carC n (carC m (0, 1, 0))) (carC n (carC m (0, 0, 1)))) = some (mulT m.1.toNat n.1.toNat) ∧
  subC (carC n (carC m (0, 0, 0))) (turnC (mulT m.1.toNat n.1.toNat) (0, 0, 0)) = addC (movT n.1.toNat m.2) n.2 := by
 have hT : m.1.toNat < 24 := by have := (rightB_iff.1 hm).1; omega
 have kT : n.1.toNat < 24 := by have := (rightB_iff.1 hn).1; omega
 have hM := mul_lt hT kT
 have e : ∀ c, carC n (carC m c) = movC (addC (movT n.1.toNat m.2) n.2) (turnC (mulT m.1.toNat n.1.toNat) c) := fun c => by
  unfold carC
  rw [turn_mov, mov_mov, turn_mul hT kT]
 have e0 : ∀ c, carC n (carC m c) = addC (carC n (carC m (0, 0, 0))) (movT (mulT m.1.toNat n.1.toNat) c) := fun c => by
  rw [e, e, ← origin_eq _ c]
  unfold movC addC subC
  exact Prod.ext (by simp only; omega) (Prod.ext (by simp only; omega) (by simp only; omega))
 constructor
 ·rw [e0 (1, 0, 0), e0 (0, 1, 0), e0 (0, 0, 1)]
  have key : ∀ t, t < 24 → ofB (0, 0, 0) (1, 0, 0) (0, 1, 0) (0, 0, 1) (carC n (carC m (0, 0, 0))) (addC (carC n (carC m (0, 0, 0))) (movT (mulT m.1.toNat n.1.toNat) (1, 0, 0))) (addC (carC n (carC m (0, 0, 0))) (movT (mulT m.1.toNat n.1.toNat) (0, 1, 0))) (addC (carC n (carC m (0, 0, 0))) (movT (mulT m.1.toNat n.1.toNat) (0, 0, 1))) t = (t == mulT m.1.toNat n.1.toNat) := fun t ht =>
   of_told (g := fun u => u) ht hM (fun _ h => h) (fun u => by rw [subC_zero]) (fun u => by rw [subC_zero]) (fun u => by rw [subC_zero])
  exact find_range hM (by rw [key _ hM]; exact beq_self_eq_true _) fun t ht h => by rw [key t ht] at h; exact eq_of_beq h
 ·rw [e]
  unfold movC addC subC
  exact Prod.ext (by simp only; omega) (Prod.ext (by simp only; omega) (by simp only; omega))
theorem mul_inv_iff {t u : Nat} (ht : t < 24) (hu : u < 24) : mulT t u = 0 ↔ u = invT t := by
 constructor
 ·intro h
  have h2 : mulT (invT t) (mulT t u) = u := by
   have := mul_inv_left hu (inv_lt ht)
   have e : invT (invT t) = t := by
    have h3 := turn_told (t := invT (invT t)) (u := t) (inv_lt (inv_lt ht)) ht fun c => by
     have h4 := turn_inv (inv_lt ht) (turnC t c)
     rw [turn_inv ht] at h4
     exact h4
    exact h3
   rw [e] at this; exact this
  rw [h] at h2
  have h5 : mulT (invT t) 0 = invT t := turn_told (mul_lt (inv_lt ht) (by omega)) (inv_lt ht) fun c => by
   rw [← turn_mul (inv_lt ht) (by omega), turn_zero]
  rw [h5] at h2; exact h2.symm
 ·rintro rfl
  exact turn_told (mul_lt ht (inv_lt ht)) (by omega) fun c => by rw [← turn_mul ht (inv_lt ht), turn_inv ht, turn_zero]
theorem back_ref {m : Mo} (hm : rightB m.1 m.2 = true) :
  (List.range 24).find? (ofB (carC m (0, 0, 0)) (carC m (1, 0, 0)) (carC m (0, 1, 0)) (carC m (0, 0, 1)) (0, 0, 0) (1, 0, 0) (0, 1, 0) (0, 0, 1)) = some (invT m.1.toNat) ∧
  subC (0, 0, 0) (turnC (invT m.1.toNat) (carC m (0, 0, 0))) = negC (movT (invT m.1.toNat) m.2) := by
 have hT : m.1.toNat < 24 := by have := (rightB_iff.1 hm).1; omega
 have hI := inv_lt hT
 have e0 : ∀ c, subC (carC m c) (carC m (0, 0, 0)) = movT m.1.toNat c := fun c => by
  unfold carC
  rw [← origin_eq]
  unfold movC addC subC
  exact Prod.ext (by simp only; omega) (Prod.ext (by simp only; omega) (by simp only; omega))
 have z : ∀ c : Cl, addC (0, 0, 0) (movT 0 c) = c := fun c => by
  rw [← origin_eq, turn_zero, turn_zero]
  unfold addC subC; simp
 constructor
 ·have key : ∀ t, t < 24 → ofB (carC m (0, 0, 0)) (carC m (1, 0, 0)) (carC m (0, 1, 0)) (carC m (0, 0, 1)) (0, 0, 0) (1, 0, 0) (0, 1, 0) (0, 0, 1) t = (mulT m.1.toNat t == 0) := fun t ht => by
   have h1 : ofB (carC m (0, 0, 0)) (carC m (1, 0, 0)) (carC m (0, 1, 0)) (carC m (0, 0, 1)) (0, 0, 0) (addC (0, 0, 0) (movT 0 (1, 0, 0))) (addC (0, 0, 0) (movT 0 (0, 1, 0))) (addC (0, 0, 0) (movT 0 (0, 0, 1))) t = (mulT m.1.toNat t == 0) := by
    unfold ofB
    rw [movC_apart, movC_apart, movC_apart, e0, e0, e0, movT_mul hT ht, movT_mul hT ht, movT_mul hT ht]
    have hl := List.all_eq_true.1 (List.all_eq_true.1 told_lin (mulT m.1.toNat t) (List.mem_range.2 (mul_lt hT ht))) 0 (List.mem_range.2 (by omega))
    rw [beq_iff_eq] at hl
    have e : ∀ x y : Cl, (addC (0, 0, 0) x == addC (0, 0, 0) y) = (x == y) := fun x y => by
     rw [Bool.eq_iff_iff, beq_iff_eq, beq_iff_eq]
     exact ⟨addC_inj, fun h => by rw [h]⟩
    rw [e, e, e, hl]
   rw [z, z, z] at h1
   exact h1
  exact find_range hI (by rw [key _ hI, beq_iff_eq]; exact (mul_inv_iff hT hI).2 rfl) fun t ht h => by
   rw [key t ht, beq_iff_eq] at h; exact (mul_inv_iff hT ht).1 h
 ·unfold carC
  rw [turn_mov, turn_inv hT]
  unfold movC addC subC negC
  exact Prod.ext (by simp only; omega) (Prod.ext (by simp only; omega) (by simp only; omega))
/-- what Back of the program looks for -/
theorem back_prog {t u : Nat} (ht : t < 24) (hu : u < 24) : (turnC u (turnC t (0, 1, 2)) == (0, 1, 2)) = (u == invT t) := by
 have := List.all_eq_true.1 (List.all_eq_true.1 told_back t (List.mem_range.2 ht)) u (List.mem_range.2 hu)
 exact beq_iff_eq.1 this
/-! SolidTurns -/
theorem turned_placed (s : Sol) (t : Int) : turnedM s t = placedM s t (0, 0, 0) := by
 unfold turnedM placedM
 have h : rightB t (0, 0, 0) = inB t 0 23 := by unfold rightB; rw [show shortB (0, 0, 0) = true by decide]; simp
 rw [h, movedM_none]
theorem four_turns (s : Sol) : spunS (spunS (spunS (spunS s 1) 1) 1) 1 = s := by
 have e1 : mulT 1 1 = 2 := by decide +kernel
 have e2 : mulT 2 1 = 3 := by decide +kernel
 have e3 : mulT 3 1 = 0 := by decide +kernel
 rw [spun_mul (t := 1) (u := 1) (by omega) (by omega) s, e1, spun_mul (t := 2) (u := 1) (by omega) (by omega) s, e2, spun_mul (t := 3) (u := 1) (by omega) (by omega) s, e3, spun_zero]
theorem movT_zero (t : Nat) : movT t (0, 0, 0) = (0, 0, 0) := by
 rw [← origin_eq]; unfold subC; simp
theorem then_turns {t u : Int} (ht : inB t 0 23 = true) (hu : inB u 0 23 = true) : thenM (t, (0, 0, 0)) (u, (0, 0, 0)) = ((((mulT t.toNat u.toNat : Nat) : Int), (0, 0, 0)), 0) := by
 have h1 := inB_iff.1 ht; have h2 := inB_iff.1 hu
 have hr : ∀ v, inB v 0 23 = true → rightB v (0, 0, 0) = true := fun v h => by unfold rightB; rw [h]; decide
 have hm := mul_lt (t := t.toNat) (u := u.toNat) (by omega) (by omega)
 have hz : addC (movT u.toNat (0, 0, 0)) (0, 0, 0) = (0, 0, 0) := by rw [movT_zero]; rfl
 unfold thenM
 simp only
 rw [if_pos (by rw [hr t ht, hr u hu]; rfl), hz, if_pos (hr _ (inB_iff.2 ⟨by omega, by omega⟩))]
end Go.Solid
end
section
namespace Go.Solid
open Go.Draw
set_option maxRecDepth 100000
/-! places -/
def placesP (a b : Sol) : List Sol := sortD ((fitsL a b).map fun y => y.2)
def placesR (a b : Sol) : List Sol := sortD ((imagesS b).flatMap fun x => (rowZ a x 0 (0, 0, 0) (subC (7, 7, 7) (hiS x))).map fun y => y.2)
theorem mem_placesP {a b q : Sol} (hb : b ≠ 0) : q ∈ placesP a b ↔ ∃ m, FitsM a b m ∧ q = imgS (movC m.2) (spunS b m.1) := by
 unfold placesP
 rw [(sortD_spec _).2, List.mem_map]
 constructor
 ·rintro ⟨⟨m, q'⟩, h, rfl⟩
  exact ⟨m, (mem_fits hb).1 h⟩
 ·rintro ⟨m, h⟩
  exact ⟨(m, q), (mem_fits hb).2 h, rfl⟩
theorem mem_placesR {a b q : Sol} : q ∈ placesR a b ↔ ∃ x ∈ imagesS b, ∃ m : Mt, (m, q) ∈ rowZ a x 0 (0, 0, 0) (subC (7, 7, 7) (hiS x)) := by
 unfold placesR
 rw [(sortD_spec _).2, List.mem_flatMap]
 constructor
 ·rintro ⟨x, hx, h⟩
  obtain ⟨⟨m, q'⟩, h1, rfl⟩ := List.mem_map.1 h
  exact ⟨x, hx, m, h1⟩
 ·rintro ⟨x, hx, m, h⟩
  exact ⟨x, hx, List.mem_map.2 ⟨(m, q), h, rfl⟩⟩
theorem lo_corn {p : Sol} (hp : p ≠ 0) : loS (cornS p) = (0, 0, 0) := by
 unfold cornS
 rw [if_neg hp, lo_mov (corn_stays hp) hp]
 unfold addC negC
 exact Prod.ext (by simp only; omega) (Prod.ext (by simp only; omega) (by simp only; omega))
/-- what moves within the grid keeps within the ranges -/
theorem stays_range {p : Sol} {d : Cl} (hp : p ≠ 0) (h : stays (movC d) p = true) (k : Nat) : - co (loS p) k ≤ co d k ∧ co d k ≤ 7 - co (hiS p) k := by
 obtain ⟨c, hc, e⟩ := loS_at hp k
 obtain ⟨c', hc', e'⟩ := hiS_at hp k
 have h1 := co_in (stays_iff.1 h c hc) k
 have h2 := co_in (stays_iff.1 h c' hc') k
 rw [co_mov] at h1 h2
 omega
theorem places_eq {a b : Sol} (hb : b ≠ 0) : placesP a b = placesR a b := by
 refine asc_unique (sortD_spec _).1 (sortD_spec _).1 fun q => ?_
 rw [mem_placesP hb, mem_placesR]
 constructor
 ·rintro ⟨m, ⟨h1, h2, h3⟩, rfl⟩
  have hP : spunS b m.1 ≠ 0 := spun_ne hb _
  obtain ⟨c1, c2⟩ := corn_back hP
  have hx : cornS (spunS b m.1) ≠ 0 := corn_ne hP
  have e1 := imgS_comp (f := movC (loS (spunS b m.1))) (g := movC m.2) (s := cornS (spunS b m.1)) c1 (by rw [c2]; exact h2)
  have e2 := imgS_congr (s := cornS (spunS b m.1)) (f := fun c => movC m.2 (movC (loS (spunS b m.1)) c)) (g := movC (addC (loS (spunS b m.1)) m.2)) fun c _ => mov_mov _ _ _
  have e3 : stays (movC (addC (loS (spunS b m.1)) m.2)) (cornS (spunS b m.1)) = true := by rw [← e2.1]; exact e1.1
  have e4 : imgS (movC (addC (loS (spunS b m.1)) m.2)) (cornS (spunS b m.1)) = imgS (movC m.2) (spunS b m.1) := by rw [← e2.2, e1.2, c2]
  refine ⟨cornS (spunS b m.1), mem_images.2 ⟨m.1, h1, rfl⟩, (0, addC (loS (spunS b m.1)) m.2), mem_rowZ.2 ?_⟩
  have r0 := stays_range hx e3 0; have r1 := stays_range hx e3 1; have r2 := stays_range hx e3 2
  rw [lo_corn hP] at r0 r1 r2
  generalize addC (loS (spunS b m.1)) m.2 = d at *
  generalize hiS (cornS (spunS b m.1)) = h at *
  have q0 : -(0 : Int) ≤ d.1 ∧ d.1 ≤ 7 - h.1 := r0
  have q1 : -(0 : Int) ≤ d.2.1 ∧ d.2.1 ≤ 7 - h.2.1 := r1
  have q2 : -(0 : Int) ≤ d.2.2 ∧ d.2.2 ≤ 7 - h.2.2 := r2
  refine ⟨rfl, ⟨by simp only; omega, by simp only [subC]; omega⟩, ⟨by simp only; omega, by simp only [subC]; omega⟩, ⟨by simp only; omega, by simp only [subC]; omega⟩, e4.symm, h3⟩
 ·rintro ⟨x, hx, m, hm⟩
  obtain ⟨t, ht, rfl⟩ := mem_images.1 hx
  obtain ⟨_, h1, h2, h3, rfl, h5⟩ := mem_rowZ.1 hm
  have hP : spunS b t ≠ 0 := spun_ne hb _
  have hxx : imageS b t ≠ 0 := corn_ne hP
  have hlo : loS (imageS b t) = (0, 0, 0) := lo_corn hP
  have hst : stays (movC m.2) (imageS b t) = true := range_stays fun k => by
   rw [hlo]
   generalize hiS (imageS b t) = h at *
   unfold subC at h1 h2 h3
   simp only at h1 h2 h3
   match k with
   | 0 => show -(0 : Int) ≤ m.2.1 ∧ m.2.1 ≤ 7 - h.1; omega
   | 1 => show -(0 : Int) ≤ m.2.2.1 ∧ m.2.2.1 ≤ 7 - h.2.1; omega
   | _ + 2 => show -(0 : Int) ≤ m.2.2.2 ∧ m.2.2.2 ≤ 7 - h.2.2; omega
  have ec : imageS b t = imgS (movC (negC (loS (spunS b t)))) (spunS b t) := by unfold imageS cornS; rw [if_neg hP]
  have e1 := imgS_comp (f := movC (negC (loS (spunS b t)))) (g := movC m.2) (s := spunS b t) (corn_stays hP) (by rw [← ec]; exact hst)
  have e2 := imgS_congr (s := spunS b t) (f := fun c => movC m.2 (movC (negC (loS (spunS b t))) c)) (g := movC (addC (negC (loS (spunS b t))) m.2)) fun c _ => mov_mov _ _ _
  have e4 : imgS (movC (addC (negC (loS (spunS b t))) m.2)) (spunS b t) = imgS (movC m.2) (imageS b t) := by rw [← e2.2, e1.2, ← ec]
  exact ⟨(t, addC (negC (loS (spunS b t))) m.2), ⟨ht, by show stays (movC (addC (negC (loS (spunS b t))) m.2)) (spunS b t) = true; rw [← e2.1]; exact e1.1, by show subS (imgS (movC (addC (negC (loS (spunS b t))) m.2)) (spunS b t)) a = true; rw [e4]; exact h5⟩, e4.symm⟩
/-- of each place -/
theorem place_is {a b q : Sol} (hb : b ≠ 0) (h : q ∈ placesP a b) : subS q a = true ∧ countS q = countS b := by
 obtain ⟨m, ⟨h1, h2, h3⟩, rfl⟩ := (mem_placesP hb).1 h
 exact ⟨h3, by rw [count_img h2 (mov_inj _), spun_count h1]⟩
/-- what a motion places is a place exactly if it fits -/
theorem place_fits {a b : Sol} (hb : b ≠ 0) {t : Int} {d : Cl} : (∃ p, placedM b t d = (p, 0) ∧ subS p a = true) ↔ ∃ p, placedM b t d = (p, 0) ∧ p ∈ placesP a b := by
 constructor
 ·rintro ⟨p, h, hp⟩
  refine ⟨p, h, (mem_placesP hb).2 ?_⟩
  have hf := (placed_fits hb).1 ⟨p, h, hp⟩
  refine ⟨_, hf.2, ?_⟩
  rcases movedM_ok.1 (placedM_ok.1 h).2 with ⟨h3, _⟩ | ⟨_, _, h5⟩
  ·exact absurd h3 (spun_ne hb _)
  ·exact h5
 ·rintro ⟨p, h, hp⟩
  exact ⟨p, h, (place_is hb hp).1⟩
theorem places_some {a b : Sol} (hb : b ≠ 0) : placesP a b ≠ [] ↔ ∃ m, FitsM a b m := by
 constructor
 ·intro h
  obtain ⟨q, hq⟩ := List.exists_mem_of_ne_nil _ h
  obtain ⟨m, hm, _⟩ := (mem_placesP hb).1 hq
  exact ⟨m, hm⟩
 ·rintro ⟨m, hm⟩ h
  have : imgS (movC m.2) (spunS b m.1) ∈ placesP a b := (mem_placesP hb).2 ⟨m, hm, rfl⟩
  rw [h] at this; cases this
end Go.Solid
end
