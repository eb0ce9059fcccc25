import Derived.Test.YtkcpnhigekopaaaDoorG03
/-
  Given contracts of functions of the program, and laws for them, one behind the other.
-/
set_option linter.unusedVariables false
set_option linter.unusedSimpArgs false
set_option linter.unusedSectionVars false
section
namespace Go.Draw
set_option maxRecDepth 10000
theorem low_mod (n k : Nat) (h1 : n.testBit k = true) (h0 : ∀ j, j < k → n.testBit j = false) : n % 2 ^ (k + 1) = 2 ^ k := by
 apply Nat.eq_of_testBit_eq
 intro j
 rw [Nat.testBit_mod_two_pow, Nat.testBit_two_pow]
 by_cases e : j = k
 ·subst e; simp [h1]
 ·by_cases h : j < k
  ·simp [h0 j h, show ¬ k = j by omega]
  ·simp [show ¬ j < k + 1 by omega, show ¬ k = j by omega]
theorem sub1_testBit (n k : Nat) (h1 : n.testBit k = true) (h0 : ∀ j, j < k → n.testBit j = false) (i : Nat) : (n - 1).testBit i = if i < k then true else if i = k then false else n.testBit i := by
 have hm := low_mod n k h1 h0
 have hp : 0 < 2 ^ k := Nat.two_pow_pos k
 obtain ⟨q, hq⟩ : ∃ q, q = n / 2 ^ (k + 1) := ⟨_, rfl⟩
 have e1 : n = 2 ^ (k + 1) * q + 2 ^ k := by rw [hq, ← hm]; exact (Nat.div_add_mod n _).symm
 have hlt : 2 ^ k - 1 < 2 ^ (k + 1) := by rw [Nat.pow_succ]; omega
 have hlt2 : 2 ^ k < 2 ^ (k + 1) := by rw [Nat.pow_succ]; omega
 have e2 : n - 1 = 2 ^ (k + 1) * q + (2 ^ k - 1) := by omega
 rw [e2, Nat.testBit_two_pow_mul_add _ hlt]
 conv => rhs; rw [e1]
 rw [Nat.testBit_two_pow_mul_add _ hlt2]
 by_cases h : i < k
 ·simp [h, show i < k + 1 by omega, Nat.testBit_two_pow_sub_one]
 ·by_cases e : i = k
  ·subst e; simp [Nat.testBit_two_pow_sub_one]
  ·simp [h, e, show ¬ i < k + 1 by omega]
/-- the least piece of a set -/
def lowU (p : U) : Nat := ((List.range 64).find? fun i => p.getLsbD i).getD 0
theorem lowU_spec (p : U) (h : p ≠ 0) : lowU p < 64 ∧ p.getLsbD (lowU p) = true ∧ ∀ j, j < lowU p → p.getLsbD j = false := by
 unfold lowU
 cases hf : (List.range 64).find? fun i => p.getLsbD i with
 | none =>
  exfalso; apply h
  rw [zero_bits]
  intro i hi
  have := List.find?_eq_none.1 hf i (List.mem_range.2 hi)
  simpa using this
 | some k =>
  obtain ⟨h1, i, hi, hik, hj⟩ := List.find?_eq_some_iff_getElem.1 hf
  have e : i = k := by simpa using hik
  subst e
  refine ⟨by simpa using hi, by simpa using h1, fun j hjl => ?_⟩
  have := hj j hjl
  simpa using this
theorem sub1_toNat (p : U) (h : p ≠ 0) : 1 ≤ p.toNat ∧ (p - 1).toNat = p.toNat - 1 := by
 have hp : 1 ≤ p.toNat := by
  apply Classical.byContradiction
  intro hn
  apply h
  apply BitVec.eq_of_toNat_eq
  have : p.toNat = 0 := by omega
  rw [this]; rfl
 refine ⟨hp, ?_⟩
 rw [BitVec.toNat_sub]
 have := p.isLt
 show (2 ^ 64 - 1 + p.toNat) % 2 ^ 64 = _
 omega
theorem sub1_bit (p : U) (h : p ≠ 0) (i : Nat) (hi : i < 64) : (p - 1).getLsbD i = if i < lowU p then true else if i = lowU p then false else p.getLsbD i := by
 obtain ⟨hk, h1, h0⟩ := lowU_spec p h
 obtain ⟨hp, e⟩ := sub1_toNat p h
 have : (p - 1).getLsbD i = (p.toNat - 1).testBit i := by rw [← e]; rfl
 rw [this, sub1_testBit p.toNat (lowU p) h1 h0]
 rfl
theorem drop_low (p : U) (h : p ≠ 0) (i : Nat) : (p &&& (p - 1)).getLsbD i = (p.getLsbD i && i != lowU p) := by
 obtain ⟨hk, h1, h0⟩ := lowU_spec p h
 by_cases hi : i < 64
 ·rw [BitVec.getLsbD_and, sub1_bit p h i hi]
  by_cases a : i < lowU p
  ·rw [h0 i a]; simp
  ·rw [if_neg a]
   by_cases e : i = lowU p
   ·subst e; simp
   ·rw [if_neg e]; simp [e]
 ·rw [BitVec.getLsbD_of_ge _ _ (by omega), BitVec.getLsbD_of_ge p _ (by omega)]; simp
theorem listU_cons (p : U) (h : p ≠ 0) : listU p = lowU p :: listU (p &&& (p - 1)) := by
 obtain ⟨hk, h1, h0⟩ := lowU_spec p h
 unfold listU
 have hR : List.range 64 = List.range (lowU p) ++ (lowU p :: (List.range (63 - lowU p)).map (lowU p + 1 + ·)) := by
  have : lowU p :: (List.range (63 - lowU p)).map (lowU p + 1 + ·) = (List.range (64 - lowU p)).map (lowU p + ·) := by
   rw [show 64 - lowU p = (63 - lowU p) + 1 by omega, List.range_succ_eq_map, List.map_cons, List.map_map]
   congr 1
   apply List.map_congr_left
   intro a _
   simp; omega
  rw [this, ← List.range_add]
  congr 1; omega
 rw [hR, List.filter_append, List.filter_append, List.filter_cons, List.filter_cons, h1, drop_low p h (lowU p)]
 simp only [if_true, bne_self_eq_false, Bool.and_false, Bool.false_eq_true, if_false]
 have z1 : (List.range (lowU p)).filter (fun i => p.getLsbD i) = [] := by
  rw [List.filter_eq_nil_iff]; intro j hj; simp [h0 j (List.mem_range.1 hj)]
 have z2 : (List.range (lowU p)).filter (fun i => (p &&& (p - 1)).getLsbD i) = [] := by
  rw [List.filter_eq_nil_iff]; intro j hj
  rw [drop_low p h, h0 j (List.mem_range.1 hj)]; simp
 rw [z1, z2, List.nil_append, List.nil_append]
 congr 1
 apply List.filter_congr
 intro j hj
 obtain ⟨a, _, rfl⟩ := List.mem_map.1 hj
 rw [drop_low p h]
 have : (lowU p + 1 + a != lowU p) = true := by simp; omega
 rw [this, Bool.and_true]
theorem listU_zero : listU 0 = [] := by decide
theorem cardU_drop (p : U) (h : p ≠ 0) : cardU (p &&& (p - 1)) + 1 = cardU p := by
 unfold cardU; rw [listU_cons p h]; rfl
theorem cardU_le (p : U) : cardU p ≤ 64 := by
 unfold cardU listU
 have := List.length_filter_le (fun i => p.getLsbD i) (List.range 64)
 simpa using this
/-- what the table of TrailingZeros64 is looked up at -/
theorem low_and_neg (p : U) (h : p ≠ 0) : p &&& -p = bit (lowU p) := by
 obtain ⟨hk, h1, h0⟩ := lowU_spec p h
 have e : -p = ~~~(p - 1) := by
  obtain ⟨hp, e⟩ := sub1_toNat p h
  apply BitVec.eq_of_toNat_eq
  rw [BitVec.toNat_neg, BitVec.toNat_not, e]
  have := p.isLt
  omega
 rw [e]
 apply BitVec.eq_of_getLsbD_eq
 intro i hi
 rw [BitVec.getLsbD_and, BitVec.getLsbD_not, sub1_bit p h i hi, bit_bit _ _ hk]
 by_cases a : i < lowU p
 ·rw [h0 i a]; simp [show i ≠ lowU p by omega]
 ·by_cases e : i = lowU p
  ·subst e; simp [h1, hi]
  ·simp [a, e, hi]
def tzTab : List Nat := [0, 1, 56, 2, 57, 49, 28, 3, 61, 58, 42, 50, 38, 29, 17, 4, 62, 47, 59, 36, 45, 43, 51, 22, 53, 39, 33, 30, 24, 18, 12, 5, 63, 55, 48, 27, 60, 41, 37, 16, 46, 35, 44, 21, 52, 32, 23, 11, 54, 26, 40, 15, 34, 20, 31, 10, 25, 14, 19, 9, 13, 8, 7, 6]
def tzAt (k : Nat) : Nat := ((bit k * 285870213051353865#64) >>> 58).toNat
theorem tz_tab : ∀ k, k < 64 → tzAt k < 64 ∧ tzTab.getD (tzAt k) 0 = k := by decide +kernel
end Go.Draw
end
section
namespace Go.Draw
set_option maxRecDepth 10000
/-! ### the order of sets, and the least ones -/
theorem cmpN_refl : ∀ l, cmpN l l = 0
 | [] => rfl
 | a :: l => by simp [cmpN, cmpN_refl l]
theorem cmpN_anti : ∀ a b, cmpN b a = - cmpN a b
 | [], [] => rfl
 | [], _ :: _ => rfl
 | _ :: _, [] => rfl
 | x :: a, y :: b => by
  simp only [cmpN]
  by_cases h1 : x < y
  ·rw [if_pos h1, if_neg (by omega), if_pos h1]; rfl
  ·by_cases h2 : y < x
   ·rw [if_pos h2, if_neg h1, if_pos h2]
   ·rw [if_neg h2, if_neg h1, if_neg h1, if_neg h2]; exact cmpN_anti a b
theorem cmpN_eq : ∀ a b, cmpN a b = 0 → a = b
 | [], [], _ => rfl
 | [], _ :: _, h => by simp [cmpN] at h
 | _ :: _, [], h => by simp [cmpN] at h
 | x :: a, y :: b, h => by
  simp only [cmpN] at h
  split at h
  ·simp at h
  ·split at h
   ·simp at h
   ·have := cmpN_eq a b h
    rw [this, show x = y by omega]
theorem cmpN_trans : ∀ a b c, cmpN a b ≤ 0 → cmpN b c ≤ 0 → cmpN a c ≤ 0
 | [], _, [], _, _ => by simp [cmpN]
 | [], _, _ :: _, _, _ => by simp [cmpN]
 | _ :: _, [], _, h, _ => by simp [cmpN] at h
 | _ :: _, _ :: _, [], _, h => by simp [cmpN] at h
 | x :: a, y :: b, z :: c, h1, h2 => by
  simp only [cmpN] at *
  by_cases e1 : x < y
  ·by_cases e2 : y < z
   ·rw [if_pos (by omega)]; omega
   ·rw [if_neg e2] at h2
    by_cases e3 : z < y
    ·rw [if_pos e3] at h2; omega
    ·rw [if_pos (by omega)]; omega
  ·rw [if_neg e1] at h1
   by_cases e1' : y < x
   ·rw [if_pos e1'] at h1; omega
   ·rw [if_neg e1'] at h1
    by_cases e2 : y < z
    ·rw [if_pos (by omega)]; omega
    ·rw [if_neg e2] at h2
     by_cases e3 : z < y
     ·rw [if_pos e3] at h2; omega
     ·rw [if_neg e3] at h2
      rw [if_neg (by omega), if_neg (by omega)]
      exact cmpN_trans a b c h1 h2
theorem listU_inj {a b : U} (h : listU a = listU b) : a = b := by
 apply BitVec.eq_of_getLsbD_eq
 intro i _
 rw [Bool.eq_iff_iff, ← listU_mem, ← listU_mem, h]
theorem cmpU_refl (a : U) : cmpU a a = 0 := by unfold cmpU; rw [if_neg (Nat.lt_irrefl _), if_neg (Nat.lt_irrefl _)]; exact cmpN_refl _
theorem cmpU_anti (a b : U) : cmpU b a = - cmpU a b := by
 unfold cmpU
 by_cases h1 : (listU a).length < (listU b).length
 ·rw [if_pos h1, if_neg (by omega), if_pos h1]; rfl
 ·by_cases h2 : (listU b).length < (listU a).length
  ·rw [if_pos h2, if_neg h1, if_pos h2]
  ·rw [if_neg h2, if_neg h1, if_neg h1, if_neg h2]; exact cmpN_anti _ _
theorem cmpU_eq {a b : U} (h : cmpU a b = 0) : a = b := by
 unfold cmpU at h
 split at h
 ·simp at h
 ·split at h
  ·simp at h
  ·exact listU_inj (cmpN_eq _ _ h)
theorem cmpU_trans {a b c : U} (h1 : cmpU a b ≤ 0) (h2 : cmpU b c ≤ 0) : cmpU a c ≤ 0 := by
 unfold cmpU at *
 by_cases e1 : (listU a).length < (listU b).length
 ·by_cases e2 : (listU b).length < (listU c).length
  ·rw [if_pos (by omega)]; omega
  ·rw [if_neg e2] at h2
   by_cases e3 : (listU c).length < (listU b).length
   ·rw [if_pos e3] at h2; omega
   ·rw [if_pos (by omega)]; omega
 ·rw [if_neg e1] at h1
  by_cases e1' : (listU b).length < (listU a).length
  ·rw [if_pos e1'] at h1; omega
  ·rw [if_neg e1'] at h1
   by_cases e2 : (listU b).length < (listU c).length
   ·rw [if_pos (by omega)]; omega
   ·rw [if_neg e2] at h2
    by_cases e3 : (listU c).length < (listU b).length
    ·rw [if_pos e3] at h2; omega
    ·rw [if_neg e3] at h2
     rw [if_neg (by omega), if_neg (by omega)]
     exact cmpN_trans _ _ _ h1 h2
theorem cmpU_card {a b : U} (h : cmpU a b ≤ 0) : cardU a ≤ cardU b := by
 unfold cmpU at h; unfold cardU
 by_cases e1 : (listU a).length < (listU b).length
 ·omega
 ·rw [if_neg e1] at h
  by_cases e2 : (listU b).length < (listU a).length
  ·rw [if_pos e2] at h; omega
  ·omega
theorem cmpU_total (a b : U) : cmpU a b ≤ 0 ∨ cmpU b a ≤ 0 := by rw [cmpU_anti a b]; omega
theorem insU_perm (a : U) : ∀ l, (insU a l).Perm (a :: l)
 | [] => .refl _
 | b :: l => by
  unfold insU
  split
  ·exact .refl _
  ·exact ((insU_perm a l).cons b).trans (.swap a b l)
theorem sortU_perm : ∀ l, (sortU l).Perm l
 | [] => .refl _
 | a :: l => (insU_perm a _).trans ((sortU_perm l).cons a)
abbrev SortedU (l : List U) : Prop := l.Pairwise fun x y => cmpU x y ≤ 0
theorem insU_sorted (a : U) : ∀ l, SortedU l → SortedU (insU a l)
 | [], _ => by simp [insU, SortedU]
 | b :: l, h => by
  unfold insU
  have hb := List.pairwise_cons.1 h
  split
  ·next e =>
   refine List.pairwise_cons.2 ⟨fun x hx => ?_, h⟩
   rcases List.mem_cons.1 hx with rfl | hx
   ·exact e
   ·exact cmpU_trans e (hb.1 x hx)
  ·next e =>
   refine List.pairwise_cons.2 ⟨fun x hx => ?_, insU_sorted a l hb.2⟩
   rcases List.mem_cons.1 ((insU_perm a l).mem_iff.1 hx) with rfl | hx
   ·exact (cmpU_total x b).resolve_left e
   ·exact hb.1 x hx
theorem sortU_sorted : ∀ l, SortedU (sortU l)
 | [] => List.Pairwise.nil
 | a :: l => insU_sorted a _ (sortU_sorted l)
/-- a list in order that has the same sets is the one -/
theorem sortU_of {d l : List U} (hp : d.Perm l) (hd : SortedU d) : d = sortU l :=
 List.Perm.eq_of_pairwise (le := fun x y => cmpU x y ≤ 0) (fun a b _ _ h1 h2 => cmpU_eq (by rw [cmpU_anti a b] at h2; omega)) hd (sortU_sorted l) (hp.trans (sortU_perm l).symm)
theorem sub_card {A B : U} (h : Sub A B) : cardU A ≤ cardU B := by
 unfold cardU listU
 have : ∀ l : List Nat, (l.filter fun i => A.getLsbD i).length ≤ (l.filter fun i => B.getLsbD i).length := by
  intro l
  induction l with
  | nil => simp
  | cons b l ih =>
   have hb := h b
   rw [List.filter_cons, List.filter_cons]
   cases hf : A.getLsbD b
   ·cases B.getLsbD b <;> simp <;> omega
   ·rw [hb hf]; simpa using ih
 exact this _
theorem sub_card_eq {A B : U} (h : Sub A B) (hc : cardU B ≤ cardU A) : A = B := by
 refine h.antisymm fun i hi => ?_
 cases ha : A.getLsbD i
 ·have := filter_length_lt (List.range 64) (fun i => A.getLsbD i) (fun i => B.getLsbD i) (fun x _ hx => h x hx) i (List.mem_range.2 (BitVec.lt_of_getLsbD hi)) ha hi
  unfold cardU listU at hc; omega
 ·rfl
def subB (A B : U) : Bool := A &&& ~~~B == 0
theorem subB_iff (A B : U) : subB A B = true ↔ Sub A B := by unfold subB; rw [beq_iff_eq, sub_iff]
theorem subB_not (A B : U) : subB A B = false ↔ ¬ Sub A B := by rw [← subB_iff]; simp
def leastStep (out : List U) (s : U) : List U := if out.any (fun l => subB l s) then out else out ++ [s]
theorem least_mem : ∀ (L out : List U) (x : U), x ∈ L.foldl leastStep out → x ∈ out ∨ x ∈ L
 | [], _, _, h => .inl h
 | s :: L, out, x, h => by
  rcases least_mem L _ x h with h | h
  ·unfold leastStep at h
   split at h
   ·exact .inl h
   ·rcases List.mem_append.1 h with h | h
    ·exact .inl h
    ·simp at h; exact .inr (by simp [h])
  ·exact .inr (by simp [h])
theorem least_keep : ∀ (L out : List U) (x : U), x ∈ out → x ∈ L.foldl leastStep out
 | [], _, _, h => h
 | s :: L, out, x, h => least_keep L _ x (by unfold leastStep; split <;> simp [h])
theorem least_below : ∀ (L out : List U) (s : U), s ∈ L → ∃ l ∈ L.foldl leastStep out, Sub l s
 | s :: L, out, t, h => by
  rcases List.mem_cons.1 h with rfl | h
  ·by_cases e : out.any (fun l => subB l t) = true
   ·obtain ⟨l, hl, hs⟩ := List.any_eq_true.1 e
    exact ⟨l, least_keep (t :: L) out _ hl, (subB_iff _ _).1 hs⟩
   ·refine ⟨t, ?_, Sub.refl t⟩
    rw [List.foldl_cons]
    exact least_keep L _ _ (by unfold leastStep; rw [if_neg e]; simp)
  ·exact least_below L _ t h
theorem least_anti : ∀ (L out : List U), SortedU L → (∀ l ∈ out, ∀ s ∈ L, cmpU l s ≤ 0) → (∀ l ∈ out, ∀ k ∈ out, Sub l k → l = k) → ∀ l ∈ L.foldl leastStep out, ∀ k ∈ L.foldl leastStep out, Sub l k → l = k
 | [], _, _, _, h => h
 | s :: L, out, hS, hO, h => by
  have hb := List.pairwise_cons.1 hS
  refine least_anti L _ hb.2 (fun l hl t ht => ?_) ?_
  ·unfold leastStep at hl
   split at hl
   ·exact hO l hl t (by simp [ht])
   ·rcases List.mem_append.1 hl with hl | hl
    ·exact hO l hl t (by simp [ht])
    ·simp at hl; subst hl; exact hb.1 t ht
  ·unfold leastStep
   split
   ·exact h
   ·next e =>
    intro l hl0 k hk0 hs
    have hk := hk0
    have hl1 := List.mem_append.1 hl0
    clear hk0 hl0
    rcases hl1 with hl | hl
    ·rcases List.mem_append.1 hk with hk | hk
     ·exact h l hl k hk hs
     ·have hk := List.mem_singleton.1 hk
      subst hk
      exact absurd (List.any_eq_true.2 ⟨l, hl, (subB_iff l k).2 hs⟩) e
    ·simp at hl; subst hl
     rcases List.mem_append.1 hk with hk | hk
     ·exact sub_card_eq hs (cmpU_card (hO k hk l (by simp)))
     ·simp at hk; exact hk.symm
/-! ### all sets -/
theorem mem_setsL : ∀ (n k : Nat) (s x : U), k + n ≤ 64 → (x ∈ setsL n k s ↔ Sub s x ∧ ∀ i, x.getLsbD i = true → s.getLsbD i = true ∨ k ≤ i ∧ i < k + n)
 | 0, k, s, x, _ => by
  simp only [setsL, List.mem_singleton]
  constructor
  ·rintro rfl; exact ⟨Sub.refl _, fun i h => .inl h⟩
  ·rintro ⟨h1, h2⟩
   exact Sub.antisymm (fun i hi => (h2 i hi).resolve_right (by omega)) h1
 | n + 1, k, s, x, h => by
  simp only [setsL, List.mem_append]
  rw [mem_setsL n (k + 1) _ x (by omega), mem_setsL n (k + 1) s x (by omega)]
  have hk : k < 64 := by omega
  constructor
  ·rintro (⟨h1, h2⟩ | ⟨h1, h2⟩)
   ·refine ⟨(or_sub.1 h1).1, fun i hi => ?_⟩
    rcases h2 i hi with h | h
    ·rw [or_bit _ _ _ hk, Bool.or_eq_true] at h
     rcases h with h | h
     ·exact .inl h
     ·have : i = k := by simpa using h
      exact .inr (by omega)
    ·exact .inr (by omega)
   ·refine ⟨h1, fun i hi => ?_⟩
    rcases h2 i hi with h | h
    ·exact .inl h
    ·exact .inr (by omega)
  ·rintro ⟨h1, h2⟩
   cases hx : x.getLsbD k
   ·refine .inr ⟨h1, fun i hi => ?_⟩
    rcases h2 i hi with h | h
    ·exact .inl h
    ·refine .inr ⟨?_, by omega⟩
     by_cases e : i = k
     ·subst e; rw [hx] at hi; cases hi
     ·omega
   ·refine .inl ⟨or_sub.2 ⟨h1, fun i hi => ?_⟩, fun i hi => ?_⟩
    ·rw [bit_bit _ _ hk] at hi
     have : i = k := by simpa using hi
     rw [this]; exact hx
    ·rw [or_bit _ _ _ hk]
     rcases h2 i hi with h | h
     ·simp [h]
     ·by_cases e : i = k
      ·simp [e]
      ·exact .inr (by omega)
theorem nodup_setsL : ∀ (n k : Nat) (s : U), k + n ≤ 64 → (∀ i, k ≤ i → s.getLsbD i = false) → (setsL n k s).Nodup
 | 0, _, _, _, _ => by simp [setsL]
 | n + 1, k, s, h, hs => by
  have hk : k < 64 := by omega
  simp only [setsL]
  refine List.nodup_append.2 ⟨nodup_setsL n (k + 1) _ (by omega) (fun i hi => ?_), nodup_setsL n (k + 1) s (by omega) (fun i hi => hs i (by omega)), fun x hx y hy e => ?_⟩
  ·rw [or_bit _ _ _ hk, hs i (by omega)]; simp; omega
  ·subst e
   have h1 := ((mem_setsL n (k + 1) _ x (by omega)).1 hx).1 k (by rw [or_bit _ _ _ hk]; simp)
   rcases ((mem_setsL n (k + 1) s x (by omega)).1 hy).2 k h1 with h | h
   ·rw [hs k (by omega)] at h; cases h
   ·omega
theorem allU_bit (n i : Nat) (hn : n < 64) : (allU n).getLsbD i = decide (i < n) := by
 unfold allU
 have hb : bit n ≠ 0 := fun h => by
  have := bit_bit n n hn
  rw [h] at this; simp at this
 have hlow : lowU (bit n) = n := by
  obtain ⟨_, h2, _⟩ := lowU_spec (bit n) hb
  rw [bit_bit _ _ hn] at h2
  simpa using h2
 by_cases hi : i < 64
 ·rw [sub1_bit _ hb i hi, hlow]
  by_cases h : i < n
  ·simp [h]
  ·rw [if_neg h]
   by_cases e : i = n
   ·simp [e]
   ·rw [if_neg e, bit_bit _ _ hn]; simp [e, h]
 ·rw [BitVec.getLsbD_of_ge _ _ (by omega)]; simp; omega
theorem mem_sets (n : Nat) (hn : n < 64) (x : U) : x ∈ setsL n 0 0 ↔ Sub x (allU n) := by
 rw [mem_setsL n 0 0 x (by omega)]
 constructor
 ·rintro ⟨_, h⟩ i hi
  rw [allU_bit _ _ hn]
  rcases h i hi with h | h
  ·simp at h
  ·simp; omega
 ·intro h
  refine ⟨fun i hi => by simp at hi, fun i hi => .inr ?_⟩
  have := h i hi
  rw [allU_bit _ _ hn] at this
  simp at this; omega
theorem nodup_sets (n : Nat) (hn : n < 64) : (setsL n 0 0).Nodup := nodup_setsL n 0 0 (by omega) (fun i _ => by simp)
end Go.Draw
end
section
namespace Go.Draw
set_option maxRecDepth 10000
/-! ### what comes first, and the paths to a piece -/
theorem card_all : ∀ n, n ≤ 12 → cardU (allU n) = n := by decide +kernel
theorem card_sub {m : List Sol} (hm : m.length ≤ 12) {S : U} (h : Sub S (allU m.length)) : cardU S ≤ 12 := by
 have := sub_card h
 rw [card_all _ hm] at this; omega
theorem and_not_zero (S : U) : S &&& ~~~(0 : U) = S := by
 apply BitVec.eq_of_getLsbD_eq
 intro i hi
 rw [BitVec.getLsbD_and, BitVec.getLsbD_not]; simp [hi]
theorem sub_zero (S : U) : Sub 0 S := fun i hi => by simp at hi
theorem first_iff (m : List Sol) (hm : m.length ≤ 12) (S : U) (hS : Sub S (allU m.length)) : firstM m S = true ↔ Fe (canM m) S := by
 have hc := card_sub hm hS
 have h := orderF_some m S 13 0 [] (by rw [and_not_zero]; omega) (sub_zero S)
 unfold firstM orderM
 exact ⟨fun hf => h.2 .zero hf, h.1⟩
theorem paths_eq (m : List Sol) (p : Nat) : pathsM m p = (sortU ((setsL m.length 0 0).filter fun s => s.getLsbD p && firstM m s)).foldl leastStep [] := rfl
theorem paths_mem {m : List Sol} (hm : m.length ≤ 12) {p : Nat} {l : U} (h : l ∈ pathsM m p) : Sub l (allU m.length) ∧ l.getLsbD p = true ∧ Fe (canM m) l := by
 rw [paths_eq] at h
 rcases least_mem _ _ _ h with h | h
 ·cases h
 ·rw [(sortU_perm _).mem_iff, List.mem_filter, mem_sets _ (by omega), Bool.and_eq_true] at h
  exact ⟨h.1, h.2.1, (first_iff m hm l h.1).1 h.2.2⟩
theorem paths_below {m : List Sol} (hm : m.length ≤ 12) {p : Nat} {S : U} (hS : Sub S (allU m.length)) (hp : S.getLsbD p = true) (hF : Fe (canM m) S) : ∃ l ∈ pathsM m p, Sub l S := by
 rw [paths_eq]
 apply least_below
 rw [(sortU_perm _).mem_iff, List.mem_filter, mem_sets _ (by omega), Bool.and_eq_true]
 exact ⟨hS, hp, (first_iff m hm S hS).2 hF⟩
theorem paths_anti {m : List Sol} {p : Nat} : ∀ l ∈ pathsM m p, ∀ k ∈ pathsM m p, Sub l k → l = k := by
 rw [paths_eq]
 exact least_anti _ _ (sortU_sorted _) (fun l h => by cases h) (fun l h => by cases h)
theorem least_nodup : ∀ (L out : List U), out.Nodup → (L.foldl leastStep out).Nodup
 | [], _, h => h
 | s :: L, out, h => by
  refine least_nodup L _ ?_
  unfold leastStep
  split
  ·exact h
  ·next e =>
   refine List.nodup_append.2 ⟨h, by simp, fun x hx y hy exy => ?_⟩
   have hy := List.mem_singleton.1 hy
   subst hy exy
   exact absurd (List.any_eq_true.2 ⟨x, hx, (subB_iff x x).2 (Sub.refl x)⟩ : out.any (fun l => subB l x) = true) e
theorem paths_nodup (m : List Sol) (p : Nat) : (pathsM m p).Nodup := by rw [paths_eq]; exact least_nodup _ _ List.nodup_nil
/-! ### unions -/
theorem foldl_or {α : Type} (c : α → Bool) (f : α → U) (i : Nat) : ∀ (l : List α) (a : U), (l.foldl (fun acc x => if c x then acc ||| f x else acc) a).getLsbD i = (a.getLsbD i || l.any fun x => c x && (f x).getLsbD i)
 | [], a => by simp
 | x :: l, a => by
  rw [List.foldl_cons, foldl_or c f i l, List.any_cons]
  cases c x
  ·simp
  ·simp [BitVec.getLsbD_or, Bool.or_assoc]
def madeIn (m : List Sol) (A : U) (acc : U) (i : Nat) : U := (pathsM m i).foldl (fun acc l => if subB l A then acc ||| l else acc) acc
def madeU (m : List Sol) (A : U) : U := (listU A).foldl (madeIn m A) 0
theorem madeU_bit (m : List Sol) (A : U) (k : Nat) : ∀ (l : List Nat) (a : U), (l.foldl (madeIn m A) a).getLsbD k = (a.getLsbD k || l.any fun i => (pathsM m i).any fun s => subB s A && s.getLsbD k)
 | [], a => by simp
 | i :: l, a => by
  rw [List.foldl_cons, madeU_bit m A k l, List.any_cons]
  unfold madeIn
  rw [foldl_or (fun s => subB s A) (fun s => s) k, Bool.or_assoc]
theorem fe_fold {can : Nat → U → Bool} (hM : Mono can) (c : U → Bool) : ∀ (l : List U) (a : U), Fe can a → (∀ s ∈ l, Fe can s) → Fe can (l.foldl (fun acc x => if c x then acc ||| x else acc) a)
 | [], _, h, _ => h
 | x :: l, a, h, hl => by
  rw [List.foldl_cons]
  refine fe_fold hM c l _ ?_ (fun s hs => hl s (by simp [hs]))
  split
  ·exact h.union hM (hl x (by simp))
  ·exact h
theorem fe_made {m : List Sol} (hm : m.length ≤ 12) (A : U) : ∀ (l : List Nat) (a : U), Fe (canM m) a → Fe (canM m) (l.foldl (madeIn m A) a)
 | [], _, h => h
 | i :: l, a, h => by
  rw [List.foldl_cons]
  exact fe_made hm A l _ (fe_fold (canM_mono m) _ _ _ h fun s hs => (paths_mem hm hs).2.2)
/-- DrawUnions -/
theorem unions_law {m : List Sol} (hm : m.length ≤ 12) {A B : U} (hA : Sub A (allU m.length)) (hB : Sub B (allU m.length)) : (firstM m A = true → firstM m B = true → firstM m (A ||| B) = true) ∧ firstM m A = (madeU m A == A) := by
 refine ⟨fun h1 h2 => ?_, ?_⟩
 ·rw [first_iff m hm _ hA] at h1
  rw [first_iff m hm _ hB] at h2
  rw [first_iff m hm _ (or_sub.2 ⟨hA, hB⟩)]
  exact h1.union (canM_mono m) h2
 ·rw [Bool.eq_iff_iff, first_iff m hm _ hA, beq_iff_eq]
  constructor
  ·intro hF
   apply BitVec.eq_of_getLsbD_eq
   intro k _
   unfold madeU
   rw [madeU_bit, Bool.eq_iff_iff]
   simp only [BitVec.ofNat_eq_ofNat, BitVec.getLsbD_zero, Bool.false_or, List.any_eq_true, Bool.and_eq_true]
   constructor
   ·rintro ⟨i, _, s, _, h1, h2⟩
    exact (subB_iff _ _).1 h1 k h2
   ·intro hk
    obtain ⟨l, hl, hs⟩ := paths_below hm hA hk hF
    exact ⟨k, (listU_mem _ _).2 hk, l, hl, (subB_iff _ _).2 hs, (paths_mem hm hl).2.1⟩
  ·intro h
   rw [← h]
   exact fe_made hm A _ _ .zero
/-! ### before -/
theorem needs_fold (q : Nat) : ∀ (l : List U) (a : U), (l.foldl (· &&& ·) a).getLsbD q = (a.getLsbD q && l.all fun s => s.getLsbD q)
 | [], a => by simp
 | x :: l, a => by
  rw [List.foldl_cons, needs_fold q l, List.all_cons, BitVec.getLsbD_and, Bool.and_assoc]
theorem not_bit (A : U) (i : Nat) (hi : i < 64) : (~~~A).getLsbD i = !A.getLsbD i := by rw [BitVec.getLsbD_not]; simp [hi]
theorem needs_bit {m : List Sol} (hm : m.length ≤ 12) {p q : Nat} (hq : q < m.length) (hp : p < m.length) : (needsU m p).getLsbD q = (q != p && (pathsM m p).all fun s => s.getLsbD q) := by
 unfold needsU
 rw [needs_fold, BitVec.getLsbD_and, allU_bit _ _ (by omega), not_bit _ _ (by omega), bit_bit _ _ (by omega)]
 simp only [hq, decide_true, Bool.true_and]
 by_cases e : q = p <;> simp [e]
/-- DrawBefore -/
theorem before_law {m : List Sol} (hm : m.length ≤ 12) {p : Nat} (hp : p < m.length) : (∀ q, q < m.length → q ≠ p → ((pathsM m p).all fun s => s.getLsbD q) = (needsU m p).getLsbD q) ∧ (∀ l ∈ pathsM m p, Sub l (allU m.length) ∧ firstM m l = true ∧ l.getLsbD p = true) ∧ ∀ (i k : Nat) (a b : U), (pathsM m p)[i]? = some a → (pathsM m p)[k]? = some b → k ≠ i → subB b a = false := by
 refine ⟨fun q hq hne => ?_, fun l hl => ?_, fun i k a b ha hb hne => ?_⟩
 ·rw [needs_bit hm hq hp]; simp [hne]
 ·obtain ⟨h1, h2, h3⟩ := paths_mem hm hl
  exact ⟨h1, (first_iff m hm l h1).2 h3, h2⟩
 ·rw [subB_not]
  intro hs
  have e := paths_anti b (List.mem_iff_getElem?.2 ⟨k, hb⟩) a (List.mem_iff_getElem?.2 ⟨i, ha⟩) hs
  subst e
  have hk := (List.getElem?_eq_some_iff.1 hb)
  have hi := (List.getElem?_eq_some_iff.1 ha)
  obtain ⟨hk1, hk2⟩ := hk
  obtain ⟨hi1, hi2⟩ := hi
  exact hne ((List.getElem?_inj hk1 (paths_nodup m p)).1 (hb.trans ha.symm))
end Go.Draw
end
section
namespace Go.Draw
set_option maxRecDepth 10000
/-! ### rounds, orders begun -/
def isMoveI (side far : Int) : Bool := (side == 0 && far == 0) || (decide (side ≥ 1) && decide (side ≤ 4) && decide (far ≥ 1) && decide (far ≤ 7))
abbrev MvI := Int × Int × Int
def natMv (x : MvI) : Mv := (x.1.toNat, x.2.1.toNat, x.2.2.toNat)
def goesI (m : List Sol) (x : MvI) (g : U) : Bool := decide (0 ≤ x.1) && decide (x.1 < (m.length : Int)) && !g.getLsbD x.1.toNat && isMoveI x.2.1 x.2.2 && freeM m (natMv x) g
def madeF (m : List Sol) : List MvI → U → Option U
 | [], g => some g
 | x :: l, g => if goesI m x g then madeF m l (g ||| bit x.1.toNat) else none
def madeM (m : List Sol) (l : List MvI) : Option U := madeF m l 0
theorem readyF_bit (m : List Sol) (G : U) (i : Nat) : ∀ k, k ≤ 64 → (readyF m G k).getLsbD i = (decide (i < k) && canM m i G && !G.getLsbD i)
 | 0, _ => by simp [readyF]
 | k + 1, h => by
  unfold readyF
  have ih := readyF_bit m G i k (by omega)
  by_cases e : i = k
  ·subst e
   split
   ·next hc =>
    rw [or_bit _ _ _ (by omega), ih]
    simp at hc
    simp [canM, hc]
   ·next hc =>
    rw [ih]
    unfold canM
    cases h1 : (goesM m i G).isSome <;> cases h2 : G.getLsbD i <;> simp_all
  ·have e2 : decide (i < k + 1) = decide (i < k) := by
    by_cases h3 : i < k
    ·simp [h3, show i < k + 1 by omega]
    ·simp [h3, show ¬ i < k + 1 by omega]
   split
   ·rw [or_bit _ _ _ (by omega), ih, e2]; simp [e]
   ·rw [ih, e2]
theorem ready_bit (m : List Sol) (hm : m.length ≤ 64) (G : U) (i : Nat) : (readyM m G).getLsbD i = (decide (i < m.length) && canM m i G && !G.getLsbD i) := readyF_bit m G i _ hm
def stepR (m : List Sol) (G : U) : U := G ||| readyM m G
def goneR (m : List Sol) : Nat → U
 | 0 => 0
 | k + 1 => stepR m (goneR m k)
section
variable {m : List Sol} (hm : m.length ≤ 12)
include hm
theorem step_bit_iff (G : U) (i : Nat) : (stepR m G).getLsbD i = true ↔ G.getLsbD i = true ∨ i < m.length ∧ canM m i G = true := by
 unfold stepR
 rw [BitVec.getLsbD_or, ready_bit m (by omega)]
 cases G.getLsbD i <;> simp
theorem step_mono {A B : U} (h : Sub A B) : Sub (stepR m A) (stepR m B) := by
 intro i hi
 rw [step_bit_iff hm] at hi ⊢
 rcases hi with hi | ⟨h1, h2⟩
 ·exact .inl (h i hi)
 ·exact .inr ⟨h1, canM_mono m i A B h h2⟩
omit hm in
theorem step_up (G : U) : Sub G (stepR m G) := sub_or_left _ _
theorem step_fix {G : U} (h : readyM m G = 0) : stepR m G = G := by unfold stepR; rw [h]; simp
theorem gone_all (k : Nat) : Sub (goneR m k) (allU m.length) := by
 induction k with
 | zero => exact sub_zero _
 | succ k ih =>
  intro i hi
  rw [goneR, step_bit_iff hm] at hi
  rw [allU_bit _ _ (by omega)]
  rcases hi with hi | hi
  ·have := ih i hi
   rwa [allU_bit _ _ (by omega)] at this
  ·simpa using hi.1
theorem gone_fe (k : Nat) : Fe (canM m) (goneR m k) := by
 induction k with
 | zero => exact .zero
 | succ k ih =>
  have key : ∀ n, n ≤ 64 → Fe (canM m) (goneR m k ||| readyF m (goneR m k) n) := by
   intro n
   induction n with
   | zero => intro _; rw [show readyF m (goneR m k) 0 = 0 from rfl, show goneR m k ||| (0 : U) = goneR m k by simp]; exact ih
   | succ n ihn =>
    intro hn
    have h0 := ihn (by omega)
    unfold readyF
    split
    ·next hc =>
     rw [← BitVec.or_assoc]
     rw [Bool.and_eq_true] at hc
     refine .add h0 (by omega) ?_ (canM_mono m n _ _ (sub_or_left _ _) hc.1)
     rw [BitVec.getLsbD_or, readyF_bit m _ n n (by omega)]
     simpa using hc.2
    ·exact h0
  exact key _ (by omega)
theorem gone_grow (k : Nat) : (∀ j, j < k → readyM m (goneR m j) ≠ 0) → k ≤ cardU (goneR m k) := by
 induction k with
 | zero => intro _; omega
 | succ k ih =>
  intro h
  have h1 := ih (fun j hj => h j (by omega))
  have h2 := h k (by omega)
  have hlt : cardU (goneR m k) < cardU (goneR m (k + 1)) := by
   rcases Nat.lt_or_ge (cardU (goneR m k)) (cardU (goneR m (k + 1))) with h | h
   ·exact h
   ·exfalso
    have e := sub_card_eq (step_up (m := m) (goneR m k)) h
    apply h2
    rw [zero_bits]
    intro i _
    cases hb : (readyM m (goneR m k)).getLsbD i
    ·rfl
    ·exfalso
     have h3 : (stepR m (goneR m k)).getLsbD i = true := sub_or_right _ _ i hb
     rw [← e] at h3
     rw [ready_bit m (by omega), h3] at hb
     simp at hb
  omega
theorem gone_end : ∃ K, K ≤ 12 ∧ readyM m (goneR m K) = 0 ∧ ∀ j, j < K → readyM m (goneR m j) ≠ 0 := by
 have key : ∀ n, (∃ K, K ≤ n ∧ readyM m (goneR m K) = 0 ∧ ∀ j, j < K → readyM m (goneR m j) ≠ 0) ∨ ∀ j, j ≤ n → readyM m (goneR m j) ≠ 0 := by
  intro n
  induction n with
  | zero =>
   by_cases h : readyM m (goneR m 0) = 0
   ·exact .inl ⟨0, Nat.le_refl _, h, fun j hj => absurd hj (by omega)⟩
   ·exact .inr fun j hj => by rw [show j = 0 by omega]; exact h
  | succ n ih =>
   rcases ih with ⟨K, h1, h2⟩ | h
   ·exact .inl ⟨K, by omega, h2⟩
   ·by_cases hz : readyM m (goneR m (n + 1)) = 0
    ·exact .inl ⟨n + 1, Nat.le_refl _, hz, fun j hj => h j (by omega)⟩
    ·refine .inr fun j hj => ?_
     by_cases e : j = n + 1
     ·rw [e]; exact hz
     ·exact h j (by omega)
 rcases key 12 with h | h
 ·exact h
 ·have h1 := gone_grow hm 13 (fun j hj => h j (by omega))
  have h2 := card_sub hm (gone_all hm 13)
  omega
theorem gone_stay {K : Nat} (hK : readyM m (goneR m K) = 0) (j : Nat) : goneR m (K + j) = goneR m K := by
 induction j with
 | zero => rfl
 | succ j ih => rw [← Nat.add_assoc, goneR, ih, step_fix hm hK]
omit hm in
theorem roundsF_eq (K : Nat) (hK : readyM m (goneR m K) = 0) (hl : ∀ j, j < K → readyM m (goneR m j) ≠ 0) : ∀ n j out, j ≤ K → K < j + n → roundsF m n (goneR m j) out = (out ++ (List.range' j (K - j)).map (fun j => listU (readyM m (goneR m j))), allU m.length &&& ~~~(goneR m K))
 | 0, _, _, _, h => by omega
 | n + 1, j, out, h1, h2 => by
  unfold roundsF
  by_cases e : j = K
  ·subst e
   rw [if_pos hK]; simp
  ·rw [if_neg (hl j (by omega))]
   have := roundsF_eq K hK hl n (j + 1) (out ++ [listU (readyM m (goneR m j))]) (by omega) (by omega)
   rw [show goneR m j ||| readyM m (goneR m j) = goneR m (j + 1) from rfl, this]
   rw [show K - j = (K - (j + 1)) + 1 by omega, List.range'_succ, List.map_cons, List.append_assoc]; rfl
/-- what can go at last -/
def lastR (m : List Sol) : U := goneR m 12
theorem rounds_spec : ∃ K, K ≤ 12 ∧ readyM m (goneR m K) = 0 ∧ (∀ j, j < K → readyM m (goneR m j) ≠ 0) ∧ roundsM m = ((List.range K).map (fun j => listU (readyM m (goneR m j))), allU m.length &&& ~~~(goneR m K)) ∧ goneR m K = lastR m := by
 obtain ⟨K, h1, h2, h3⟩ := gone_end hm
 refine ⟨K, h1, h2, h3, ?_, ?_⟩
 ·unfold roundsM
  have := roundsF_eq K h2 h3 13 0 [] (Nat.zero_le _) (by omega)
  rw [show goneR m 0 = 0 from rfl] at this
  rw [this, List.range_eq_range']; simp
 ·unfold lastR
  have := gone_stay hm h2 (12 - K)
  rw [show K + (12 - K) = 12 by omega] at this
  exact this.symm
theorem last_fix : readyM m (lastR m) = 0 := by
 obtain ⟨K, _, h, _, _, e⟩ := rounds_spec hm
 rw [← e]; exact h
theorem gone_last (k : Nat) : Sub (goneR m k) (lastR m) := by
 induction k with
 | zero => exact sub_zero _
 | succ k ih =>
  have := step_mono hm ih
  rwa [step_fix hm (last_fix hm)] at this
/-- whatever comes first has gone at last -/
theorem fe_last {S : U} (hS : Sub S (allU m.length)) (h : Fe (canM m) S) : Sub S (lastR m) := by
 rcases h.next (canM_mono m) (lastR m) with h | ⟨p, hp, h1, h2, h3⟩
 ·exact h
 ·have := last_fix hm
  have hb := ready_bit m (by omega) (lastR m) p
  rw [this] at hb
  have hn : p < m.length := by
   have := hS p h1
   rw [allU_bit _ _ (by omega)] at this
   simpa using this
  simp [hn, h2, h3] at hb
theorem iter_last {G : U} (hS : Sub G (allU m.length)) (h : Fe (canM m) G) : ∀ k, Sub (goneR m k) (Nat.repeat (stepR m) k G) ∧ Sub (Nat.repeat (stepR m) k G) (lastR m)
 | 0 => ⟨sub_zero _, fe_last hm hS h⟩
 | k + 1 => by
  obtain ⟨h1, h2⟩ := iter_last hS h k
  refine ⟨step_mono hm h1, ?_⟩
  have := step_mono hm h2
  rwa [step_fix hm (last_fix hm)] at this
/-- whatever order is begun, it goes on to all that goes in rounds -/
theorem begun_last {G : U} (hS : Sub G (allU m.length)) (h : Fe (canM m) G) : Nat.repeat (stepR m) 12 G = lastR m :=
 Sub.antisymm (iter_last hm hS h 12).2 (iter_last hm hS h 12).1
end
/-! ### orders -/
theorem movesL_mem {x : MvI} (hp : 0 ≤ x.1) (h : isMoveI x.2.1 x.2.2 = true) : natMv x ∈ movesL x.1.toNat := by
 obtain ⟨p, s, f⟩ := x
 unfold isMoveI at h
 unfold movesL natMv
 simp only [Bool.or_eq_true, Bool.and_eq_true, beq_iff_eq, decide_eq_true_eq] at h
 simp only at hp
 rcases h with ⟨rfl, rfl⟩ | ⟨⟨⟨h1, h2⟩, h3⟩, h4⟩
 ·simp
 ·refine List.mem_cons_of_mem _ (List.mem_map.2 ⟨(s.toNat - 1) * 7 + (f.toNat - 1), List.mem_range.2 (by omega), ?_⟩)
  simp only [Prod.mk.injEq, true_and]
  omega
theorem goesI_can {m : List Sol} {x : MvI} {g : U} (h : goesI m x g = true) : 0 ≤ x.1 ∧ x.1.toNat < m.length ∧ g.getLsbD x.1.toNat = false ∧ canM m x.1.toNat g = true := by
 unfold goesI at h
 simp only [Bool.and_eq_true, decide_eq_true_eq, Bool.not_eq_true'] at h
 obtain ⟨⟨⟨⟨h1, h2⟩, h3⟩, h4⟩, h5⟩ := h
 refine ⟨h1, by omega, h3, ?_⟩
 unfold canM goesM
 rw [find_isSome, List.any_eq_true]
 exact ⟨_, movesL_mem h1 h4, h5⟩
theorem madeF_fe {m : List Sol} (hm : m.length ≤ 12) : ∀ (l : List MvI) (g G : U), Fe (canM m) g → Sub g (allU m.length) → madeF m l g = some G → Fe (canM m) G ∧ Sub G (allU m.length)
 | [], g, G, h1, h2, h => by simp [madeF] at h; subst h; exact ⟨h1, h2⟩
 | x :: l, g, G, h1, h2, h => by
  unfold madeF at h
  split at h
  ·next hg =>
   obtain ⟨h3, h4, h5, h6⟩ := goesI_can hg
   refine madeF_fe hm l _ G (.add h1 (by omega) h5 h6) (or_sub.2 ⟨h2, fun i hi => ?_⟩) h
   rw [bit_bit _ _ (by omega)] at hi
   rw [allU_bit _ _ (by omega)]
   simp at hi
   simp [hi, h4]
  ·cases h
theorem made_fe {m : List Sol} (hm : m.length ≤ 12) {l : List MvI} {G : U} (h : madeM m l = some G) : Fe (canM m) G ∧ Sub G (allU m.length) := madeF_fe hm l 0 G .zero (sub_zero _) h
/-- an order is begun within the rounds -/
theorem madeF_rounds {m : List Sol} (hm : m.length ≤ 12) : ∀ (l : List MvI) (g G : U) (k : Nat), Sub g (goneR m k) → madeF m l g = some G → ∀ (i : Nat) (x : MvI), l[i]? = some x → 0 ≤ x.1 ∧ x.1.toNat < m.length ∧ (goneR m (k + i + 1)).getLsbD x.1.toNat = true
 | [], _, _, _, _, _, i, x, hx => by simp at hx
 | y :: l, g, G, k, hs, h, i, x, hx => by
  unfold madeF at h
  split at h
  ·next hg =>
   obtain ⟨h3, h4, h5, h6⟩ := goesI_can hg
   have hin : (goneR m (k + 1)).getLsbD y.1.toNat = true := by
    rw [goneR, step_bit_iff hm]
    exact .inr ⟨h4, canM_mono m _ _ _ hs h6⟩
   cases i with
   | zero =>
    simp at hx; subst hx
    exact ⟨h3, h4, hin⟩
   | succ i =>
    have := madeF_rounds hm l _ G (k + 1) (or_sub.2 ⟨hs.trans (step_up _), fun j hj => by
     rw [bit_bit _ _ (by omega)] at hj
     have : j = y.1.toNat := by simpa using hj
     rw [this]; exact hin⟩) h i x (by simpa using hx)
    rw [show k + (i + 1) + 1 = k + 1 + i + 1 by omega]; exact this
  ·cases h
theorem gone_le {m : List Sol} {j k : Nat} (h : j ≤ k) : Sub (goneR m j) (goneR m k) := by
 obtain ⟨d, rfl⟩ : ∃ d, k = j + d := ⟨k - j, by omega⟩
 clear h
 induction d with
 | zero => exact Sub.refl _
 | succ d ih => exact ih.trans (step_up _)
theorem round_of {m : List Sol} {p : Nat} : ∀ k, (goneR m k).getLsbD p = true → ∃ j, j < k ∧ (readyM m (goneR m j)).getLsbD p = true
 | 0, h => by simp [goneR] at h
 | k + 1, h => by
  rw [goneR, stepR, BitVec.getLsbD_or, Bool.or_eq_true] at h
  rcases h with h | h
  ·obtain ⟨j, h1, h2⟩ := round_of k h; exact ⟨j, by omega, h2⟩
  ·exact ⟨k, by omega, h⟩
theorem round_one {m : List Sol} (hm : m.length ≤ 12) {p j k : Nat} (hj : (readyM m (goneR m j)).getLsbD p = true) (hk : (readyM m (goneR m k)).getLsbD p = true) : j = k := by
 have key : ∀ j k, j < k → (readyM m (goneR m j)).getLsbD p = true → (readyM m (goneR m k)).getLsbD p = true → False := by
  intro j k h hj hk
  have h1 : (goneR m (j + 1)).getLsbD p = true := sub_or_right _ _ p hj
  have h2 := gone_le (m := m) (show j + 1 ≤ k from h) p h1
  rw [ready_bit m (by omega), h2] at hk
  simp at hk
 rcases Nat.lt_trichotomy j k with h | h | h
 ·exact (key j k h hj hk).elim
 ·exact h
 ·exact (key k j h hk hj).elim
theorem countP_range_one (f : Nat → Bool) (k : Nat) : ∀ n, (∀ j, j < n → (f j = true ↔ j = k)) → (List.range n).countP f = if k < n then 1 else 0
 | 0, _ => by simp
 | n + 1, h => by
  rw [List.range_succ, List.countP_append, countP_range_one f k n (fun j hj => h j (by omega))]
  have hn := h n (by omega)
  by_cases e : n = k
  ·subst e
   simp [hn.2 rfl]
  ·have : f n = false := by
    cases hf : f n
    ·rfl
    ·exact absurd (hn.1 hf) e
   by_cases h1 : k < n
   ·simp [this, h1, show k < n + 1 by omega]
   ·simp [this, h1, show ¬ k < n + 1 by omega]
/-- DrawRounds -/
theorem rounds_law {m : List Sol} (hm : m.length ≤ 12) {l : List MvI} {G : U} (h : madeM m l = some G) : ∀ (i : Nat) (x : MvI), l[i]? = some x → 0 ≤ x.1 ∧ (roundsM m).1.countP (fun r => r.contains x.1.toNat) = 1 ∧ ∀ (k : Nat) (r : List Nat), (roundsM m).1[k]? = some r → r.contains x.1.toNat = true → k ≤ i := by
 intro i x hx
 obtain ⟨h1, h2, h3⟩ := madeF_rounds hm l 0 G 0 (sub_zero _) h i x hx
 obtain ⟨K, hK, hz, hnz, hR, _⟩ := rounds_spec hm
 rw [Nat.zero_add] at h3
 obtain ⟨j, hj, hjb⟩ := round_of (i + 1) h3
 have hjK : j < K := by
  rcases Nat.lt_or_ge j K with h | h
  ·exact h
  ·obtain ⟨d, rfl⟩ : ∃ d, j = K + d := ⟨j - K, by omega⟩
   rw [gone_stay hm hz, hz] at hjb
   simp at hjb
 refine ⟨h1, ?_, fun k r hr hc => ?_⟩
 ·rw [hR]
  show ((List.range K).map _).countP _ = 1
  rw [List.countP_map]
  have := countP_range_one ((fun r : List Nat => r.contains x.1.toNat) ∘ fun j => listU (readyM m (goneR m j))) j K (fun t _ => by
   show (listU (readyM m (goneR m t))).contains x.1.toNat = true ↔ t = j
   rw [List.contains_iff_mem, listU_mem]
   exact ⟨fun h => round_one hm h hjb, fun h => h ▸ hjb⟩)
  rw [this, if_pos hjK]
 ·rw [hR] at hr
  simp only [List.getElem?_map] at hr
  by_cases hk : k < K
  ·rw [List.getElem?_range hk] at hr
   simp at hr; subst hr
   rw [List.contains_iff_mem, listU_mem] at hc
   have := round_one hm hc hjb
   omega
  ·rw [List.getElem?_eq_none (by simpa using hk)] at hr; cases hr
end Go.Draw
end
