import Derived.Test.YtccnkebkgegohaaGreatDoorHS4
import Derived.Laws.CopyRow
import Derived.Laws.Tables
import Derived.Laws.AppendOwn
/-
  Given contracts of functions of the program, and laws for them, one behind the other.
-/
set_option linter.unusedVariables false
set_option linter.unusedSimpArgs false
set_option linter.unusedSectionVars false
section
namespace Go.Proofs.YtccnkebkgegohaaGreatDoor
open Go Go.Tra
/-! ### the reference's way to the least list, and to turns -/
/-- the least one so far of those that can be first -/
def bestL (l : List Sol) (m : List Ac) : Nat → Int
 | 0 => -1
 | k + 1 => if freeL l m k && (decide (bestL l m k < 0) || decide (cmpA (atN m k) (atN m (bestL l m k).toNat) < 0)) then (k : Int) else bestL l m k
def dropL (m : List Ac) (i : Nat) : List Ac := m.take i ++ m.drop (i + 1)
def normR (l : List Sol) : Nat → List Ac → List Ac
 | 0, _ => []
 | n + 1, m => atN m (bestL l m m.length).toNat :: normR l n (dropL m (bestL l m m.length).toNat)
section
variable {l : List Sol} {m : List Ac}
theorem atN_at {i : Nat} (h : i < m.length) : atN m i = m[i] := by simp [atN, List.getD_eq_getElem?_getD, List.getElem?_eq_getElem h]
theorem at_split {i : Nat} (h : i < m.length) : m = m.take i ++ atN m i :: m.drop (i + 1) := by
 rw [atN_at h, ← List.drop_eq_getElem_cons h, List.take_append_drop]
theorem freeL_dep (F : Fine l m) {i : Nat} : freeL l m i = (m.take i).all fun z => !depA l z (atN m i) := by
 unfold freeL
 rw [Bool.eq_iff_iff, List.all_eq_true, List.all_eq_true]
 exact ⟨fun h z hz => by rw [← apart_dep F (List.mem_of_mem_take hz)]; exact h z hz, fun h z hz => by rw [apart_dep F (List.mem_of_mem_take hz)]; exact h z hz⟩
theorem minV_snoc (f : Ac → Ac → Int) (y : Ac) : ∀ (x : Ac) (xs : List Ac), minV f x (xs ++ [y]) = if f y (minV f x xs) < 0 then y else minV f x xs
 | x, [] => rfl
 | x, z :: xs => by simp only [List.cons_append, minV]; exact minV_snoc f y _ xs
structure BestIs (l : List Sol) (m : List Ac) (k i : Nat) (x : Ac) (xs : List Ac) : Prop where
 lt : i < k
 fr : ∀ z ∈ m.take i, depA l z (atN m i) = false
 frs : frs (depA l) [] (m.take k) = x :: xs
 min : atN m i = minV cmpA x xs
theorem bestL_is (F : Fine l m) : ∀ k, k ≤ m.length → (bestL l m k = -1 ∧ frs (depA l) [] (m.take k) = []) ∨ ∃ (i : Nat) (x : Ac) (xs : List Ac), bestL l m k = (i : Int) ∧ BestIs l m k i x xs
 | 0, _ => .inl ⟨rfl, rfl⟩
 | k + 1, hk => by
  have hlt : k < m.length := by omega
  have ht : m.take (k + 1) = m.take k ++ [atN m k] := by rw [atN_at hlt, List.take_succ_eq_append_getElem hlt]
  have hf := freeL_dep F (i := k)
  have hs := frs_snoc (D := depA l) [] (m.take k) (atN m k)
  rw [List.nil_append, ← hf, ← ht] at hs
  rcases bestL_is F k (by omega) with ⟨h1, h2⟩ | ⟨i, x, xs, h1, B⟩
  ·rw [h2, List.nil_append] at hs
   unfold bestL
   rw [h1]
   cases hb : freeL l m k with
   | false => rw [hb] at hs; exact .inl ⟨by simp, by simpa using hs⟩
   | true =>
    rw [hb] at hs
    refine .inr ⟨k, atN m k, [], by simp, by omega, fun z hz => ?_, by simpa using hs, rfl⟩
    rw [hb] at hf
    have := List.all_eq_true.1 hf.symm z hz
    simpa using this
  ·rw [B.frs] at hs
   unfold bestL
   rw [h1]
   cases hb : freeL l m k with
   | false => rw [hb] at hs; exact .inr ⟨i, x, xs, by simp, by have := B.lt; omega, B.fr, by simpa using hs, B.min⟩
   | true =>
    rw [hb] at hs
    have hs' : frs (depA l) [] (m.take (k + 1)) = x :: (xs ++ [atN m k]) := by simpa using hs
    have hm := minV_snoc cmpA (atN m k) x xs
    rw [← B.min] at hm
    by_cases hc : cmpA (atN m k) (atN m i) < 0
    ·rw [if_pos hc] at hm
     refine .inr ⟨k, x, xs ++ [atN m k], by simp [hc], by omega, fun z hz => ?_, hs', hm.symm⟩
     rw [hb] at hf
     have := List.all_eq_true.1 hf.symm z hz
     simpa using this
    ·rw [if_neg hc] at hm
     exact .inr ⟨i, x, xs ++ [atN m k], by simp [hc]; omega, by have := B.lt; omega, B.fr, hs', hm.symm⟩
theorem best_all (F : Fine l m) (h0 : m ≠ []) : ∃ (i : Nat) (x : Ac) (xs : List Ac), bestL l m m.length = (i : Int) ∧ BestIs l m m.length i x xs := by
 rcases bestL_is F m.length (Nat.le_refl _) with ⟨_, h2⟩ | h
 ·exfalso
  rw [List.take_length] at h2
  obtain ⟨y, m', rfl⟩ := List.exists_cons_of_ne_nil h0
  rw [frs_head] at h2
  cases h2
 ·exact h
theorem dropL_len {i : Nat} (h : i < m.length) : (dropL m i).length = m.length - 1 := by
 unfold dropL
 rw [List.length_append, List.length_take, List.length_drop]
 omega
theorem dropL_sub {i : Nat} {x : Ac} (h : x ∈ dropL m i) : x ∈ m := by
 rcases List.mem_append.1 h with h | h
 ·exact List.mem_of_mem_take h
 ·exact List.mem_of_mem_drop h
end
theorem normR_nrm {l : List Sol} : ∀ (n : Nat) {m : List Ac}, Fine l m → m.length = n → normR l n m = norm (depA l) cmpA n m
 | 0, _, _, _ => rfl
 | n + 1, m, F, h => by
  have h0 : m ≠ [] := fun e => by subst e; cases h
  obtain ⟨i, x, xs, hb, B⟩ := best_all F h0
  have hi := B.lt
  have hfr := B.frs
  rw [List.take_length] at hfr
  unfold normR norm
  rw [hfr, hb]
  simp only [Int.toNat_natCast]
  rw [← B.min]
  have e : @List.erase Ac instBEqOfDecidableEq m (atN m i) = dropL m i := by
   have hm := at_split hi
   have : @List.erase Ac instBEqOfDecidableEq (m.take i ++ atN m i :: m.drop (i + 1)) (atN m i) = m.take i ++ m.drop (i + 1) := erase_mid (D := depA l) (depA_refl l) B.fr
   rw [← hm] at this
   exact this
  rw [e, normR_nrm n (F.sub fun a ha => dropL_sub ha) (by rw [dropL_len hi, h]; rfl)]
theorem normR_eq {l : List Sol} {m : List Ac} (F : Fine l m) : normR l m.length m = nrm l m := normR_nrm _ F rfl
/-! turns -/
def oppR (x y : Ac) : Bool := !(y.1 == 1) && !(y.1 == x.1) && (y.2.1 == x.2.1)
def scanR (l : List Sol) (x : Ac) : List Ac → Nat → Option Nat
 | [], _ => none
 | y :: ys, k => if meetsB (acCells l x) (acCells l y) then (if oppR x y then some k else none) else scanR l x ys (k + 1)
def turnRf (l : List Sol) : List Ac → Nat → Option (Nat × Nat)
 | [], _ => none
 | x :: ys, i => if x.1 = 1 then turnRf l ys (i + 1) else match scanR l x ys (i + 1) with
  | some k => some (i, k)
  | none => turnRf l ys (i + 1)
def reduceR (l : List Sol) : Nat → List Ac → List Ac
 | 0, m => m
 | n + 1, m => match turnRf l m 0 with
  | none => m
  | some (i, k) => reduceR l n (dropL (dropL m k) i)
end Go.Proofs.YtccnkebkgegohaaGreatDoor
end
section
namespace Go.Proofs.YtccnkebkgegohaaGreatDoor
open Go Go.Tra
/-! ### in how many ways the acts of a set can stand first: the numbers stay small -/
def pc (t : Nat) : Nat → Nat
 | 0 => 0
 | j + 1 => pc t j + (if t.testBit j then 1 else 0)
theorem bit_or (s j i : Nat) : (s ||| 2 ^ j).testBit i = (s.testBit i || decide (i = j)) := by
 rw [Nat.testBit_or, Nat.testBit_two_pow]
 congr 1
 rw [Bool.eq_iff_iff]; simp; exact eq_comm
theorem pc_or {s j : Nat} (hj : s.testBit j = false) : ∀ n, pc (s ||| 2 ^ j) n = pc s n + (if j < n then 1 else 0)
 | 0 => by simp [pc]
 | n + 1 => by
  unfold pc
  rw [pc_or hj n, bit_or]
  by_cases h : n = j
  ·subst h; simp [hj]
  ·by_cases h2 : j < n
   ·rw [if_pos h2, if_pos (by omega : j < n + 1)]; simp [h]; omega
   ·rw [if_neg h2, if_neg (by omega : ¬ j < n + 1)]; simp [h]
/-- how many of the sets with one act less have been seen -/
def seen (s j t : Nat) : Nat → Nat
 | 0 => 0
 | i + 1 => seen s j t i + (if t.testBit i && (decide (t - 2 ^ i < s) || (decide (t - 2 ^ i = s) && decide (i < j))) then 1 else 0)
theorem seen_le (s j t : Nat) : ∀ n, seen s j t n ≤ n
 | 0 => Nat.le_refl _
 | n + 1 => by unfold seen; have := seen_le s j t n; split <;> omega
theorem seen_next (s t : Nat) : ∀ n m, n ≤ m → seen (s + 1) 0 t n = seen s m t n
 | 0, _, _ => rfl
 | n + 1, m, h => by
  unfold seen
  rw [seen_next s t n m (by omega)]
  congr 2
  rw [eq_iff_iff]
  simp only [Bool.and_eq_true, Bool.or_eq_true, decide_eq_true_eq]
  constructor
  ·rintro ⟨h1, h2⟩; exact ⟨h1, by omega⟩
  ·rintro ⟨h1, h2⟩; exact ⟨h1, by omega⟩
theorem seen_mono (s j t : Nat) : ∀ n, seen s j t n ≤ seen s (j + 1) t n
 | 0 => Nat.le_refl _
 | n + 1 => by
  unfold seen
  have ih := seen_mono s j t n
  by_cases h : (t.testBit n && (decide (t - 2 ^ n < s) || (decide (t - 2 ^ n = s) && decide (n < j)))) = true
  ·have h' : (t.testBit n && (decide (t - 2 ^ n < s) || (decide (t - 2 ^ n = s) && decide (n < j + 1)))) = true := by
    simp only [Bool.and_eq_true, Bool.or_eq_true, decide_eq_true_eq] at h ⊢
    exact ⟨h.1, by omega⟩
   rw [if_pos h, if_pos h']; omega
  ·rw [if_neg h]; split <;> omega
theorem or_sub {s j : Nat} (hj : s.testBit j = false) : s ||| 2 ^ j = s + 2 ^ j := by
 have h2 : s / 2 ^ j % 2 = 0 := by
  rw [Nat.testBit_eq_decide_div_mod_eq] at hj
  have := of_decide_eq_false hj
  omega
 have hr : s % 2 ^ (j + 1) < 2 ^ j := by
  rw [Nat.pow_succ, Nat.mod_mul, h2, Nat.mul_zero, Nat.add_zero]
  exact Nat.mod_lt _ (Nat.two_pow_pos j)
 have hs : s = 2 ^ (j + 1) * (s / 2 ^ (j + 1)) + s % 2 ^ (j + 1) := (Nat.div_add_mod _ _).symm
 generalize s / 2 ^ (j + 1) = q at *
 generalize s % 2 ^ (j + 1) = r at *
 have h3 : 2 ^ j + r < 2 ^ (j + 1) := by rw [Nat.pow_succ]; omega
 have h4 := Nat.two_pow_add_eq_or_of_lt hr 1
 rw [Nat.mul_one] at h4
 have h5 := Nat.two_pow_add_eq_or_of_lt h3 q
 have h6 := Nat.two_pow_add_eq_or_of_lt (show r < 2 ^ (j + 1) by omega) q
 rw [hs]
 rw [h6, Nat.or_assoc, Nat.or_comm r, ← h4, ← h5, ← h6]
 omega
theorem seen_step {s j : Nat} (hj : s.testBit j = false) : ∀ n, j < n → seen s j (s ||| 2 ^ j) n + 1 ≤ seen s (j + 1) (s ||| 2 ^ j) n
 | 0, h => by omega
 | n + 1, h => by
  by_cases e : n = j
  ·subst e
   unfold seen
   have := seen_mono s n (s ||| 2 ^ n) n
   have hs : s ||| 2 ^ n - 2 ^ n = s ||| 2 ^ n - 2 ^ n := rfl
   have hsub : (s ||| 2 ^ n) - 2 ^ n = s := by rw [or_sub hj]; omega
   rw [hsub, bit_or]
   simp
   omega
  ·have ih := seen_step hj n (by omega)
   unfold seen
   by_cases h2 : ((s ||| 2 ^ j).testBit n && (decide ((s ||| 2 ^ j) - 2 ^ n < s) || (decide ((s ||| 2 ^ j) - 2 ^ n = s) && decide (n < j)))) = true
   ·have h' : ((s ||| 2 ^ j).testBit n && (decide ((s ||| 2 ^ j) - 2 ^ n < s) || (decide ((s ||| 2 ^ j) - 2 ^ n = s) && decide (n < j + 1)))) = true := by
     simp only [Bool.and_eq_true, Bool.or_eq_true, decide_eq_true_eq] at h2 ⊢
     exact ⟨h2.1, by omega⟩
    rw [if_pos h2, if_pos h']; omega
   ·rw [if_neg h2]; split <;> omega
theorem pow_one14 (k : Nat) : (1 : Int) ≤ 14 ^ k := by
 have e : (14 : Int) ^ k = ((14 ^ k : Nat) : Int) := by rw [Int.natCast_pow]; rfl
 have := Nat.pow_pos (n := k) (by decide : 0 < 14)
 rw [e]; omega
/-- what is known of the numbers when set s is at act j -/
structure Small (n s j : Nat) (f : Nat → Int) : Prop where
 zero : f 0 = 1
 nn : ∀ t, 0 ≤ f t
 le : ∀ t, t ≠ 0 → f t * 14 ≤ (seen s j t n : Int) * 14 ^ pc t n
theorem Small.le1 {n s j : Nat} {f : Nat → Int} (h : Small n s j f) (hn : n ≤ 14) (t : Nat) : f t ≤ 14 ^ pc t n := by
 by_cases e : t = 0
 ·subst e; rw [h.zero]
  exact pow_one14 _
 ·have h1 := h.le t e
  have h2 : (seen s j t n : Int) ≤ 14 := by have := seen_le s j t n; omega
  have h3 : (0 : Int) ≤ 14 ^ pc t n := Int.pow_nonneg (by decide)
  have h4 : (seen s j t n : Int) * 14 ^ pc t n ≤ 14 * 14 ^ pc t n := Int.mul_le_mul_of_nonneg_right h2 h3
  omega
theorem Small.skip {n s j : Nat} {f : Nat → Int} (h : Small n s j f) : Small n s (j + 1) f :=
 ⟨h.zero, h.nn, fun t ht => Int.le_trans (h.le t ht) (Int.mul_le_mul_of_nonneg_right (by have := seen_mono s j t n; omega) (Int.pow_nonneg (by decide)))⟩
theorem Small.next {n s : Nat} {f : Nat → Int} (h : Small n s n f) : Small n (s + 1) 0 f :=
 ⟨h.zero, h.nn, fun t ht => by rw [seen_next s t n n (Nat.le_refl _)]; exact h.le t ht⟩
theorem Small.step {n s j : Nat} {f : Nat → Int} (h : Small n s j f) (hn : n ≤ 14) (hj : j < n) (hb : s.testBit j = false) : Small n s (j + 1) (fun t => if t = s ||| 2 ^ j then f (s ||| 2 ^ j) + f s else f t) := by
 have hne : s ||| 2 ^ j ≠ 0 := by
  intro e
  have := bit_or s j j
  rw [e] at this
  simp at this
 refine ⟨by rw [if_neg (Ne.symm hne)]; exact h.zero, fun t => ?_, fun t ht => ?_⟩
 ·split
  ·exact Int.add_nonneg (h.nn _) (h.nn _)
  ·exact h.nn t
 ·by_cases e : t = s ||| 2 ^ j
  ·subst e
   rw [if_pos rfl]
   have h1 := h.le _ ht
   have h2 := h.le1 hn s
   have h3 := seen_step hb n hj
   have h4 := pc_or hb n
   rw [if_pos hj] at h4
   rw [h4, Int.pow_succ] at h1 ⊢
   have h3' : (seen s j (s ||| 2 ^ j) n : Int) + 1 ≤ seen s (j + 1) (s ||| 2 ^ j) n := by omega
   have h5 : (0 : Int) ≤ 14 ^ pc s n * 14 := Int.mul_nonneg (Int.pow_nonneg (by decide)) (by decide)
   have h6 := Int.mul_le_mul_of_nonneg_right h3' h5
   rw [Int.add_mul, Int.one_mul] at h6
   rw [Int.add_mul]
   refine Int.le_trans ?_ h6
   exact Int.add_le_add h1 (Int.mul_le_mul_of_nonneg_right h2 (by decide))
  ·rw [if_neg e]; exact h.skip.le t ht
end Go.Proofs.YtccnkebkgegohaaGreatDoor
end
section
namespace Go.Proofs.YtccnkebkgegohaaGreatDoor
open Go Go.Tra
/-! ### the reference's rests and common beginnings -/
section
variable {l : List Sol} {m g h : List Ac}
end
def firstR (l : List Sol) (x : Ac) (m : List Ac) : Option Nat := (List.range m.length).find? fun k => (atN m k == x) && freeL l m k
def restR (l : List Sol) : List Ac → List Ac → Option (List Ac)
 | [], m => some m
 | x :: g, m => match firstR l x m with
  | none => none
  | some k => restR l g (dropL m k)
section
variable {l : List Sol}
/-- the acts with which two lists can begin, by their indices -/
def sharedR (l : List Sol) (a b : List Ac) : Option (Nat × Nat) := (List.range a.length).findSome? fun i => ((List.range b.length).find? fun k => (atN a i == atN b k) && (freeL l a i && freeL l b k)).map fun k => (i, k)
def commonR (l : List Sol) : Nat → List Ac → List Ac → List Ac → List Ac × List Ac × List Ac
 | 0, c, a, b => (c, a, b)
 | n + 1, c, a, b => match sharedR l a b with
  | none => (c, a, b)
  | some (i, k) => commonR l n (c ++ [atN a i]) (dropL a i) (dropL b k)
end
end Go.Proofs.YtccnkebkgegohaaGreatDoor
end
section
namespace Go.Proofs.YtccnkebkgegohaaGreatDoor
open Go Go.Tra
/-! ### scans of the reference, by what was seen so far -/
section
variable {l : List Sol} {a b g h : List Ac}
def shP (l : List Sol) (a b : List Ac) (i k : Nat) : Bool := (atN a i == atN b k) && (freeL l a i && freeL l b k)
end
end Go.Proofs.YtccnkebkgegohaaGreatDoor
end
section
namespace Go.Tra
/-! ### steps: again and again all letters that can be first -/
section
variable {α : Type} [DecidableEq α] {D : α → α → Bool}
/-- the letters that can not be first, in their order -/
def lft (D : α → α → Bool) : List α → List α → List α
 | _, [] => []
 | pre, x :: l => if pre.all (fun z => !D z x) then lft D (pre ++ [x]) l else x :: lft D (pre ++ [x]) l
theorem lft_snoc : ∀ (pre l : List α) (y : α), lft D pre (l ++ [y]) = lft D pre l ++ (if (pre ++ l).all (fun z => !D z y) then [] else [y])
 | pre, [], y => by simp [lft]
 | pre, x :: l, y => by
  have ih := lft_snoc (pre ++ [x]) l y
  simp only [List.append_assoc, List.cons_append, List.nil_append] at ih
  simp only [List.cons_append, lft, ih]
  split <;> simp
theorem frs_lft (hr : ∀ a, D a a = true) (hs : ∀ a b, D a b = D b a) : ∀ (pre m : List α), Eqv D (frs D pre m ++ lft D pre m) m
 | pre, [] => Eqv.refl _
 | pre, x :: l => by
  have ih := frs_lft hr hs (pre ++ [x]) l
  unfold frs lft
  split
  ·exact Eqv.cons x ih
  ·have hx : ∀ y ∈ frs D (pre ++ [x]) l, D y x = false := fun y hy => by
    rw [hs]; exact ((mem_frs hr).1 hy).1 x (by simp)
   have e := Eqv.app (Eqv.pass hs hx) (Eqv.refl (lft D (pre ++ [x]) l))
   simp only [List.append_assoc, List.cons_append, List.nil_append] at e
   exact e.trans (Eqv.cons x ih)
theorem frs_pair (hr : ∀ a, D a a = true) : ∀ (pre m : List α), (frs D pre m).Pairwise fun x y => D x y = false
 | pre, [] => List.Pairwise.nil
 | pre, x :: l => by
  have ih := frs_pair hr (pre ++ [x]) l
  unfold frs
  split
  ·exact List.pairwise_cons.2 ⟨fun y hy => ((mem_frs hr).1 hy).1 x (by simp), ih⟩
  ·exact ih
theorem frs_ne {x : α} {l : List α} : frs D [] (x :: l) ≠ [] := by rw [frs_head]; simp
theorem lft_len (hr : ∀ a, D a a = true) (hs : ∀ a b, D a b = D b a) (x : α) (l : List α) : (lft D [] (x :: l)).length ≤ l.length := by
 have h := (frs_lft hr hs [] (x :: l)).len hr
 rw [List.length_append] at h
 have : 0 < (frs D [] (x :: l)).length := List.length_pos_iff.2 frs_ne
 simp only [List.length_cons] at h
 omega
def stepsL (D : α → α → Bool) (srt : List α → List α) : Nat → List α → List (List α)
 | 0, _ => []
 | _ + 1, [] => []
 | n + 1, x :: l => srt (frs D [] (x :: l)) :: stepsL D srt n (lft D [] (x :: l))
/-- a step's acts hang not together, and each of a later step hangs with one of the step ahead -/
def StepsOk (D : α → α → Bool) : List (List α) → Prop
 | [] => True
 | [s] => s.Pairwise fun x y => D x y = false
 | s :: t :: r => (s.Pairwise fun x y => D x y = false) ∧ (∀ x ∈ t, ∃ y ∈ s, D y x = true) ∧ StepsOk D (t :: r)
/-! ### what is sorted -/
theorem frs_all : ∀ (pre s : List α), (s.Pairwise fun x y => D x y = false) → (∀ z ∈ pre, ∀ y ∈ s, D z y = false) → frs D pre s = s
 | pre, [], _, _ => rfl
 | pre, x :: l, h, hp => by
  rw [List.pairwise_cons] at h
  unfold frs
  rw [if_pos (by simpa using fun z hz => hp z hz x (List.mem_cons_self ..)), frs_all _ l h.2]
  intro z hz y hy
  rcases List.mem_append.1 hz with hz | hz
  ·exact hp z hz y (List.mem_cons_of_mem _ hy)
  ·rw [List.mem_singleton.1 hz]; exact h.1 y hy
theorem minV_is {f : α → α → Int} (hc : Cmp f) {y m : α} {xs : List α} (hy : y ∈ m :: xs) (h : ∀ z ∈ m :: xs, z = y ∨ f y z < 0) : minV f m xs = y := by
 have h1 := minV_le hc m xs y hy
 have h2 := h _ (minV_mem f m xs)
 rcases h2 with h2 | h2
 ·exact h2
 ·rcases h1 with h1 | h1
  ·exact h1.symm
  ·exact absurd h2 (hc.asym h1)
/-- a sorted list of letters that hang not together is their least list -/
theorem sorted_norm (hs : ∀ a b, D a b = D b a) {f : α → α → Int} (hc : Cmp f) : ∀ {d s : List α}, d.Perm s → (d.Pairwise fun x y => ¬ f y x < 0) → (s.Pairwise fun x y => D x y = false) → norm D f s.length s = d
 | [], s, hp, _, _ => by
  have : s = [] := hp.symm.eq_nil
  subst this; rfl
 | y :: d, s, hp, hd, hi => by
  have hl : s.length = d.length + 1 := by rw [← hp.length_eq]; rfl
  rw [hl]
  unfold norm
  have e := frs_all (D := D) [] s hi (by simp)
  cases hsx : s with
  | nil => rw [hsx] at hl; simp at hl
  | cons x xs =>
   rw [hsx] at e hp hi
   rw [e]
   rw [List.pairwise_cons] at hd
   have hm : minV f x xs = y := minV_is hc (hp.mem_iff.1 (List.mem_cons_self ..)) fun z hz => by
    rcases List.mem_cons.1 (hp.mem_iff.2 hz) with h | h
    ·exact .inl h
    ·by_cases e : z = y
     ·exact .inl e
     ·exact .inr ((hc.tot e).resolve_left (hd.1 z h))
   show minV f x xs :: norm D f d.length ((x :: xs).erase (minV f x xs)) = y :: d
   rw [hm]
   have hp2 : d.Perm ((x :: xs).erase y) := by
    have := hp.erase y
    rwa [List.erase_cons_head] at this
   have ih := sorted_norm hs hc hp2 hd.2 (hi.sublist List.erase_sublist)
   rw [← hp2.length_eq] at ih
   rw [ih]
end
section
variable {α : Type} [DecidableEq α] {D : α → α → Bool} {a : Int → α} {dep : Int → Int → Bool} {left : List Int}
open Go.Proofs.YtccnkebkgegohaaGreatDoor
theorem lft_rows (h : RowOf D a dep left) : ∀ k, k ≤ left.length → ((left.take k).filter fun y => !((freeUpto dep left k).contains y)).map a = lft D [] ((left.take k).map a)
 | 0, _ => by simp [lft]
 | k + 1, hk => by
  have ih := lft_rows h k (by omega)
  have hx : left[k]? = some left[k] := by simp [show k < left.length by omega]
  have e0 : left.take (k + 1) = left.take k ++ [left[k]] := by rw [List.take_add_one, hx]; rfl
  have e : (left.take (k + 1)).map a = (left.take k).map a ++ [a left[k]] := by rw [e0, List.map_append]; rfl
  have hnd : left[k] ∉ left.take k := fun hm => by
   have := h.nodup
   rw [← List.take_append_drop (k + 1) left, e0, List.append_assoc, List.nodup_append] at this
   exact this.2.2 _ hm _ (List.mem_append_left _ (List.mem_singleton.2 rfl)) rfl
  have hsub : ∀ y ∈ freeUpto dep left k, y ∈ left.take k := by
   intro y hy
   have e2 : freeUpto dep left k = freeUpto dep (left.take k) k := by
    have : ∀ j, j ≤ k → freeUpto dep left j = freeUpto dep (left.take k) j := by
     intro j
     induction j with
     | zero => intro _; rfl
     | succ j ihj =>
      intro hj
      have hg : left.getD j 0 = (left.take k).getD j 0 := by
       rw [List.getD_eq_getElem?_getD, List.getD_eq_getElem?_getD, List.getElem?_take_of_lt (by omega)]
      rw [freeUpto, freeUpto, ihj (by omega), freeAt, freeAt, hg, List.take_take, Nat.min_eq_left (by omega : j ≤ k)]
    exact this k (Nat.le_refl _)
   rw [e2] at hy
   exact freeUpto_mem' k (by rw [List.length_take]; omega) y hy
  rw [e, lft_snoc, ← ih, e0, List.filter_append, List.map_append]
  have eg : left.getD k 0 = left[k] := by simp [show k < left.length by omega]
  have eall : ((left.take k).any fun j => dep j left[k]) = !(([] ++ (left.take k).map a).all fun z => !D z (a left[k])) := by
   rw [List.nil_append, List.all_map, List.any_eq_not_all_not]
   congr 1
   rw [Bool.eq_iff_iff, List.all_eq_true, List.all_eq_true]
   constructor
   ·intro hh x hx'; have := hh x hx'; rw [h.same x (List.mem_of_mem_take hx') _ (List.getElem_mem _)] at this; simpa using this
   ·intro hh x hx'; have := hh x hx'; rw [h.same x (List.mem_of_mem_take hx') _ (List.getElem_mem _)]; simpa using this
  have efr : freeUpto dep left (k + 1) = if (([] ++ (left.take k).map a).all fun z => !D z (a left[k])) then freeUpto dep left k ++ [left[k]] else freeUpto dep left k := by
   rw [freeUpto, freeAt, eg, eall, Bool.not_not]
  have h1 : (left.take k).filter (fun y => !((freeUpto dep left (k + 1)).contains y)) = (left.take k).filter fun y => !((freeUpto dep left k).contains y) := by
   refine List.filter_congr fun y hy => ?_
   have hyk : y ≠ left[k] := fun e => hnd (by rw [← e]; exact hy)
   rw [efr]
   split
   ·simp [hyk]
   ·rfl
  rw [h1]
  congr 1
  rw [efr]
  split
  ·simp
  ·have : left[k] ∉ freeUpto dep left k := fun hm => hnd (hsub _ hm)
   simp [this]
theorem lft_row (h : RowOf D a dep left) : (left.filter fun y => !((freeUpto dep left left.length).contains y)).map a = lft D [] (left.map a) := by
 have := lft_rows h left.length (Nat.le_refl _)
 rwa [List.take_length] at this
end
end Go.Tra
end
section
namespace Go.Proofs.YtccnkebkgegohaaGreatDoor
open Go Go.Tra
/-! ### steps of acts -/
section
variable {l : List Sol} {m : List Ac}
theorem take_at {k : Nat} (hk : k < m.length) : m.take (k + 1) = m.take k ++ [atN m k] := by
 rw [List.take_add_one, List.getElem?_eq_getElem hk, atN_at hk]; rfl
theorem frs_at (F : Fine l m) {k : Nat} (hk : k < m.length) : frs (depA l) [] (m.take (k + 1)) = if freeL l m k then frs (depA l) [] (m.take k) ++ [atN m k] else frs (depA l) [] (m.take k) := by
 rw [take_at hk, frs_snoc, List.nil_append, ← freeL_dep F]
 split <;> simp
theorem lft_at (F : Fine l m) {k : Nat} (hk : k < m.length) : lft (depA l) [] (m.take (k + 1)) = if freeL l m k then lft (depA l) [] (m.take k) else lft (depA l) [] (m.take k) ++ [atN m k] := by
 rw [take_at hk, lft_snoc, List.nil_append, ← freeL_dep F]
 split <;> simp
theorem lft_sub : ∀ {α : Type} [DecidableEq α] {D : α → α → Bool} (pre l : List α), ∀ x ∈ lft D pre l, x ∈ l
 | _, _, D, pre, [], x, h => by cases h
 | _, _, D, pre, y :: l, x, h => by
  unfold lft at h
  split at h
  ·exact List.mem_cons_of_mem _ (lft_sub _ l x h)
  ·rcases List.mem_cons.1 h with h | h
   ·rw [h]; exact List.mem_cons_self ..
   ·exact List.mem_cons_of_mem _ (lft_sub _ l x h)
theorem frs_sub : ∀ {α : Type} [DecidableEq α] {D : α → α → Bool} (pre l : List α), ∀ x ∈ frs D pre l, x ∈ l
 | _, _, D, pre, [], x, h => by cases h
 | _, _, D, pre, y :: l, x, h => by
  unfold frs at h
  split at h
  ·rcases List.mem_cons.1 h with h | h
   ·rw [h]; exact List.mem_cons_self ..
   ·exact List.mem_cons_of_mem _ (frs_sub _ l x h)
  ·exact List.mem_cons_of_mem _ (frs_sub _ l x h)
/-- a history's steps -/
def stpL (l : List Sol) (m : List Ac) : List (List Ac) := stepsL (depA l) (nrm l) m.length m
theorem stepsL_fuel {α : Type} [DecidableEq α] {D : α → α → Bool} (hr : ∀ a, D a a = true) (hs : ∀ a b, D a b = D b a) {srt : List α → List α} : ∀ (n : Nat) {m : List α}, m.length ≤ n → stepsL D srt n m = stepsL D srt m.length m
 | 0, m, h => by
  have : m = [] := List.eq_nil_of_length_eq_zero (by omega)
  subst this; rfl
 | n + 1, [], _ => rfl
 | n + 1, x :: k, h => by
  have h1 := lft_len hr hs x k
  simp only [List.length_cons] at h ⊢
  rw [stepsL, stepsL, stepsL_fuel hr hs n (by omega), stepsL_fuel hr hs k.length h1]
theorem stpL_cons (h : m ≠ []) : stpL l m = nrm l (frs (depA l) [] m) :: stpL l (lft (depA l) [] m) := by
 cases m with
 | nil => exact absurd rfl h
 | cons x k =>
  unfold stpL
  rw [List.length_cons, stepsL, stepsL_fuel (depA_refl l) (depA_symm l) k.length (lft_len (depA_refl l) (depA_symm l) x k)]
theorem stpL_nil : stpL l [] = [] := rfl
theorem stpL_len : ∀ (n : Nat) {m : List Ac}, m.length ≤ n → (stpL l m).length ≤ m.length
 | 0, m, h => by
  have : m = [] := List.eq_nil_of_length_eq_zero (by omega)
  subst this; exact Nat.le_refl _
 | n + 1, [], _ => Nat.le_refl _
 | n + 1, x :: k, h => by
  have h1 := lft_len (D := depA l) (depA_refl l) (depA_symm l) x k
  simp only [List.length_cons] at h
  have ih := stpL_len n (m := lft (depA l) [] (x :: k)) (by omega)
  rw [stpL_cons (by simp)]
  simp only [List.length_cons]
  omega
theorem nrm_sorted {d s : List Ac} (hp : d.Perm s) (hd : d.Pairwise fun x y => ¬ cmpA y x < 0) (hi : s.Pairwise fun x y => depA l x y = false) : nrm l s = d := sorted_norm (depA_symm l) cmpA_ok hp hd hi
/-- one step of the program, on its rows -/
theorem step_row {acts : List Ac} {left : List Int} (h : RowOf (depA l) (atA acts) (depI (cellsOf l acts)) left) : (freeUpto (depI (cellsOf l acts)) left left.length).map (atA acts) = frs (depA l) [] (left.map (atA acts)) ∧ (left.filter fun y => !((freeUpto (depI (cellsOf l acts)) left left.length).contains y)).map (atA acts) = lft (depA l) [] (left.map (atA acts)) ∧ RowOf (depA l) (atA acts) (depI (cellsOf l acts)) (left.filter fun y => !((freeUpto (depI (cellsOf l acts)) left left.length).contains y)) :=
 ⟨frs_row h, lft_row h, h.filter _⟩
end
end Go.Proofs.YtccnkebkgegohaaGreatDoor
end
section
namespace Go.Proofs.YtccnkebkgegohaaGreatDoor
open Go
/-! a struct stored into a list in place -/
def spl (cur : Array Value) (o : Nat) (vs : List Value) : Array Value := (cur.toList.take o ++ vs ++ cur.toList.drop (o + vs.length)).toArray
theorem spl_size {cur : Array Value} {o : Nat} {vs : List Value} (h : o + vs.length ≤ cur.size) : (spl cur o vs).size = cur.size := by
 unfold spl; simp; omega
/-- rows of k cells, one of them set -/
theorem flat_set {k : Nat} {α : Type} (row : α → List Value) (hk : ∀ a, (row a).length = k) (x : α) : ∀ (m : List α) (i : Nat), i < m.length → ((m.set i x).map row).flatten = (m.map row).flatten.take (i * k) ++ row x ++ (m.map row).flatten.drop (i * k + k)
 | y :: m, 0, _ => by
  have h : (row y).length = k := hk y
  simp only [List.set_cons_zero, List.map_cons, List.flatten_cons, Nat.zero_mul, List.take_zero, List.nil_append, Nat.zero_add]
  rw [← h, List.drop_left]
 | y :: m, i + 1, h => by
  have hy : (row y).length = k := hk y
  have ih := flat_set row hk x m i (by simpa using h)
  simp only [List.set_cons_succ, List.map_cons, List.flatten_cons, ih]
  have e1 : (i + 1) * k = (row y).length + i * k := by rw [hy, Nat.add_mul, Nat.one_mul, Nat.add_comm]
  rw [e1, List.take_length_add_append, Nat.add_assoc, List.drop_length_add_append]
  simp
theorem flat_len10 {k : Nat} {α : Type} (row : α → List Value) (hk : ∀ a, (row a).length = k) : ∀ m : List α, ((m.map row).flatten).length = m.length * k
 | [] => by simp
 | y :: m => by simp [flat_len10 row hk m, hk y, Nat.add_mul]; omega
/-- a block whose first cells are the rows of a list, one row stored -/
theorem spl_take {k : Nat} {α : Type} (row : α → List Value) (hk : ∀ a, (row a).length = k) {m : List α} {cur : Array Value} {i : Nat} (hi : i < m.length) (hc : m.length * k ≤ cur.size) (ht : cur.toList.take (m.length * k) = (m.map row).flatten) (x : α) :
  (spl cur (i * k) (row x)).toList.take (m.length * k) = ((m.set i x).map row).flatten := by
 rw [flat_set row hk x m i hi, ← ht]
 have hik : i * k + k ≤ m.length * k := by
  have := Nat.mul_le_mul_right k (show i + 1 ≤ m.length from hi)
  rwa [Nat.add_mul, Nat.one_mul] at this
 unfold spl
 simp only [hk]
 rw [List.take_take, Nat.min_eq_left (by omega), List.drop_take]
 have hP : (cur.toList.take (i * k) ++ row x).length = i * k + k := by
  rw [List.length_append, List.length_take, Array.length_toList, hk]; omega
 have hN : m.length * k = (cur.toList.take (i * k) ++ row x).length + (m.length * k - (i * k + k)) := by rw [hP]; omega
 show (cur.toList.take (i * k) ++ row x ++ cur.toList.drop (i * k + k)).take (m.length * k) = _
 generalize hM : m.length * k - (i * k + k) = M at *
 rw [hN, List.take_length_add_append]
end Go.Proofs.YtccnkebkgegohaaGreatDoor
end
section
namespace Go.Proofs.YtccnkebkgegohaaGreatDoor
open Go.RowKit Go.Rel
set_option maxRecDepth 100000
/-! a list of acts of our own, one act stored in place -/
structure OwnB (W : World) (base : Nat) (m : List Ac) (g cap : Nat) (cur : Array Value) : Prop where
 base : base ≤ g
 blk : Blk W g cur 46
 le : m.length ≤ cap
 lim : cap ≤ maxLen
 size : cur.size = cap * 10
 rows : cur.toList.take (m.length * 10) = (m.map acL).flatten
theorem OwnA.opn {W : World} {base : Nat} {v : Value} {m : List Ac} (h : OwnA W base v m) (h0 : m ≠ []) : ∃ g cap cur, v = .slice (some ⟨g, 0, none⟩) m.length cap ∧ OwnB W base m g cap cur := by
 obtain ⟨_, h | ⟨g, cap, cur, hv, hg, hh, hr⟩⟩ := h
 ·exact absurd (List.eq_nil_of_length_eq_zero h.2) h0
 ·exact ⟨g, cap, cur, hv, hg, hh, hr.1, hr.2.1, hr.2.2.1, hr.2.2.2⟩
theorem acL_len (a : Ac) : (acL a).length = 10 := rfl
@[irreducible] def VBk (base : Nat) (C : Array Value) (t : TypeId) (v : Value) (W : World) : Prop := ∃ g, v = .pointer (some ⟨g, 0, none⟩) ∧ base ≤ g ∧ Blk W g C t
theorem VBk.stab {base : Nat} {C : Array Value} {t : TypeId} (v : Value) (W W' : World) (h : VBk base C t v W) (g : Grows W W') : VBk base C t v W' := by unfold VBk at *; obtain ⟨q, h1, h2, h3⟩ := h; exact ⟨q, h1, h2, h3.grow g⟩
section
variable {W : World} {base g cap : Nat} {m : List Ac} {cur : Array Value}
theorem OwnB.own (h : OwnB W base m g cap cur) : OwnA W base (.slice (some ⟨g, 0, none⟩) m.length cap) m :=
 ⟨flat_len10 acL acL_len m, .inr ⟨g, cap, cur, rfl, h.base, h.blk, h.le, h.lim, h.size, h.rows⟩⟩
theorem OwnB.fit (h : OwnB W base m g cap cur) {i : Nat} (hi : i < m.length) (x : Ac) : i * 10 + (acL x).length ≤ cur.size := by
 rw [h.size, acL_len]
 have := h.le
 omega
theorem OwnB.set (h : OwnB W base m g cap cur) {i : Nat} (hi : i < m.length) (x : Ac) : OwnB (W.setRow g (spl cur (i * 10) (acL x))) base (m.set i x) g cap (spl cur (i * 10) (acL x)) := by
 have hf := h.fit hi x
 have hl : (m.set i x).length = m.length := List.length_set ..
 refine ⟨h.base, h.blk.rowS _, by rw [hl]; exact h.le, h.lim, by rw [spl_size hf]; exact h.size, ?_⟩
 rw [hl]
 exact spl_take acL acL_len hi (by rw [h.size]; have := h.le; omega) h.rows x
end
theorem own_shapeK {W : World} {base k : Nat} {v : Value} {m : List Ac} (h : OwnA W base v m) (hk : m.length = k) : ∃ p c, v = .slice p k c ∧ k ≤ c ∧ c ≤ 9223372036854775807 := by
 subst hk; exact own_shape' h
theorem OwnB.cells {W : World} {base g cap : Nat} {m : List Ac} {cur : Array Value} (h : OwnB W base m g cap cur) (h0 : m ≠ []) : Cells W g 0 10 (m.map acL) := by
 rcases Sl.cases h.own.sl with ⟨hl, _⟩ | ⟨b, off, c, he, _, _, _, hc⟩
 ·exact absurd (by simpa using hl) h0
 ·injection he with h1 _ _
  injection h1 with h1
  injection h1 with h1 h2 _
  subst h1 h2
  exact hc
end Go.Proofs.YtccnkebkgegohaaGreatDoor
end
section
namespace Go.Proofs.YtccnkebkgegohaaGreatDoor
open Go.RowKit Go.Rel
set_option maxRecDepth 100000
@[irreducible] def VH5 (base : Nat) (b : Sol) (p : Option Addr) (n c : Nat) (m : List Ac) (v : Value) (W : World) : Prop := ∃ bv, v = .agg #[.int .u64 (pl b 0), .int .u64 (pl b 1), .int .u64 (pl b 2), .int .u64 (pl b 3), .int .u64 (pl b 4), .int .u64 (pl b 5), .int .u64 (pl b 6), .int .u64 (pl b 7), .slice p n c, bv] ∧ OwnA W base bv m
theorem VH5.stab {base : Nat} {b : Sol} {p : Option Addr} {n c : Nat} {m : List Ac} (v : Value) (W W' : World) (h : VH5 base b p n c m v W) (g : Grows W W') : VH5 base b p n c m v W' := by
 unfold VH5 at *; obtain ⟨bv, h1, h2⟩ := h; exact ⟨bv, h1, own_grow h2 g⟩
/-- while neighbours are exchanged: their list lies as it was, with the one stored, with both -/
structure InvX (G5 : Nat) (hdr : Array Value) (base g cap i : Nat) (m : List Ac) (cur : Array Value) (x y : Ac) (d1 d2 : Bool) (W : World) : Prop where
 hd : Blk W G5 hdr 30
 own : d1 = false → OwnB W base m g cap cur
 own1 : d1 = true → d2 = false → OwnB W base (m.set i y) g cap (spl cur (i * 10) (acL y))
 own2 : d2 = true → OwnB W base ((m.set i y).set (i + 1) x) g cap (spl (spl cur (i * 10) (acL y)) ((i + 1) * 10) (acL x))
theorem OwnB.grow {W W' : World} {base g cap : Nat} {m : List Ac} {cur : Array Value} (h : OwnB W base m g cap cur) (hb : Below W.heap.size W W') : OwnB W' base m g cap cur := ⟨h.base, h.blk.grow hb, h.le, h.lim, h.size, h.rows⟩
end Go.Proofs.YtccnkebkgegohaaGreatDoor
end
section
namespace Go.Proofs.YtccnkebkgegohaaGreatDoor
open Go.RowKit Go.Rel
set_option maxRecDepth 100000
/-! some laws of lists in memory, for the laws that want no more -/
theorem sl_niln {k : Nat} (w : World) : Sl w k (.slice none 0 0) [] := ⟨none, 0, rfl, Nat.le_refl _, by decide, .inl rfl⟩
theorem acs_at {W : World} {q : Option Addr} {n c : Nat} {l : List Ac} {j : Nat} {x : Ac} (h : SlA W (.slice q n c) l) (hx : l[j]? = some x) : ∃ b o, q = some ⟨b, o, none⟩ ∧ Cells W b o 10 (l.map acL) := by
 rcases Sl.cases h with ⟨hl, _⟩ | ⟨b, o, c', he, _, _, _, hc⟩
 ·have : l = [] := by simpa using hl
  subst this; cases hx
 ·injection he with h1 _ _
  exact ⟨b, o, h1, hc⟩
end Go.Proofs.YtccnkebkgegohaaGreatDoor
end
