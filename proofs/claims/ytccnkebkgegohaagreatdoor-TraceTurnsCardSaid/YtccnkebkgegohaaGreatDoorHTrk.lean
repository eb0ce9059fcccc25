import Derived.Test.YtccnkebkgegohaaGreatDoorHS4
import Derived.Laws.CopyRow
import Derived.Laws.Tables
import Derived.Laws.AppendOwn
/-
  Given contracts of functions of the program, and laws for them, one behind the other.
-/
set_option linter.unusedVariables false
set_option linter.unusedSimpArgs false
set_option linter.unusedSectionVars false
section
namespace Go.Proofs.YtccnkebkgegohaaGreatDoor
open Go Go.Tra
/-! ### the reference's way to the least list, and to turns -/
/-- the least one so far of those that can be first -/
def bestL (l : List Sol) (m : List Ac) : Nat → Int
 | 0 => -1
 | k + 1 => if freeL l m k && (decide (bestL l m k < 0) || decide (cmpA (atN m k) (atN m (bestL l m k).toNat) < 0)) then (k : Int) else bestL l m k
def dropL (m : List Ac) (i : Nat) : List Ac := m.take i ++ m.drop (i + 1)
def normR (l : List Sol) : Nat → List Ac → List Ac
 | 0, _ => []
 | n + 1, m => atN m (bestL l m m.length).toNat :: normR l n (dropL m (bestL l m m.length).toNat)
section
variable {l : List Sol} {m : List Ac}
theorem atN_at {i : Nat} (h : i < m.length) : atN m i = m[i] := by simp [atN, List.getD_eq_getElem?_getD, List.getElem?_eq_getElem h]
theorem at_split {i : Nat} (h : i < m.length) : m = m.take i ++ atN m i :: m.drop (i + 1) := by
 rw [atN_at h, ← List.drop_eq_getElem_cons h, List.take_append_drop]
theorem freeL_dep (F : Fine l m) {i : Nat} : freeL l m i = (m.take i).all fun z => !depA l z (atN m i) := by
 unfold freeL
 rw [Bool.eq_iff_iff, List.all_eq_true, List.all_eq_true]
 exact ⟨fun h z hz => by rw [← apart_dep F (List.mem_of_mem_take hz)]; exact h z hz, fun h z hz => by rw [apart_dep F (List.mem_of_mem_take hz)]; exact h z hz⟩
theorem minV_snoc (f : Ac → Ac → Int) (y : Ac) : ∀ (x : Ac) (xs : List Ac), minV f x (xs ++ [y]) = if f y (minV f x xs) < 0 then y else minV f x xs
 | x, [] => rfl
 | x, z :: xs => by simp only [List.cons_append, minV]; exact minV_snoc f y _ xs
structure BestIs (l : List Sol) (m : List Ac) (k i : Nat) (x : Ac) (xs : List Ac) : Prop where
 lt : i < k
 fr : ∀ z ∈ m.take i, depA l z (atN m i) = false
 frs : frs (depA l) [] (m.take k) = x :: xs
 min : atN m i = minV cmpA x xs
theorem bestL_is (F : Fine l m) : ∀ k, k ≤ m.length → (bestL l m k = -1 ∧ frs (depA l) [] (m.take k) = []) ∨ ∃ (i : Nat) (x : Ac) (xs : List Ac), bestL l m k = (i : Int) ∧ BestIs l m k i x xs
 | 0, _ => .inl ⟨rfl, rfl⟩
 | k + 1, hk => by
  have hlt : k < m.length := by omega
  have ht : m.take (k + 1) = m.take k ++ [atN m k] := by rw [atN_at hlt, List.take_succ_eq_append_getElem hlt]
  have hf := freeL_dep F (i := k)
  have hs := frs_snoc (D := depA l) [] (m.take k) (atN m k)
  rw [List.nil_append, ← hf, ← ht] at hs
  rcases bestL_is F k (by omega) with ⟨h1, h2⟩ | ⟨i, x, xs, h1, B⟩
  ·rw [h2, List.nil_append] at hs
   unfold bestL
   rw [h1]
   cases hb : freeL l m k with
   | false => rw [hb] at hs; exact .inl ⟨by simp, by simpa using hs⟩
   | true =>
    rw [hb] at hs
    refine .inr ⟨k, atN m k, [], by simp, by omega, fun z hz => ?_, by simpa using hs, rfl⟩
    rw [hb] at hf
    have := List.all_eq_true.1 hf.symm z hz
    simpa using this
  ·rw [B.frs] at hs
   unfold bestL
   rw [h1]
   cases hb : freeL l m k with
   | false => rw [hb] at hs; exact .inr ⟨i, x, xs, by simp, by have := B.lt; omega, B.fr, by simpa using hs, B.min⟩
   | true =>
    rw [hb] at hs
    have hs' : frs (depA l) [] (m.take (k + 1)) = x :: (xs ++ [atN m k]) := by simpa using hs
    have hm := minV_snoc cmpA (atN m k) x xs
    rw [← B.min] at hm
    by_cases hc : cmpA (atN m k) (atN m i) < 0
    ·rw [if_pos hc] at hm
     refine .inr ⟨k, x, xs ++ [atN m k], by simp [hc], by omega, fun z hz => ?_, hs', hm.symm⟩
     rw [hb] at hf
     have := List.all_eq_true.1 hf.symm z hz
     simpa using this
    ·rw [if_neg hc] at hm
     exact .inr ⟨i, x, xs ++ [atN m k], by simp [hc]; omega, by have := B.lt; omega, B.fr, hs', hm.symm⟩
theorem best_all (F : Fine l m) (h0 : m ≠ []) : ∃ (i : Nat) (x : Ac) (xs : List Ac), bestL l m m.length = (i : Int) ∧ BestIs l m m.length i x xs := by
 rcases bestL_is F m.length (Nat.le_refl _) with ⟨_, h2⟩ | h
 ·exfalso
  rw [List.take_length] at h2
  obtain ⟨y, m', rfl⟩ := List.exists_cons_of_ne_nil h0
  rw [frs_head] at h2
  cases h2
 ·exact h
theorem dropL_len {i : Nat} (h : i < m.length) : (dropL m i).length = m.length - 1 := by
 unfold dropL
 rw [List.length_append, List.length_take, List.length_drop]
 omega
theorem dropL_sub {i : Nat} {x : Ac} (h : x ∈ dropL m i) : x ∈ m := by
 rcases List.mem_append.1 h with h | h
 ·exact List.mem_of_mem_take h
 ·exact List.mem_of_mem_drop h
end
theorem normR_nrm {l : List Sol} : ∀ (n : Nat) {m : List Ac}, Fine l m → m.length = n → normR l n m = norm (depA l) cmpA n m
 | 0, _, _, _ => rfl
 | n + 1, m, F, h => by
  have h0 : m ≠ [] := fun e => by subst e; cases h
  obtain ⟨i, x, xs, hb, B⟩ := best_all F h0
  have hi := B.lt
  have hfr := B.frs
  rw [List.take_length] at hfr
  unfold normR norm
  rw [hfr, hb]
  simp only [Int.toNat_natCast]
  rw [← B.min]
  have e : @List.erase Ac instBEqOfDecidableEq m (atN m i) = dropL m i := by
   have hm := at_split hi
   have : @List.erase Ac instBEqOfDecidableEq (m.take i ++ atN m i :: m.drop (i + 1)) (atN m i) = m.take i ++ m.drop (i + 1) := erase_mid (D := depA l) (depA_refl l) B.fr
   rw [← hm] at this
   exact this
  rw [e, normR_nrm n (F.sub fun a ha => dropL_sub ha) (by rw [dropL_len hi, h]; rfl)]
theorem normR_eq {l : List Sol} {m : List Ac} (F : Fine l m) : normR l m.length m = nrm l m := normR_nrm _ F rfl
/-! turns -/
def oppR (x y : Ac) : Bool := !(y.1 == 1) && !(y.1 == x.1) && (y.2.1 == x.2.1)
def scanR (l : List Sol) (x : Ac) : List Ac → Nat → Option Nat
 | [], _ => none
 | y :: ys, k => if meetsB (acCells l x) (acCells l y) then (if oppR x y then some k else none) else scanR l x ys (k + 1)
def turnRf (l : List Sol) : List Ac → Nat → Option (Nat × Nat)
 | [], _ => none
 | x :: ys, i => if x.1 = 1 then turnRf l ys (i + 1) else match scanR l x ys (i + 1) with
  | some k => some (i, k)
  | none => turnRf l ys (i + 1)
theorem oppR_iv {l : List Sol} {x y : Ac} {n : Nat} (hx : fits n x = true) (hy : fits n y = true) (h1 : x.1 ≠ 1) : oppR x y = decide (ivA x = some y) := by
 unfold fits at hx hy
 rw [if_neg h1] at hx
 obtain ⟨a, p, c⟩ := x
 obtain ⟨a', p', c'⟩ := y
 simp only at hx hy h1
 simp only [Bool.and_eq_true, Bool.or_eq_true, beq_iff_eq, decide_eq_true_eq] at hx
 unfold oppR ivA
 simp only
 rw [Bool.eq_iff_iff]
 by_cases h2 : a' = 1
 ·subst h2
  rcases hx.1.1.1 with rfl | rfl <;> simp
 ·rw [if_neg h2] at hy
  simp only [Bool.and_eq_true, Bool.or_eq_true, beq_iff_eq, decide_eq_true_eq] at hy
  have hc : c = c' := by rw [hx.2, hy.2]
  subst hc
  rcases hx.1.1.1 with rfl | rfl <;> rcases hy.1.1.1 with rfl | rfl <;> simp <;> exact eq_comm
theorem scanR_remR {l : List Sol} {x : Ac} : ∀ {ys : List Ac} (k : Nat), (∀ y ∈ x :: ys, acCells l y ≠ 0) → (∀ y ∈ x :: ys, fits l.length y = true) → x.1 ≠ 1 → remR (depA l) ivA x ys = (scanR l x ys k).map fun j => ys.take (j - k) ++ ys.drop (j - k + 1)
 | [], k, _, _, _ => rfl
 | y :: ys, k, h1, h2, h3 => by
  have hx := h1 x (List.mem_cons_self ..)
  have hxf := h2 x (List.mem_cons_self ..)
  have hyf := h2 y (List.mem_cons_of_mem _ (List.mem_cons_self ..))
  have ho := oppR_iv (l := l) hxf hyf h3
  have hd := depA_meets (b := y) hx
  unfold remR scanR
  rw [← hd, ho]
  have ih := scanR_remR (x := x) (ys := ys) (k + 1) (fun z hz => h1 z (by rcases List.mem_cons.1 hz with rfl | hz; exact List.mem_cons_self ..; exact List.mem_cons_of_mem _ (List.mem_cons_of_mem _ hz))) (fun z hz => h2 z (by rcases List.mem_cons.1 hz with rfl | hz; exact List.mem_cons_self ..; exact List.mem_cons_of_mem _ (List.mem_cons_of_mem _ hz))) h3
  by_cases hi : ivA x = some y
  ·have hdd : depA l x y = true := by
    unfold depA
    rw [cells_iv hi]; simp
   rw [if_pos hi, if_pos hdd, if_pos (by simpa using hi)]
   simp
  ·rw [if_neg hi]
   cases hdd : depA l x y with
   | true => simp [hi]
   | false =>
    simp only [Bool.false_eq_true, if_false]
    rw [ih, Option.map_map]
    cases hs : scanR l x ys (k + 1) with
    | none => rfl
    | some j =>
     have hj : k + 1 ≤ j := scanR_ge hs
     simp only [Option.map_some, Function.comp]
     obtain ⟨d, rfl⟩ : ∃ d, j = k + 1 + d := ⟨j - (k + 1), by omega⟩
     rw [show k + 1 + d - (k + 1) = d by omega, show k + 1 + d - k = d + 1 by omega]
     rfl
where
 scanR_ge {l : List Sol} {x : Ac} : ∀ {ys : List Ac} {k j : Nat}, scanR l x ys k = some j → k ≤ j
  | y :: ys, k, j, h => by
   unfold scanR at h
   split at h
   ·split at h
    ·cases h; exact Nat.le_refl _
    ·cases h
   ·have := scanR_ge h; omega
theorem ivA_cut {x : Ac} (h : x.1 = 1) : ivA x = none := by simp [ivA, h]
theorem remR_none {l : List Sol} {x : Ac} (h : ivA x = none) : ∀ ys, remR (depA l) ivA x ys = none
 | [] => rfl
 | y :: ys => by unfold remR; rw [h, remR_none h ys]; simp
theorem turnR_turnL {l : List Sol} : ∀ {m : List Ac} (i0 : Nat), Fine l m → (∀ i k, turnRf l m i0 = some (i, k) → i0 ≤ i ∧ i < k ∧ k < i0 + m.length) ∧ turnL (depA l) ivA m = (turnRf l m i0).map fun (i, k) => dropL (dropL m (k - i0)) (i - i0)
 | [], i0, _ => ⟨fun i k h => (by cases h), rfl⟩
 | x :: ys, i0, F => by
  have G : Fine l ys := F.sub fun a ha => List.mem_cons_of_mem _ ha
  obtain ⟨ih1, ih2⟩ := turnR_turnL (i0 + 1) G
  have rec1 : ∀ i k, turnRf l ys (i0 + 1) = some (i, k) → i0 ≤ i ∧ i < k ∧ k < i0 + (x :: ys).length := fun i k h => by
   have := ih1 i k h
   simp only [List.length_cons]; omega
  have rec2 : (turnL (depA l) ivA ys).map (x :: ·) = (turnRf l ys (i0 + 1)).map fun (i, k) => dropL (dropL (x :: ys) (k - i0)) (i - i0) := by
   rw [ih2, Option.map_map]
   cases hs : turnRf l ys (i0 + 1) with
   | none => rfl
   | some p =>
    obtain ⟨i, k⟩ := p
    have := ih1 i k hs
    simp only [Option.map_some, Function.comp]
    obtain ⟨d, rfl⟩ : ∃ d, i = i0 + 1 + d := ⟨i - (i0 + 1), by omega⟩
    obtain ⟨e, rfl⟩ : ∃ e, k = i0 + 1 + e := ⟨k - (i0 + 1), by omega⟩
    rw [show i0 + 1 + d - (i0 + 1) = d by omega, show i0 + 1 + e - (i0 + 1) = e by omega, show i0 + 1 + d - i0 = d + 1 by omega, show i0 + 1 + e - i0 = e + 1 by omega]
    rfl
  unfold turnL turnRf
  by_cases h1 : x.1 = 1
  ·rw [if_pos h1, remR_none (ivA_cut h1)]
   exact ⟨rec1, rec2⟩
  ·rw [if_neg h1, scanR_remR (i0 + 1) F.ne F.fit h1]
   cases hs : scanR l x ys (i0 + 1) with
   | none => exact ⟨rec1, rec2⟩
   | some k =>
    have hk := scanR_remR.scanR_ge hs
    have hlt : k < i0 + 1 + ys.length := scanR_lt hs
    refine ⟨fun i k' h => ?_, ?_⟩
    ·cases h
     simp only [List.length_cons]; omega
    ·simp only [Option.map_some]
     obtain ⟨e, rfl⟩ : ∃ e, k = i0 + 1 + e := ⟨k - (i0 + 1), by omega⟩
     rw [show i0 + 1 + e - (i0 + 1) = e by omega, show i0 + 1 + e - i0 = e + 1 by omega, show i0 - i0 = 0 by omega]
     simp [dropL]
where
 scanR_lt {l : List Sol} {x : Ac} : ∀ {ys : List Ac} {k j : Nat}, scanR l x ys k = some j → j < k + ys.length
  | y :: ys, k, j, h => by
   unfold scanR at h
   simp only [List.length_cons]
   split at h
   ·split at h
    ·cases h; omega
    ·cases h
   ·have := scanR_lt h; omega
def reduceR (l : List Sol) : Nat → List Ac → List Ac
 | 0, m => m
 | n + 1, m => match turnRf l m 0 with
  | none => m
  | some (i, k) => reduceR l n (dropL (dropL m k) i)
theorem reduceR_eq {l : List Sol} : ∀ (n : Nat) {m : List Ac}, Fine l m → reduceR l n m = reduceL (depA l) ivA n m
 | 0, _, _ => rfl
 | n + 1, m, F => by
  obtain ⟨h1, h2⟩ := turnR_turnL 0 F
  unfold reduceR reduceL
  rw [h2]
  cases hs : turnRf l m 0 with
  | none => rfl
  | some p =>
   obtain ⟨i, k⟩ := p
   simp only [Option.map_some, Nat.sub_zero]
   exact reduceR_eq n (F.sub fun a ha => dropL_sub (dropL_sub ha))
end Go.Proofs.YtccnkebkgegohaaGreatDoor
end
section
namespace Go.Proofs.YtccnkebkgegohaaGreatDoor
open Go Go.Tra
/-! ### in how many ways the acts of a set can stand first: the numbers stay small -/
def pc (t : Nat) : Nat → Nat
 | 0 => 0
 | j + 1 => pc t j + (if t.testBit j then 1 else 0)
theorem bit_or (s j i : Nat) : (s ||| 2 ^ j).testBit i = (s.testBit i || decide (i = j)) := by
 rw [Nat.testBit_or, Nat.testBit_two_pow]
 congr 1
 rw [Bool.eq_iff_iff]; simp; exact eq_comm
theorem pc_or {s j : Nat} (hj : s.testBit j = false) : ∀ n, pc (s ||| 2 ^ j) n = pc s n + (if j < n then 1 else 0)
 | 0 => by simp [pc]
 | n + 1 => by
  unfold pc
  rw [pc_or hj n, bit_or]
  by_cases h : n = j
  ·subst h; simp [hj]
  ·by_cases h2 : j < n
   ·rw [if_pos h2, if_pos (by omega : j < n + 1)]; simp [h]; omega
   ·rw [if_neg h2, if_neg (by omega : ¬ j < n + 1)]; simp [h]
/-- how many of the sets with one act less have been seen -/
def seen (s j t : Nat) : Nat → Nat
 | 0 => 0
 | i + 1 => seen s j t i + (if t.testBit i && (decide (t - 2 ^ i < s) || (decide (t - 2 ^ i = s) && decide (i < j))) then 1 else 0)
theorem seen_le (s j t : Nat) : ∀ n, seen s j t n ≤ n
 | 0 => Nat.le_refl _
 | n + 1 => by unfold seen; have := seen_le s j t n; split <;> omega
theorem seen_next (s t : Nat) : ∀ n m, n ≤ m → seen (s + 1) 0 t n = seen s m t n
 | 0, _, _ => rfl
 | n + 1, m, h => by
  unfold seen
  rw [seen_next s t n m (by omega)]
  congr 2
  rw [eq_iff_iff]
  simp only [Bool.and_eq_true, Bool.or_eq_true, decide_eq_true_eq]
  constructor
  ·rintro ⟨h1, h2⟩; exact ⟨h1, by omega⟩
  ·rintro ⟨h1, h2⟩; exact ⟨h1, by omega⟩
theorem seen_mono (s j t : Nat) : ∀ n, seen s j t n ≤ seen s (j + 1) t n
 | 0 => Nat.le_refl _
 | n + 1 => by
  unfold seen
  have ih := seen_mono s j t n
  by_cases h : (t.testBit n && (decide (t - 2 ^ n < s) || (decide (t - 2 ^ n = s) && decide (n < j)))) = true
  ·have h' : (t.testBit n && (decide (t - 2 ^ n < s) || (decide (t - 2 ^ n = s) && decide (n < j + 1)))) = true := by
    simp only [Bool.and_eq_true, Bool.or_eq_true, decide_eq_true_eq] at h ⊢
    exact ⟨h.1, by omega⟩
   rw [if_pos h, if_pos h']; omega
  ·rw [if_neg h]; split <;> omega
theorem or_sub {s j : Nat} (hj : s.testBit j = false) : s ||| 2 ^ j = s + 2 ^ j := by
 have h2 : s / 2 ^ j % 2 = 0 := by
  rw [Nat.testBit_eq_decide_div_mod_eq] at hj
  have := of_decide_eq_false hj
  omega
 have hr : s % 2 ^ (j + 1) < 2 ^ j := by
  rw [Nat.pow_succ, Nat.mod_mul, h2, Nat.mul_zero, Nat.add_zero]
  exact Nat.mod_lt _ (Nat.two_pow_pos j)
 have hs : s = 2 ^ (j + 1) * (s / 2 ^ (j + 1)) + s % 2 ^ (j + 1) := (Nat.div_add_mod _ _).symm
 generalize s / 2 ^ (j + 1) = q at *
 generalize s % 2 ^ (j + 1) = r at *
 have h3 : 2 ^ j + r < 2 ^ (j + 1) := by rw [Nat.pow_succ]; omega
 have h4 := Nat.two_pow_add_eq_or_of_lt hr 1
 rw [Nat.mul_one] at h4
 have h5 := Nat.two_pow_add_eq_or_of_lt h3 q
 have h6 := Nat.two_pow_add_eq_or_of_lt (show r < 2 ^ (j + 1) by omega) q
 rw [hs]
 rw [h6, Nat.or_assoc, Nat.or_comm r, ← h4, ← h5, ← h6]
 omega
theorem seen_step {s j : Nat} (hj : s.testBit j = false) : ∀ n, j < n → seen s j (s ||| 2 ^ j) n + 1 ≤ seen s (j + 1) (s ||| 2 ^ j) n
 | 0, h => by omega
 | n + 1, h => by
  by_cases e : n = j
  ·subst e
   unfold seen
   have := seen_mono s n (s ||| 2 ^ n) n
   have hs : s ||| 2 ^ n - 2 ^ n = s ||| 2 ^ n - 2 ^ n := rfl
   have hsub : (s ||| 2 ^ n) - 2 ^ n = s := by rw [or_sub hj]; omega
   rw [hsub, bit_or]
   simp
   omega
  ·have ih := seen_step hj n (by omega)
   unfold seen
   by_cases h2 : ((s ||| 2 ^ j).testBit n && (decide ((s ||| 2 ^ j) - 2 ^ n < s) || (decide ((s ||| 2 ^ j) - 2 ^ n = s) && decide (n < j)))) = true
   ·have h' : ((s ||| 2 ^ j).testBit n && (decide ((s ||| 2 ^ j) - 2 ^ n < s) || (decide ((s ||| 2 ^ j) - 2 ^ n = s) && decide (n < j + 1)))) = true := by
     simp only [Bool.and_eq_true, Bool.or_eq_true, decide_eq_true_eq] at h2 ⊢
     exact ⟨h2.1, by omega⟩
    rw [if_pos h2, if_pos h']; omega
   ·rw [if_neg h2]; split <;> omega
theorem pow_one14 (k : Nat) : (1 : Int) ≤ 14 ^ k := by
 have e : (14 : Int) ^ k = ((14 ^ k : Nat) : Int) := by rw [Int.natCast_pow]; rfl
 have := Nat.pow_pos (n := k) (by decide : 0 < 14)
 rw [e]; omega
/-- what is known of the numbers when set s is at act j -/
structure Small (n s j : Nat) (f : Nat → Int) : Prop where
 zero : f 0 = 1
 nn : ∀ t, 0 ≤ f t
 le : ∀ t, t ≠ 0 → f t * 14 ≤ (seen s j t n : Int) * 14 ^ pc t n
theorem Small.le1 {n s j : Nat} {f : Nat → Int} (h : Small n s j f) (hn : n ≤ 14) (t : Nat) : f t ≤ 14 ^ pc t n := by
 by_cases e : t = 0
 ·subst e; rw [h.zero]
  exact pow_one14 _
 ·have h1 := h.le t e
  have h2 : (seen s j t n : Int) ≤ 14 := by have := seen_le s j t n; omega
  have h3 : (0 : Int) ≤ 14 ^ pc t n := Int.pow_nonneg (by decide)
  have h4 : (seen s j t n : Int) * 14 ^ pc t n ≤ 14 * 14 ^ pc t n := Int.mul_le_mul_of_nonneg_right h2 h3
  omega
theorem Small.skip {n s j : Nat} {f : Nat → Int} (h : Small n s j f) : Small n s (j + 1) f :=
 ⟨h.zero, h.nn, fun t ht => Int.le_trans (h.le t ht) (Int.mul_le_mul_of_nonneg_right (by have := seen_mono s j t n; omega) (Int.pow_nonneg (by decide)))⟩
theorem Small.next {n s : Nat} {f : Nat → Int} (h : Small n s n f) : Small n (s + 1) 0 f :=
 ⟨h.zero, h.nn, fun t ht => by rw [seen_next s t n n (Nat.le_refl _)]; exact h.le t ht⟩
theorem Small.step {n s j : Nat} {f : Nat → Int} (h : Small n s j f) (hn : n ≤ 14) (hj : j < n) (hb : s.testBit j = false) : Small n s (j + 1) (fun t => if t = s ||| 2 ^ j then f (s ||| 2 ^ j) + f s else f t) := by
 have hne : s ||| 2 ^ j ≠ 0 := by
  intro e
  have := bit_or s j j
  rw [e] at this
  simp at this
 refine ⟨by rw [if_neg (Ne.symm hne)]; exact h.zero, fun t => ?_, fun t ht => ?_⟩
 ·split
  ·exact Int.add_nonneg (h.nn _) (h.nn _)
  ·exact h.nn t
 ·by_cases e : t = s ||| 2 ^ j
  ·subst e
   rw [if_pos rfl]
   have h1 := h.le _ ht
   have h2 := h.le1 hn s
   have h3 := seen_step hb n hj
   have h4 := pc_or hb n
   rw [if_pos hj] at h4
   rw [h4, Int.pow_succ] at h1 ⊢
   have h3' : (seen s j (s ||| 2 ^ j) n : Int) + 1 ≤ seen s (j + 1) (s ||| 2 ^ j) n := by omega
   have h5 : (0 : Int) ≤ 14 ^ pc s n * 14 := Int.mul_nonneg (Int.pow_nonneg (by decide)) (by decide)
   have h6 := Int.mul_le_mul_of_nonneg_right h3' h5
   rw [Int.add_mul, Int.one_mul] at h6
   rw [Int.add_mul]
   refine Int.le_trans ?_ h6
   exact Int.add_le_add h1 (Int.mul_le_mul_of_nonneg_right h2 (by decide))
  ·rw [if_neg e]; exact h.skip.le t ht
end Go.Proofs.YtccnkebkgegohaaGreatDoor
end
section
namespace Go.Proofs.YtccnkebkgegohaaGreatDoor
open Go Go.Tra
/-- the acts that go ahead, as a set -/
def maskN (p : Nat → Bool) : Nat → Nat
 | 0 => 0
 | k + 1 => maskN p k + (if p k then 2 ^ k else 0)
/-- whether an act stands ahead of another one -/
def aheadR (dep : Nat → Nat → Bool) (i k : Nat) : Bool := ahd dep i k && !(k == i)
/-! the reference's numbers -/
def condR (nd : Nat → Nat) (set j : Nat) : Bool := !set.testBit j && decide (nd j &&& set = nd j)
def stepR (nd : Nat → Nat) (set : Nat) (f : Nat → Int) (j : Nat) : Nat → Int := fun t => if condR nd set j = true ∧ t = set ||| 2 ^ j then f (set ||| 2 ^ j) + f set else f t
def inR (nd : Nat → Nat) (set : Nat) (f : Nat → Int) : Nat → (Nat → Int)
 | 0 => f
 | j + 1 => stepR nd set (inR nd set f j) j
def outR (nd : Nat → Nat) (n : Nat) : Nat → (Nat → Int)
 | 0 => fun t => if t = 0 then 1 else 0
 | set + 1 => inR nd set (outR nd n set) n
/-- the number of orders, as the reference counts it -/
def ordersR (dep : Nat → Nat → Bool) (n : Nat) : Int := outR (fun i => maskN (aheadR dep i) n) n (2 ^ n) (2 ^ n - 1)
end Go.Proofs.YtccnkebkgegohaaGreatDoor
end
section
namespace Go.Proofs.YtccnkebkgegohaaGreatDoor
open Go
/-! a struct stored into a list in place -/
def spl (cur : Array Value) (o : Nat) (vs : List Value) : Array Value := (cur.toList.take o ++ vs ++ cur.toList.drop (o + vs.length)).toArray
theorem spl_size {cur : Array Value} {o : Nat} {vs : List Value} (h : o + vs.length ≤ cur.size) : (spl cur o vs).size = cur.size := by
 unfold spl; simp; omega
/-- rows of k cells, one of them set -/
theorem flat_set {k : Nat} {α : Type} (row : α → List Value) (hk : ∀ a, (row a).length = k) (x : α) : ∀ (m : List α) (i : Nat), i < m.length → ((m.set i x).map row).flatten = (m.map row).flatten.take (i * k) ++ row x ++ (m.map row).flatten.drop (i * k + k)
 | y :: m, 0, _ => by
  have h : (row y).length = k := hk y
  simp only [List.set_cons_zero, List.map_cons, List.flatten_cons, Nat.zero_mul, List.take_zero, List.nil_append, Nat.zero_add]
  rw [← h, List.drop_left]
 | y :: m, i + 1, h => by
  have hy : (row y).length = k := hk y
  have ih := flat_set row hk x m i (by simpa using h)
  simp only [List.set_cons_succ, List.map_cons, List.flatten_cons, ih]
  have e1 : (i + 1) * k = (row y).length + i * k := by rw [hy, Nat.add_mul, Nat.one_mul, Nat.add_comm]
  rw [e1, List.take_length_add_append, Nat.add_assoc, List.drop_length_add_append]
  simp
theorem flat_len10 {k : Nat} {α : Type} (row : α → List Value) (hk : ∀ a, (row a).length = k) : ∀ m : List α, ((m.map row).flatten).length = m.length * k
 | [] => by simp
 | y :: m => by simp [flat_len10 row hk m, hk y, Nat.add_mul]; omega
/-- a block whose first cells are the rows of a list, one row stored -/
theorem spl_take {k : Nat} {α : Type} (row : α → List Value) (hk : ∀ a, (row a).length = k) {m : List α} {cur : Array Value} {i : Nat} (hi : i < m.length) (hc : m.length * k ≤ cur.size) (ht : cur.toList.take (m.length * k) = (m.map row).flatten) (x : α) :
  (spl cur (i * k) (row x)).toList.take (m.length * k) = ((m.set i x).map row).flatten := by
 rw [flat_set row hk x m i hi, ← ht]
 have hik : i * k + k ≤ m.length * k := by
  have := Nat.mul_le_mul_right k (show i + 1 ≤ m.length from hi)
  rwa [Nat.add_mul, Nat.one_mul] at this
 unfold spl
 simp only [hk]
 rw [List.take_take, Nat.min_eq_left (by omega), List.drop_take]
 have hP : (cur.toList.take (i * k) ++ row x).length = i * k + k := by
  rw [List.length_append, List.length_take, Array.length_toList, hk]; omega
 have hN : m.length * k = (cur.toList.take (i * k) ++ row x).length + (m.length * k - (i * k + k)) := by rw [hP]; omega
 show (cur.toList.take (i * k) ++ row x ++ cur.toList.drop (i * k + k)).take (m.length * k) = _
 generalize hM : m.length * k - (i * k + k) = M at *
 rw [hN, List.take_length_add_append]
end Go.Proofs.YtccnkebkgegohaaGreatDoor
end
section
namespace Go.Proofs.YtccnkebkgegohaaGreatDoor
open Go.RowKit Go.Rel
set_option maxRecDepth 100000
/-! a list of acts of our own, one act stored in place -/
structure OwnB (W : World) (base : Nat) (m : List Ac) (g cap : Nat) (cur : Array Value) : Prop where
 base : base ≤ g
 blk : Blk W g cur 46
 le : m.length ≤ cap
 lim : cap ≤ maxLen
 size : cur.size = cap * 10
 rows : cur.toList.take (m.length * 10) = (m.map acL).flatten
theorem OwnA.opn {W : World} {base : Nat} {v : Value} {m : List Ac} (h : OwnA W base v m) (h0 : m ≠ []) : ∃ g cap cur, v = .slice (some ⟨g, 0, none⟩) m.length cap ∧ OwnB W base m g cap cur := by
 obtain ⟨_, h | ⟨g, cap, cur, hv, hg, hh, hr⟩⟩ := h
 ·exact absurd (List.eq_nil_of_length_eq_zero h.2) h0
 ·exact ⟨g, cap, cur, hv, hg, hh, hr.1, hr.2.1, hr.2.2.1, hr.2.2.2⟩
theorem acL_len (a : Ac) : (acL a).length = 10 := rfl
@[irreducible] def VBk (base : Nat) (C : Array Value) (t : TypeId) (v : Value) (W : World) : Prop := ∃ g, v = .pointer (some ⟨g, 0, none⟩) ∧ base ≤ g ∧ Blk W g C t
theorem VBk.stab {base : Nat} {C : Array Value} {t : TypeId} (v : Value) (W W' : World) (h : VBk base C t v W) (g : Grows W W') : VBk base C t v W' := by unfold VBk at *; obtain ⟨q, h1, h2, h3⟩ := h; exact ⟨q, h1, h2, h3.grow g⟩
section
variable {W : World} {base g cap : Nat} {m : List Ac} {cur : Array Value}
theorem OwnB.own (h : OwnB W base m g cap cur) : OwnA W base (.slice (some ⟨g, 0, none⟩) m.length cap) m :=
 ⟨flat_len10 acL acL_len m, .inr ⟨g, cap, cur, rfl, h.base, h.blk, h.le, h.lim, h.size, h.rows⟩⟩
theorem OwnB.fit (h : OwnB W base m g cap cur) {i : Nat} (hi : i < m.length) (x : Ac) : i * 10 + (acL x).length ≤ cur.size := by
 rw [h.size, acL_len]
 have := h.le
 omega
theorem OwnB.set (h : OwnB W base m g cap cur) {i : Nat} (hi : i < m.length) (x : Ac) : OwnB (W.setRow g (spl cur (i * 10) (acL x))) base (m.set i x) g cap (spl cur (i * 10) (acL x)) := by
 have hf := h.fit hi x
 have hl : (m.set i x).length = m.length := List.length_set ..
 refine ⟨h.base, h.blk.rowS _, by rw [hl]; exact h.le, h.lim, by rw [spl_size hf]; exact h.size, ?_⟩
 rw [hl]
 exact spl_take acL acL_len hi (by rw [h.size]; have := h.le; omega) h.rows x
end
theorem own_rowT {w : World} {base bp : Nat} {e t : TypeId} {size : Nat} {u : Value} {n : Nat} {zs : List Value} {C : Array Value} (hu : w.ownsRow base e size u n zs) (hb : Blk w bp C t) (hne : t ≠ e) (c : Array Value) : (w.setRow bp c).ownsRow base e size u n zs := by
 obtain ⟨hl, h | ⟨g, cap, cur, hv, hg, hh, hr⟩⟩ := hu
 ·exact ⟨hl, .inl h⟩
 ·refine ⟨hl, .inr ⟨g, cap, cur, hv, hg, (setRow_other w bp g c ?_).trans hh, hr⟩⟩
  rintro rfl
  have h2 : w.heap[g]? = some (.cells C t (0, 0)) := hb
  rw [h2] at hh
  exact hne (by injection hh with hh; injection hh)
theorem own_len {W : World} {base k cap : Nat} {q : Option Addr} {m : List Ac} (h : OwnA W base (.slice q m.length cap) m) (hk : m.length = k) : OwnA W base (.slice q k cap) m := by
 subst hk; exact h
theorem own_shapeK {W : World} {base k : Nat} {v : Value} {m : List Ac} (h : OwnA W base v m) (hk : m.length = k) : ∃ p c, v = .slice p k c ∧ k ≤ c ∧ c ≤ 9223372036854775807 := by
 subst hk; exact own_shape' h
theorem OwnB.cells {W : World} {base g cap : Nat} {m : List Ac} {cur : Array Value} (h : OwnB W base m g cap cur) (h0 : m ≠ []) : Cells W g 0 10 (m.map acL) := by
 rcases Sl.cases h.own.sl with ⟨hl, _⟩ | ⟨b, off, c, he, _, _, _, hc⟩
 ·exact absurd (by simpa using hl) h0
 ·injection he with h1 _ _
  injection h1 with h1
  injection h1 with h1 h2 _
  subst h1 h2
  exact hc
end Go.Proofs.YtccnkebkgegohaaGreatDoor
end
section
namespace Go.Proofs.YtccnkebkgegohaaGreatDoor
open Go.RowKit Go.Rel
set_option maxRecDepth 100000
@[irreducible] def VH5 (base : Nat) (b : Sol) (p : Option Addr) (n c : Nat) (m : List Ac) (v : Value) (W : World) : Prop := ∃ bv, v = .agg #[.int .u64 (pl b 0), .int .u64 (pl b 1), .int .u64 (pl b 2), .int .u64 (pl b 3), .int .u64 (pl b 4), .int .u64 (pl b 5), .int .u64 (pl b 6), .int .u64 (pl b 7), .slice p n c, bv] ∧ OwnA W base bv m
theorem VH5.stab {base : Nat} {b : Sol} {p : Option Addr} {n c : Nat} {m : List Ac} (v : Value) (W W' : World) (h : VH5 base b p n c m v W) (g : Grows W W') : VH5 base b p n c m v W' := by
 unfold VH5 at *; obtain ⟨bv, h1, h2⟩ := h; exact ⟨bv, h1, own_grow h2 g⟩
/-- while neighbours are exchanged: their list lies as it was, with the one stored, with both -/
structure InvX (G5 : Nat) (hdr : Array Value) (base g cap i : Nat) (m : List Ac) (cur : Array Value) (x y : Ac) (d1 d2 : Bool) (W : World) : Prop where
 hd : Blk W G5 hdr 30
 own : d1 = false → OwnB W base m g cap cur
 own1 : d1 = true → d2 = false → OwnB W base (m.set i y) g cap (spl cur (i * 10) (acL y))
 own2 : d2 = true → OwnB W base ((m.set i y).set (i + 1) x) g cap (spl (spl cur (i * 10) (acL y)) ((i + 1) * 10) (acL x))
theorem OwnB.grow {W W' : World} {base g cap : Nat} {m : List Ac} {cur : Array Value} (h : OwnB W base m g cap cur) (hb : Below W.heap.size W W') : OwnB W' base m g cap cur := ⟨h.base, h.blk.grow hb, h.le, h.lim, h.size, h.rows⟩
end Go.Proofs.YtccnkebkgegohaaGreatDoor
end
section
namespace Go.Proofs.YtccnkebkgegohaaGreatDoor
open Go
theorem zeroCells_len (z : Array Value) (n : Nat) : (Builtin.zeroCells z n).toList.length = n * z.size := by simp [Builtin.zeroCells]
theorem zeroCells_one {z : Array Value} (h : ∀ v ∈ z.toList, v.oneCell' = true) (n : Nat) : ∀ v ∈ (Builtin.zeroCells z n).toList, v.oneCell' = true := by
 intro v hv
 obtain ⟨i, hi, rfl⟩ := List.mem_iff_getElem.1 hv
 rw [zeroCells_len] at hi
 have h0 : 0 < z.size := by
  rcases Nat.eq_zero_or_pos z.size with h | h
  ·rw [h] at hi; simp at hi
  ·exact h
 have hm : i % z.size < z.size := Nat.mod_lt _ h0
 simp only [Builtin.zeroCells, Array.getElem_toList, Array.getElem_ofFn]
 refine h _ ?_
 simp [Array.getD, hm]
theorem run_clear_rows {P : Program} (w : World) (t e ty : TypeId) (z : Value) (ht : P.underlying t = some (.slice e)) (hv : ∀ w, (zeroValue e).run P w = .ok z w) (h1 : ∀ v ∈ z.cells.toList, v.oneCell' = true) (g o n c : Nat) (hn : 0 < n)
  (cur : Array Value) (tt : TypeId) (hg : w.heap[g]? = some (.cells cur tt (0, 0))) (hfit : o + n * z.cells.size ≤ cur.size) :
  (Builtin.clear_ #[t] ty #[.slice (some ⟨g, o, none⟩) n c]).run P w = .ok (.tuple #[]) (w.setRow g (spl cur o (Builtin.zeroCells z.cells n).toList)) := by
 have hst := run_storeCells_at (P := P) g o tt (Builtin.zeroCells z.cells n).toList 0 cur w hg (by rw [zeroCells_len]; simpa using hfit) (zeroCells_one h1 n)
 simp only [Nat.add_zero] at hst
 obtain ⟨m, rfl⟩ : ∃ m, n = m + 1 := ⟨n - 1, by omega⟩
 simp [Builtin.clear_, run_underlying ht, hv, hst, spl]
theorem spl_lo {cur : Array Value} {o : Nat} {vs : List Value} (hf : o + vs.length ≤ cur.size) : (spl cur o vs).toList.take (o + vs.length) = cur.toList.take o ++ vs := by
 unfold spl
 have hl : (cur.toList.take o ++ vs).length = o + vs.length := by rw [List.length_append, List.length_take, Array.length_toList]; omega
 show (cur.toList.take o ++ vs ++ cur.toList.drop (o + vs.length)).take (o + vs.length) = _
 rw [← hl, List.take_left]
theorem spl_take_lo {cur : Array Value} {o k : Nat} {vs : List Value} (hk : k ≤ o) (ho : o ≤ cur.size) : (spl cur o vs).toList.take k = cur.toList.take k := by
 unfold spl
 show (cur.toList.take o ++ vs ++ cur.toList.drop (o + vs.length)).take k = _
 rw [List.append_assoc, List.take_append_of_le_length (by rw [List.length_take, Array.length_toList]; omega), List.take_take, Nat.min_eq_left hk]
end Go.Proofs.YtccnkebkgegohaaGreatDoor
end
section
namespace Go.Proofs.YtccnkebkgegohaaGreatDoor
open Go.RowKit Go.Rel
set_option maxRecDepth 100000
/-! some laws of lists in memory, for the laws that want no more -/
theorem sl_niln {k : Nat} (w : World) : Sl w k (.slice none 0 0) [] := ⟨none, 0, rfl, Nat.le_refl _, by decide, .inl rfl⟩
theorem sl_dropn {w : World} {k i n c : Nat} {a : Option Addr} {xs : List (List Value)} (h : Sl w k (.slice a n c) xs) (hi : i ≤ n) : Sl w k (sliced a i n c k) (xs.drop i) := by
 obtain ⟨a', c', he, h1, h2, h3⟩ := h
 cases he
 have hl : (xs.drop i).length = xs.length - i := by rw [List.length_drop]
 unfold sliced
 refine ⟨_, _, by rw [hl], by rw [hl]; omega, by omega, ?_⟩
 rcases h3 with rfl | ⟨b, off, rfl, h4⟩
 ·exact .inl (by simp)
 ·by_cases hx : xs.drop i = []
  ·exact .inl hx
  ·have hlt : i < xs.length := by
    rcases Nat.lt_or_ge i xs.length with h | h
    ·exact h
    ·exact absurd (List.drop_eq_nil_of_le h) hx
   refine .inr ⟨b, off + i * k, ?_, h4.1, fun p j u hu => ?_⟩
   ·simp only [Option.map_some]
    rw [if_neg (by omega), Go.WideShapes.add_plain]
   ·obtain ⟨r, hr, hj⟩ := Option.bind_eq_some_iff.1 hu
    rw [List.getElem?_drop] at hr
    have := h4.2 (i + p) j u (by rw [hr]; exact hj)
    rw [show off + i * k + p * k + j = off + (i + p) * k + j by rw [Nat.add_mul]; omega]
    exact this
theorem acs_at {W : World} {q : Option Addr} {n c : Nat} {l : List Ac} {j : Nat} {x : Ac} (h : SlA W (.slice q n c) l) (hx : l[j]? = some x) : ∃ b o, q = some ⟨b, o, none⟩ ∧ Cells W b o 10 (l.map acL) := by
 rcases Sl.cases h with ⟨hl, _⟩ | ⟨b, o, c', he, _, _, _, hc⟩
 ·have : l = [] := by simpa using hl
  subst this; cases hx
 ·injection he with h1 _ _
  exact ⟨b, o, h1, hc⟩
end Go.Proofs.YtccnkebkgegohaaGreatDoor
end
