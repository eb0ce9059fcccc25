import Derived.Test.YtccnkebkgegohaaGreatDoorHY1
/-
  Given contracts of functions of the program, and laws for them, one behind the other.
-/
set_option linter.unusedVariables false
set_option linter.unusedSimpArgs false
set_option linter.unusedSectionVars false
section
namespace Go.Proofs.YtccnkebkgegohaaGreatDoor
open Go Go.Tra
/-! ### how many orders there are: by the program and by the reference -/
theorem and_nat {a b : Nat} (ha : a < 4611686018427387904) (hb : b < 4611686018427387904) : bits .and .i64 (a : Int) (b : Int) = ((a &&& b : Nat) : Int) := by
 show IntKind.i64.wrap ((BitVec.ofInt 64 (a : Int) &&& BitVec.ofInt 64 (b : Int)).toNat : Int) = _
 rw [BitVec.ofInt_natCast, BitVec.ofInt_natCast, BitVec.toNat_and, BitVec.toNat_ofNat, BitVec.toNat_ofNat, Nat.mod_eq_of_lt (by omega), Nat.mod_eq_of_lt (by omega)]
 exact IntWalk.i64_in _ (by have := Nat.and_le_left (n := a) (m := b); omega)
theorem sub_iff {a b : Nat} : (a &&& b = a) ↔ ∀ i, a.testBit i = true → b.testBit i = true := by
 constructor
 ·intro h i hi
  have := congrArg (fun z => z.testBit i) h
  simp only [Nat.testBit_and, hi, Bool.true_and] at this
  exact this
 ·intro h
  refine Nat.eq_of_testBit_eq fun i => ?_
  rw [Nat.testBit_and]
  cases ha : a.testBit i with
  | false => rfl
  | true => simp [h i ha]
theorem andNot_nat {a b : Nat} (ha : a < 4611686018427387904) (hb : b < 4611686018427387904) : (bits .andNot .i64 (a : Int) (b : Int) == 0) = decide (a &&& b = a) := by
 have hle : (BitVec.ofNat 64 a &&& ~~~ BitVec.ofNat 64 b).toNat ≤ a := by
  rw [BitVec.toNat_and, BitVec.toNat_ofNat]
  exact Nat.le_trans Nat.and_le_left (Nat.mod_le _ _)
 have e : bits .andNot .i64 (a : Int) (b : Int) = ((BitVec.ofNat 64 a &&& ~~~ BitVec.ofNat 64 b).toNat : Int) := by
  show IntKind.i64.wrap ((BitVec.ofInt 64 (a : Int) &&& ~~~ BitVec.ofInt 64 (b : Int)).toNat : Int) = _
  rw [BitVec.ofInt_natCast, BitVec.ofInt_natCast]
  exact IntWalk.i64_in _ (by omega)
 rw [e, Bool.eq_iff_iff, beq_iff_eq, decide_eq_true_eq, sub_iff]
 have hz : ((BitVec.ofNat 64 a &&& ~~~ BitVec.ofNat 64 b).toNat : Int) = 0 ↔ BitVec.ofNat 64 a &&& ~~~ BitVec.ofNat 64 b = 0#64 := by
  rw [show (0 : Int) = ((0 : Nat) : Int) from rfl, Int.ofNat_inj]
  constructor
  ·intro h; exact BitVec.eq_of_toNat_eq (by simpa using h)
  ·intro h; rw [h]; rfl
 rw [hz]
 have hbit : ∀ (z i : Nat), z < 4611686018427387904 → 62 ≤ i → z.testBit i = false := fun z i hz hi => Nat.testBit_lt_two_pow (Nat.lt_of_lt_of_le (show z < 2 ^ 62 from hz) (Nat.pow_le_pow_right (by decide) hi))
 constructor
 ·intro h i hi
  have h64 : i < 62 := by
   rcases Nat.lt_or_ge i 62 with h | h
   ·exact h
   ·rw [hbit a i ha h] at hi; cases hi
  have := congrArg (fun z => z.getLsbD i) h
  simp only [BitVec.getLsbD_and, BitVec.getLsbD_not, BitVec.getLsbD_ofNat, BitVec.getLsbD_zero, hi, show decide (i < 64) = true by simp; omega, Bool.true_and] at this
  simpa using this
 ·intro h
  refine BitVec.eq_of_getLsbD_eq fun i hi => ?_
  simp only [BitVec.getLsbD_and, BitVec.getLsbD_not, BitVec.getLsbD_ofNat, BitVec.getLsbD_zero, show decide (i < 64) = true by simp; omega, Bool.true_and]
  cases ha : a.testBit i with
  | false => simp
  | true => simp [h i ha]
theorem div_bit (s j : Nat) (hs : s < 4611686018427387904) : (decide (bits .and .i64 ((s : Int) / 2 ^ j) 1 = 0)) = !s.testBit j := by
 have e : (s : Int) / 2 ^ j = ((s / 2 ^ j : Nat) : Int) := by simp
 have h1 := and_nat (a := s / 2 ^ j) (b := 1) (Nat.lt_of_le_of_lt (Nat.div_le_self _ _) hs) (by decide)
 rw [e, show (1 : Int) = ((1 : Nat) : Int) from rfl, h1, Nat.and_one_is_mod, Nat.testBit_eq_decide_div_mod_eq]
 rw [Bool.eq_iff_iff]
 simp
 omega
/-- the acts that go ahead, as a set -/
def maskN (p : Nat → Bool) : Nat → Nat
 | 0 => 0
 | k + 1 => maskN p k + (if p k then 2 ^ k else 0)
theorem mask_lt (p : Nat → Bool) : ∀ n, maskN p n < 2 ^ n
 | 0 => Nat.one_pos
 | n + 1 => by
  unfold maskN
  have := mask_lt p n
  rw [Nat.pow_succ]
  split <;> omega
theorem mask_hi (p : Nat → Bool) (n : Nat) : (maskN p n).testBit n = false := Nat.testBit_lt_two_pow (mask_lt p n)
theorem mask_or (p : Nat → Bool) (n : Nat) : maskN p (n + 1) = if p n then maskN p n ||| 2 ^ n else maskN p n := by
 show maskN p n + (if p n then 2 ^ n else 0) = _
 split
 ·rw [or_sub (mask_hi p n)]
 ·rfl
theorem mask_bit (p : Nat → Bool) (i : Nat) : ∀ n, (maskN p n).testBit i = (decide (i < n) && p i)
 | 0 => by simp [maskN]
 | n + 1 => by
  rw [mask_or]
  have ih := mask_bit p i n
  by_cases e : i = n
  ·subst e
   have : decide (i < i + 1) = true := by simp
   rw [this, Bool.true_and]
   split
   ·next h => rw [bit_or, h]; simp
   ·next h => rw [mask_hi]; simpa using h
  ·have : decide (i < n + 1) = decide (i < n) := by rw [Bool.eq_iff_iff]; simp; omega
   rw [this, ← ih]
   split
   ·rw [bit_or]; simp [e]
   ·rfl
theorem mask_small (p : Nat → Bool) {n : Nat} (h : n ≤ 61) : maskN p n < 4611686018427387904 := by
 have h1 := mask_lt p n
 have h2 : (2 : Nat) ^ n ≤ 2 ^ 61 := Nat.pow_le_pow_right (by decide) h
 have h3 : (2 : Nat) ^ 61 = 2305843009213693952 := by decide
 omega
theorem mask_fold (p : Nat → Bool) : ∀ n, n ≤ 61 → (((List.range n).filter p).map fun (k : Nat) => (k : Int)).foldl (fun a k => bits .or .i64 a (shl1 k)) 0 = (maskN p n : Int)
 | 0, _ => rfl
 | n + 1, h => by
  rw [List.range_succ, List.filter_append, List.map_append, List.foldl_append, mask_fold p n (by omega), mask_or]
  cases hp : p n with
  | false => simp [hp]
  | true =>
   simp only [hp, List.filter_cons_of_pos, List.filter_nil, List.map_cons, List.map_nil, List.foldl_cons, List.foldl_nil, if_true]
   exact (or_shl (maskN p n) n (by omega) (mask_small p (by omega))).1
theorem outD_range {dep : Nat → Nat → Bool} {i : Nat} : ∀ m, m ≤ i → (outD dep i m).reverse = (((List.range m).map fun t => i - m + t).filter (ahd dep i)).map fun (k : Nat) => (k : Int)
 | 0, _ => rfl
 | m + 1, h => by
  have e : ((List.range (m + 1)).map fun t => i - (m + 1) + t) = (i - (m + 1)) :: ((List.range m).map fun t => i - m + t) := by
   rw [List.range_succ_eq_map, List.map_cons, List.map_map]
   congr 1
   refine List.map_congr_left fun t _ => ?_
   simp only [Function.comp]
   omega
  rw [e]
  unfold outD
  have ih := outD_range (dep := dep) (i := i) m (by omega)
  cases hp : ahd dep i (i - (m + 1)) with
  | false => rw [List.filter_cons_of_neg (by simp [hp])]; simpa using ih
  | true =>
   rw [List.filter_cons_of_pos (by simp [hp])]
   simp only [if_true, List.reverse_append, List.reverse_cons, List.reverse_nil, List.nil_append, List.map_cons, List.cons_append, ih]
theorem needsM_range (dep : Nat → Nat → Bool) (i : Nat) : needsM dep i = ((List.range i).filter (ahd dep i)).map fun (k : Nat) => (k : Int) := by
 have := outD_range (dep := dep) i (Nat.le_refl i)
 unfold needsM
 rw [this]
 congr 2
 rw [Nat.sub_self]
 simp
/-- whether an act stands ahead of another one -/
def aheadR (dep : Nat → Nat → Bool) (i k : Nat) : Bool := ahd dep i k && !(k == i)
theorem aheadR_range (dep : Nat → Nat → Bool) {i n : Nat} (h : i < n) : ((List.range n).filter (aheadR dep i)) = (List.range i).filter (ahd dep i) := by
 obtain ⟨d, rfl⟩ : ∃ d, n = i + d := ⟨n - i, by omega⟩
 rw [List.range_add, List.filter_append]
 have h1 : ((List.range d).map (i + ·)).filter (aheadR dep i) = [] := by
  rw [List.filter_eq_nil_iff]
  intro x hx
  obtain ⟨t, _, rfl⟩ := List.mem_map.1 hx
  unfold aheadR
  by_cases e : t = 0
  ·subst e; simp
  ·rw [ahd_above (by omega)]; simp
 rw [h1, List.append_nil]
 refine List.filter_congr fun x hx => ?_
 have := List.mem_range.1 hx
 unfold aheadR
 have e : (x == i) = false := by simp; omega
 rw [e]; simp
theorem needsR_eq (dep : Nat → Nat → Bool) {i n : Nat} (h : i < n) : (((List.range n).filter (aheadR dep i)).map fun (k : Nat) => (k : Int)) = needsM dep i := by
 rw [aheadR_range dep h, needsM_range]
theorem ndI_mask (dep : Nat → Nat → Bool) {i n : Nat} (h : i < n) (hn : n ≤ 61) : ndI dep i = (maskN (aheadR dep i) n : Int) := by
 unfold ndI
 rw [← needsR_eq dep h]
 exact mask_fold _ n hn
/-! the reference's numbers -/
def condR (nd : Nat → Nat) (set j : Nat) : Bool := !set.testBit j && decide (nd j &&& set = nd j)
def stepR (nd : Nat → Nat) (set : Nat) (f : Nat → Int) (j : Nat) : Nat → Int := fun t => if condR nd set j = true ∧ t = set ||| 2 ^ j then f (set ||| 2 ^ j) + f set else f t
def inR (nd : Nat → Nat) (set : Nat) (f : Nat → Int) : Nat → (Nat → Int)
 | 0 => f
 | j + 1 => stepR nd set (inR nd set f j) j
def outR (nd : Nat → Nat) (n : Nat) : Nat → (Nat → Int)
 | 0 => fun t => if t = 0 then 1 else 0
 | set + 1 => inR nd set (outR nd n set) n
theorem condW_R {nd : Nat → Int} {ndn : Nat → Nat} {set j : Nat} {z : Int} (hs : set < 4611686018427387904) (h1 : nd j = (ndn j : Int)) (h2 : ndn j < 4611686018427387904) : condW nd set z j = (decide (0 < z) && condR ndn set j) := by
 unfold condW condR
 rw [div_bit set j hs, h1, andNot_nat h2 hs]
theorem small0 (n : Nat) : Small n 0 0 fun t => if t = 0 then 1 else 0 :=
 ⟨rfl, fun t => by split <;> decide, fun t ht => by rw [if_neg ht]; simp; exact Int.mul_nonneg (by omega) (Int.pow_nonneg (by decide))⟩
theorem inR_small {nd : Nat → Nat} {n set : Nat} {f : Nat → Int} (hn : n ≤ 14) (h : Small n set 0 f) : ∀ j, j ≤ n → Small n set j (inR nd set f j)
 | 0, _ => h
 | j + 1, hj => by
  have ih := inR_small (nd := nd) hn h j (by omega)
  unfold inR stepR
  cases hc : condR nd set j with
  | false =>
   have e : (fun t => if false = true ∧ t = set ||| 2 ^ j then inR nd set f j (set ||| 2 ^ j) + inR nd set f j set else inR nd set f j t) = inR nd set f j := by funext t; simp
   rw [e]; exact ih.skip
  | true =>
   have hb : set.testBit j = false := by
    unfold condR at hc
    simp only [Bool.and_eq_true, Bool.not_eq_true'] at hc
    exact hc.1
   have := ih.step hn (by omega) hb
   simpa using this
theorem outR_small {nd : Nat → Nat} {n : Nat} (hn : n ≤ 14) : ∀ set, Small n set 0 (outR nd n set)
 | 0 => small0 n
 | set + 1 => (inR_small hn (outR_small hn set) n (Nat.le_refl _)).next
theorem inR_self {nd : Nat → Nat} {set : Nat} {f : Nat → Int} : ∀ j, inR nd set f j set = f set
 | 0 => rfl
 | j + 1 => by
  unfold inR stepR
  rw [inR_self j]
  rw [if_neg]
  rintro ⟨h1, h2⟩
  unfold condR at h1
  simp only [Bool.and_eq_true, Bool.not_eq_true'] at h1
  have := bit_or set j j
  rw [← h2, h1.1] at this
  simp at this
theorem inW_R {nd : Nat → Int} {ndn : Nat → Nat} {n set : Nat} {f : Nat → Int} (hn : n ≤ 14) (hs : set < 4611686018427387904) (h1 : ∀ j, j < n → nd j = (ndn j : Int)) (h2 : ∀ j, j < n → ndn j < 4611686018427387904) (hf : Small n set 0 f) :
  ∀ j, j ≤ n → inW nd set (f set) f j = inR ndn set f j
 | 0, _ => rfl
 | j + 1, hj => by
  have ih := inW_R hn hs h1 h2 hf j (by omega)
  have hb := (inR_small (nd := ndn) hn hf j (by omega)).bound hn
  unfold inW inR
  rw [ih]
  funext t
  unfold stepW stepR
  rw [condW_R hs (h1 j (by omega)) (h2 j (by omega)), inR_self]
  have e : IntKind.i64.wrap (inR ndn set f j (set ||| 2 ^ j) + f set) = inR ndn set f j (set ||| 2 ^ j) + f set := by
   have a := hb (set ||| 2 ^ j)
   have b := hf.bound hn set
   exact IntWalk.i64_in _ (by omega)
  rw [e]
  cases hc : condR ndn set j with
  | false => simp
  | true =>
   simp only [Bool.and_true, decide_eq_true_eq, true_and]
   by_cases ht : t = set ||| 2 ^ j
   ·subst ht
    simp only [and_true, if_true]
    split
    ·rfl
    ·have := hf.nn set
     omega
   ·simp [ht]
theorem outW_R {nd : Nat → Int} {ndn : Nat → Nat} {n : Nat} (hn : n ≤ 14) (h1 : ∀ j, j < n → nd j = (ndn j : Int)) (h2 : ∀ j, j < n → ndn j < 4611686018427387904) : ∀ set, set ≤ 4611686018427387904 → outW nd n set = outR ndn n set
 | 0, _ => rfl
 | set + 1, hs => by
  unfold outW outR
  rw [outW_R hn h1 h2 set (by omega)]
  exact inW_R hn (by omega) h1 h2 (outR_small hn set) n (Nat.le_refl _)
/-- the number of orders, as the reference counts it -/
def ordersR (dep : Nat → Nat → Bool) (n : Nat) : Int := outR (fun i => maskN (aheadR dep i) n) n (2 ^ n) (2 ^ n - 1)
theorem orders_law (dep : Nat → Nat → Bool) {n : Nat} (hn : n ≤ 14) : ordersM dep n = ordersR dep n := by
 unfold ordersM ordersR
 have h2 : (2 : Nat) ^ n ≤ 2 ^ 14 := Nat.pow_le_pow_right (by decide) hn
 have h3 : (2 : Nat) ^ 14 = 16384 := by decide
 rw [outW_R hn (fun j hj => ndI_mask dep hj (by omega)) (fun j hj => mask_small _ (by omega)) (2 ^ n) (by omega)]
end Go.Proofs.YtccnkebkgegohaaGreatDoor
end
section
namespace Go.Tra
/-! ### steps: again and again all letters that can be first -/
section
variable {α : Type} [DecidableEq α] {D : α → α → Bool}
/-- the letters that can not be first, in their order -/
def lft (D : α → α → Bool) : List α → List α → List α
 | _, [] => []
 | pre, x :: l => if pre.all (fun z => !D z x) then lft D (pre ++ [x]) l else x :: lft D (pre ++ [x]) l
def stepsL (D : α → α → Bool) (srt : List α → List α) : Nat → List α → List (List α)
 | 0, _ => []
 | _ + 1, [] => []
 | n + 1, x :: l => srt (frs D [] (x :: l)) :: stepsL D srt n (lft D [] (x :: l))
/-- a step's acts hang not together, and each of a later step hangs with one of the step ahead -/
def StepsOk (D : α → α → Bool) : List (List α) → Prop
 | [] => True
 | [s] => s.Pairwise fun x y => D x y = false
 | s :: t :: r => (s.Pairwise fun x y => D x y = false) ∧ (∀ x ∈ t, ∃ y ∈ s, D y x = true) ∧ StepsOk D (t :: r)
end
section
variable {α : Type} [DecidableEq α] {D : α → α → Bool} {a : Int → α} {dep : Int → Int → Bool} {left : List Int}
open Go.Proofs.YtccnkebkgegohaaGreatDoor
end
end Go.Tra
end
section
namespace Go.Proofs.YtccnkebkgegohaaGreatDoor
open Go Go.Tra
/-! ### steps of acts -/
section
variable {l : List Sol} {m : List Ac}
/-- a history's steps -/
def stpL (l : List Sol) (m : List Ac) : List (List Ac) := stepsL (depA l) (nrm l) m.length m
end
end Go.Proofs.YtccnkebkgegohaaGreatDoor
end
section
namespace Go.Proofs.YtccnkebkgegohaaGreatDoor
open Go
/-! ### one order alone: a chain -/
/-- the first k numbers, as a set -/
def pre2 (k : Nat) : Nat := 2 ^ k - 1
theorem pre2_bit (k i : Nat) : (pre2 k).testBit i = decide (i < k) := by unfold pre2; exact Nat.testBit_two_pow_sub_one ..
theorem pre2_or (k : Nat) : pre2 k ||| 2 ^ k = pre2 (k + 1) := by
 apply Nat.eq_of_testBit_eq
 intro i
 rw [bit_or, pre2_bit, pre2_bit, Bool.eq_iff_iff]
 simp; omega
theorem pre2_lt {a b : Nat} (h : a < b) : pre2 a < pre2 b := by
 have h1 : 2 ^ a < 2 ^ b := Nat.pow_lt_pow_right (by omega) h
 have h2 : 0 < 2 ^ a := Nat.two_pow_pos a
 unfold pre2
 omega
theorem pre2_inj {a b : Nat} (h : pre2 a = pre2 b) : a = b := by
 rcases Nat.lt_trichotomy a b with h1 | h1 | h1
 ·have := pre2_lt h1; omega
 ·exact h1
 ·have := pre2_lt h1; omega
section
variable {nd : Nat → Nat} {n : Nat}
/-- what is known of the numbers when sets below s, and of s the numbers below j, were looked at -/
def ChF (s j : Nat) (f : Nat → Int) : Prop := ∀ t, ((∃ k, t = pre2 k ∧ (k = 0 ∨ ∃ i, k = i + 1 ∧ (pre2 i < s ∨ (pre2 i = s ∧ i < j)))) → f t = 1) ∧ (¬ (∃ k, t = pre2 k ∧ (k = 0 ∨ ∃ i, k = i + 1 ∧ (pre2 i < s ∨ (pre2 i = s ∧ i < j)))) → f t = 0)
theorem chain_cond (hc : ∀ i, i < n → nd i = pre2 i) {s j : Nat} (hj : j < n) : condR nd s j = true ↔ (s.testBit j = false ∧ ∀ i, i < j → s.testBit i = true) := by
 unfold condR
 rw [Bool.and_eq_true, Bool.not_eq_true', decide_eq_true_iff, sub_iff, hc j hj]
 refine and_congr Iff.rfl ⟨fun h i hi => h i (by rw [pre2_bit]; simpa using hi), fun h i hi => h i (by rw [pre2_bit] at hi; simpa using hi)⟩
theorem chF_step (hc : ∀ i, i < n → nd i = pre2 i) {s j : Nat} {f : Nat → Int} (hj : j < n) (H : ChF s j f) : ChF s (j + 1) (stepR nd s f j) := by
 intro t
 by_cases hcond : condR nd s j = true
 ·obtain ⟨h1, h2⟩ := (chain_cond hc hj).1 hcond
  by_cases hs : s = pre2 j
  ·-- the one set that counts
   subst hs
   have hfs : f (pre2 j) = 1 := (H (pre2 j)).1 ⟨j, rfl, by
    cases j with
    | zero => exact .inl rfl
    | succ i => exact .inr ⟨i, rfl, .inl (pre2_lt (Nat.lt_succ_self i))⟩⟩
   have hft : f (pre2 (j + 1)) = 0 := (H (pre2 (j + 1))).2 (by
    rintro ⟨k, hk, h0 | ⟨i, hi, h3 | ⟨h3, h4⟩⟩⟩
    ·have := pre2_inj hk; omega
    ·have := pre2_inj hk
     have : i = j := by omega
     subst this; omega
    ·have := pre2_inj hk
     omega)
   by_cases ht : t = pre2 (j + 1)
   ·subst ht
    have hv : stepR nd (pre2 j) f j (pre2 (j + 1)) = 1 := by
     unfold stepR
     rw [if_pos ⟨hcond, (pre2_or j).symm⟩, pre2_or, hft, hfs]; rfl
    refine ⟨fun _ => hv, fun hn => absurd ?_ hn⟩
    exact ⟨j + 1, rfl, .inr ⟨j, rfl, .inr ⟨rfl, Nat.lt_succ_self j⟩⟩⟩
   ·have hv : stepR nd (pre2 j) f j t = f t := by
     unfold stepR
     rw [if_neg]
     rintro ⟨_, e⟩
     rw [pre2_or] at e
     exact ht e
    rw [hv]
    have hsame : (∃ k, t = pre2 k ∧ (k = 0 ∨ ∃ i, k = i + 1 ∧ (pre2 i < pre2 j ∨ (pre2 i = pre2 j ∧ i < j + 1)))) ↔ (∃ k, t = pre2 k ∧ (k = 0 ∨ ∃ i, k = i + 1 ∧ (pre2 i < pre2 j ∨ (pre2 i = pre2 j ∧ i < j)))) := by
     constructor
     ·rintro ⟨k, hk, h0 | ⟨i, hi, h3 | ⟨h3, h4⟩⟩⟩
      ·exact ⟨k, hk, .inl h0⟩
      ·exact ⟨k, hk, .inr ⟨i, hi, .inl h3⟩⟩
      ·have := pre2_inj h3
       subst this
       subst hi
       exact absurd hk ht
     ·rintro ⟨k, hk, h0 | ⟨i, hi, h3 | ⟨h3, h4⟩⟩⟩
      ·exact ⟨k, hk, .inl h0⟩
      ·exact ⟨k, hk, .inr ⟨i, hi, .inl h3⟩⟩
      ·exact ⟨k, hk, .inr ⟨i, hi, .inr ⟨h3, by omega⟩⟩⟩
    rw [hsame]
    exact H t
  ·-- the set is no beginning: nothing is added
   have hfs : f s = 0 := (H s).2 (by
    rintro ⟨k, hk, _⟩
    rw [hk, pre2_bit] at h1
    have h1 := of_decide_eq_false h1
    rcases Nat.lt_or_ge k j with h3 | h3
    ·have := h2 k h3
     rw [hk, pre2_bit] at this
     have := of_decide_eq_true this
     omega
    ·exact hs (by rw [hk, show k = j by omega]))
   have hv : stepR nd s f j t = f t := by
    unfold stepR
    split
    ·next h => rw [h.2, hfs, Int.add_zero]
    ·rfl
   rw [hv]
   have hsame : (∃ k, t = pre2 k ∧ (k = 0 ∨ ∃ i, k = i + 1 ∧ (pre2 i < s ∨ (pre2 i = s ∧ i < j + 1)))) ↔ (∃ k, t = pre2 k ∧ (k = 0 ∨ ∃ i, k = i + 1 ∧ (pre2 i < s ∨ (pre2 i = s ∧ i < j)))) := by
    constructor
    ·rintro ⟨k, hk, h0 | ⟨i, hi, h3 | ⟨h3, h4⟩⟩⟩
     ·exact ⟨k, hk, .inl h0⟩
     ·exact ⟨k, hk, .inr ⟨i, hi, .inl h3⟩⟩
     ·refine ⟨k, hk, .inr ⟨i, hi, .inr ⟨h3, ?_⟩⟩⟩
      rcases Nat.lt_or_ge i j with h5 | h5
      ·exact h5
      ·have : i = j := by omega
       subst this
       exact absurd h3.symm hs
    ·rintro ⟨k, hk, h0 | ⟨i, hi, h3 | ⟨h3, h4⟩⟩⟩
     ·exact ⟨k, hk, .inl h0⟩
     ·exact ⟨k, hk, .inr ⟨i, hi, .inl h3⟩⟩
     ·exact ⟨k, hk, .inr ⟨i, hi, .inr ⟨h3, by omega⟩⟩⟩
   rw [hsame]
   exact H t
 ·have hs : s ≠ pre2 j := by
   rintro rfl
   refine hcond ((chain_cond hc hj).2 ⟨by rw [pre2_bit]; simp, fun i hi => by rw [pre2_bit]; simpa using hi⟩)
  have hv : stepR nd s f j t = f t := by
   unfold stepR
   rw [if_neg]
   rintro ⟨e, _⟩
   exact hcond e
  rw [hv]
  have hsame : (∃ k, t = pre2 k ∧ (k = 0 ∨ ∃ i, k = i + 1 ∧ (pre2 i < s ∨ (pre2 i = s ∧ i < j + 1)))) ↔ (∃ k, t = pre2 k ∧ (k = 0 ∨ ∃ i, k = i + 1 ∧ (pre2 i < s ∨ (pre2 i = s ∧ i < j)))) := by
   constructor
   ·rintro ⟨k, hk, h0 | ⟨i, hi, h3 | ⟨h3, h4⟩⟩⟩
    ·exact ⟨k, hk, .inl h0⟩
    ·exact ⟨k, hk, .inr ⟨i, hi, .inl h3⟩⟩
    ·refine ⟨k, hk, .inr ⟨i, hi, .inr ⟨h3, ?_⟩⟩⟩
     rcases Nat.lt_or_ge i j with h5 | h5
     ·exact h5
     ·have : i = j := by omega
      subst this
      exact absurd h3.symm hs
   ·rintro ⟨k, hk, h0 | ⟨i, hi, h3 | ⟨h3, h4⟩⟩⟩
    ·exact ⟨k, hk, .inl h0⟩
    ·exact ⟨k, hk, .inr ⟨i, hi, .inl h3⟩⟩
    ·exact ⟨k, hk, .inr ⟨i, hi, .inr ⟨h3, by omega⟩⟩⟩
  rw [hsame]
  exact H t
theorem chF_in (hc : ∀ i, i < n → nd i = pre2 i) {s : Nat} {f : Nat → Int} (H : ChF s 0 f) : ∀ j, j ≤ n → ChF s j (inR nd s f j)
 | 0, _ => H
 | j + 1, h => chF_step hc (by omega) (chF_in hc H j (by omega))
end
end Go.Proofs.YtccnkebkgegohaaGreatDoor
end
section
namespace Go.Proofs.YtccnkebkgegohaaGreatDoor
open Go
/-! ### one order alone: a chain (the numbers) -/
section
variable {nd : Nat → Nat} {n : Nat}
theorem two_pow_pre (k : Nat) : 2 ^ k = pre2 k + 1 := by
 have := Nat.two_pow_pos k
 unfold pre2; omega
theorem ch0 : ChF 0 0 (fun t => if t = 0 then 1 else 0) := by
 intro t
 constructor
 ·rintro ⟨k, hk, h0 | ⟨i, _, h | ⟨_, h⟩⟩⟩
  ·subst h0; rw [hk]; rfl
  ·omega
  ·omega
 ·intro hn
  by_cases ht : t = 0
  ·exact absurd ⟨0, ht, .inl rfl⟩ hn
  ·simp [ht]
theorem ch_next {s : Nat} {f : Nat → Int} (hs : s < pre2 n) (H : ChF s n f) : ChF (s + 1) 0 f := by
 intro t
 have hsame : (∃ k, t = pre2 k ∧ (k = 0 ∨ ∃ i, k = i + 1 ∧ (pre2 i < s + 1 ∨ (pre2 i = s + 1 ∧ i < 0)))) ↔ (∃ k, t = pre2 k ∧ (k = 0 ∨ ∃ i, k = i + 1 ∧ (pre2 i < s ∨ (pre2 i = s ∧ i < n)))) := by
  constructor
  ·rintro ⟨k, hk, h0 | ⟨i, hi, h3 | ⟨_, h4⟩⟩⟩
   ·exact ⟨k, hk, .inl h0⟩
   ·refine ⟨k, hk, .inr ⟨i, hi, ?_⟩⟩
    rcases Nat.lt_or_ge (pre2 i) s with h5 | h5
    ·exact .inl h5
    ·have e : pre2 i = s := by omega
     refine .inr ⟨e, ?_⟩
     rcases Nat.lt_or_ge i n with h6 | h6
     ·exact h6
     ·rcases Nat.lt_or_ge n i with h7 | h7
      ·have := pre2_lt h7; omega
      ·have : i = n := by omega
       subst this; omega
   ·omega
  ·rintro ⟨k, hk, h0 | ⟨i, hi, h3 | ⟨h3, h4⟩⟩⟩
   ·exact ⟨k, hk, .inl h0⟩
   ·exact ⟨k, hk, .inr ⟨i, hi, .inl (by omega)⟩⟩
   ·exact ⟨k, hk, .inr ⟨i, hi, .inl (by omega)⟩⟩
 rw [hsame]
 exact H t
theorem outR_ch (hc : ∀ i, i < n → nd i = pre2 i) : ∀ s, s ≤ pre2 n → ChF s 0 (outR nd n s)
 | 0, _ => ch0
 | s + 1, h => ch_next (n := n) (by omega) (chF_in hc (outR_ch hc s (by omega)) n (Nat.le_refl _))
theorem outR_last : outR nd n (2 ^ n) (2 ^ n - 1) = outR nd n (pre2 n) (pre2 n) := by
 rw [two_pow_pre]
 show inR nd (pre2 n) (outR nd n (pre2 n)) n (pre2 n) = _
 exact inR_self n
/-- in a chain there is one order -/
theorem one_chain (hc : ∀ i, i < n → nd i = pre2 i) : outR nd n (2 ^ n) (2 ^ n - 1) = 1 := by
 rw [outR_last]
 refine (outR_ch hc (pre2 n) (Nat.le_refl _) (pre2 n)).1 ⟨n, rfl, ?_⟩
 cases n with
 | zero => exact .inl rfl
 | succ i => exact .inr ⟨i, rfl, .inl (pre2_lt (Nat.lt_succ_self i))⟩
/-! the numbers grow -/
theorem stepR_ge {s j : Nat} {f : Nat → Int} (h : ∀ t, 0 ≤ f t) (t : Nat) : f t ≤ stepR nd s f j t := by
 unfold stepR
 split
 ·next e => have := h s; rw [e.2]; omega
 ·exact Int.le_refl _
theorem inR_ge {s : Nat} {f : Nat → Int} (h : ∀ t, 0 ≤ f t) : ∀ (j t : Nat), f t ≤ inR nd s f j t
 | 0, _ => Int.le_refl _
 | j + 1, t => Int.le_trans (inR_ge h j t) (stepR_ge (fun t => Int.le_trans (h t) (inR_ge h j t)) t)
theorem inR_more {s : Nat} {f : Nat → Int} (h : ∀ t, 0 ≤ f t) (t i : Nat) : ∀ d, inR nd s f i t ≤ inR nd s f (i + d) t
 | 0 => Int.le_refl _
 | d + 1 => Int.le_trans (inR_more h t i d) (stepR_ge (fun t => Int.le_trans (h t) (inR_ge h (i + d) t)) t)
theorem outR_nn : ∀ (s t : Nat), 0 ≤ outR nd n s t
 | 0, t => by unfold outR; split <;> decide
 | s + 1, t => Int.le_trans (outR_nn s t) (inR_ge (outR_nn s) n t)
theorem outR_more (t s : Nat) : ∀ d, outR nd n s t ≤ outR nd n (s + d) t
 | 0 => Int.le_refl _
 | d + 1 => Int.le_trans (outR_more t s d) (inR_ge (outR_nn (s + d)) n t)
theorem outR_up {t s s' : Nat} (h : s ≤ s') : outR nd n s t ≤ outR nd n s' t := by
 obtain ⟨d, rfl⟩ : ∃ d, s' = s + d := ⟨s' - s, by omega⟩
 exact outR_more t s d
/-- what one set gives to the next -/
theorem outR_add {s j : Nat} (hj : j < n) (hc : condR nd s j = true) : outR nd n s (s ||| 2 ^ j) + outR nd n s s ≤ outR nd n (s + 1) (s ||| 2 ^ j) := by
 have h := outR_nn (nd := nd) (n := n) s
 have h1 : inR nd s (outR nd n s) (j + 1) (s ||| 2 ^ j) = inR nd s (outR nd n s) j (s ||| 2 ^ j) + outR nd n s s := by
  show stepR nd s (inR nd s (outR nd n s) j) j (s ||| 2 ^ j) = _
  unfold stepR
  rw [if_pos ⟨hc, rfl⟩, inR_self]
 have h2 := inR_ge (nd := nd) (s := s) h j (s ||| 2 ^ j)
 obtain ⟨d, rfl⟩ : ∃ d, n = j + 1 + d := ⟨n - (j + 1), by omega⟩
 have h3 := inR_more (nd := nd) (s := s) h (s ||| 2 ^ j) (j + 1) d
 show _ ≤ inR nd s (outR nd (j + 1 + d) s) (j + 1 + d) (s ||| 2 ^ j)
 omega
theorem cond_pre (hb : ∀ j i, (nd j).testBit i = true → i < j) (k : Nat) : condR nd (pre2 k) k = true := by
 unfold condR
 rw [Bool.and_eq_true, Bool.not_eq_true', decide_eq_true_iff, sub_iff]
 exact ⟨by rw [pre2_bit]; simp, fun i hi => by rw [pre2_bit]; simpa using hb k i hi⟩
theorem pre_up (hb : ∀ j i, (nd j).testBit i = true → i < j) {k : Nat} (hk : k < n) : outR nd n (pre2 k) (pre2 k) ≤ outR nd n (pre2 (k + 1)) (pre2 (k + 1)) := by
 have h1 := outR_add (nd := nd) hk (cond_pre hb k)
 rw [pre2_or] at h1
 have h2 := outR_nn (nd := nd) (n := n) (pre2 k) (pre2 (k + 1))
 have h3 : outR nd n (pre2 k + 1) (pre2 (k + 1)) ≤ outR nd n (pre2 (k + 1)) (pre2 (k + 1)) := outR_up (Nat.succ_le_of_lt (pre2_lt (show k < k + 1 by omega)))
 omega
theorem pre_one (hb : ∀ j i, (nd j).testBit i = true → i < j) : ∀ k, k ≤ n → 1 ≤ outR nd n (pre2 k) (pre2 k)
 | 0, _ => by show (1 : Int) ≤ outR nd n 0 0; unfold outR; decide
 | k + 1, h => Int.le_trans (pre_one hb k (by omega)) (pre_up hb (by omega))
/-- where two neighbours do not wait for one another there are two orders -/
theorem two_free (hb : ∀ j i, (nd j).testBit i = true → i < j) {i : Nat} (hi : i + 1 < n) (hf : (nd (i + 1)).testBit i = false) : 2 ≤ outR nd n (2 ^ n) (2 ^ n - 1) := by
 rw [outR_last]
 have hA := pre_one (n := n) hb i (by omega)
 have hAlt : pre2 i < 2 ^ i := by have := two_pow_pre i; omega
 have hP : 2 ^ (i + 1) = 2 * 2 ^ i := by rw [Nat.pow_succ]; omega
 have hP2 : 2 ^ (i + 1 + 1) = 4 * 2 ^ i := by rw [Nat.pow_succ, Nat.pow_succ]; omega
 have eB := two_pow_pre (i + 1)
 have eD := two_pow_pre (i + 1 + 1)
 have eA := two_pow_pre i
 have hor : pre2 i ||| 2 ^ (i + 1) = pre2 i + 2 ^ (i + 1) := by
  rw [or_sub]
  rw [pre2_bit]; simp
 -- the set without the i-th
 have hcC : condR nd (pre2 i) (i + 1) = true := by
  unfold condR
  rw [Bool.and_eq_true, Bool.not_eq_true', decide_eq_true_iff, sub_iff]
  refine ⟨by rw [pre2_bit]; simp, fun j hj => ?_⟩
  rw [pre2_bit]
  have h1 := hb (i + 1) j hj
  have h2 : j ≠ i := by rintro rfl; rw [hf] at hj; cases hj
  simp; omega
 have hC := outR_add (nd := nd) hi hcC
 have hC0 := outR_nn (nd := nd) (n := n) (pre2 i) (pre2 i ||| 2 ^ (i + 1))
 generalize hCC : pre2 i ||| 2 ^ (i + 1) = C at *
 have hCu := outR_up (nd := nd) (n := n) (t := C) (show pre2 i + 1 ≤ C by omega)
 -- both sets lead to the one
 have hB := pre_one (n := n) hb (i + 1) (by omega)
 have hDB := outR_add (nd := nd) hi (cond_pre hb (i + 1))
 rw [pre2_or] at hDB
 have hD0 := outR_nn (nd := nd) (n := n) (pre2 (i + 1)) (pre2 (i + 1 + 1))
 have hDu := outR_up (nd := nd) (n := n) (t := pre2 (i + 1 + 1)) (show pre2 (i + 1) + 1 ≤ C by omega)
 have hcD : condR nd C i = true := by
  unfold condR
  rw [Bool.and_eq_true, Bool.not_eq_true', decide_eq_true_iff, sub_iff]
  rw [← hCC]
  refine ⟨by rw [bit_or, pre2_bit]; simp, fun j hj => ?_⟩
  have h1 := hb i j hj
  rw [bit_or, pre2_bit]; simp; omega
 have hDC := outR_add (nd := nd) (n := n) (by omega) hcD
 have eDC : C ||| 2 ^ i = pre2 (i + 1 + 1) := by
  rw [← hCC]
  apply Nat.eq_of_testBit_eq
  intro j
  rw [bit_or, bit_or, pre2_bit, pre2_bit, Bool.eq_iff_iff]
  simp; omega
 rw [eDC] at hDC
 have hDl := outR_up (nd := nd) (n := n) (t := pre2 (i + 1 + 1)) (show C + 1 ≤ pre2 (i + 1 + 1) by omega)
 have h2 : 2 ≤ outR nd n (pre2 (i + 2)) (pre2 (i + 2)) := by
  show 2 ≤ outR nd n (pre2 (i + 1 + 1)) (pre2 (i + 1 + 1))
  omega
 have key : ∀ d, i + 2 + d ≤ n → 2 ≤ outR nd n (pre2 (i + 2 + d)) (pre2 (i + 2 + d)) := by
  intro d
  induction d with
  | zero => intro _; exact h2
  | succ d ih => intro h; exact Int.le_trans (ih (by omega)) (pre_up hb (by omega))
 have := key (n - (i + 2)) (by omega)
 rwa [show i + 2 + (n - (i + 2)) = n by omega] at this
end
end Go.Proofs.YtccnkebkgegohaaGreatDoor
end
section
namespace Go.Proofs.YtccnkebkgegohaaGreatDoor
open Go Go.Tra
/-! ### a chain: by dependence -/
theorem ahd_first (dep : Nat → Nat → Bool) {j k : Nat} (h : k < j) (h1 : ahd dep j (k + 1) = true) (h2 : dep k (k + 1) = true) : ahd dep j k = true := by
 rw [ahd_step dep h, List.any_eq_true]
 exact ⟨0, by simp; omega, by simp [h1, h2]⟩
theorem ahd_chain {dep : Nat → Nat → Bool} {n : Nat} (hc : ∀ i, i + 1 < n → dep i (i + 1) = true) {j : Nat} (hj : j < n) : ∀ d, d ≤ j → ahd dep j (j - d) = true
 | 0, _ => ahd_self dep j
 | d + 1, h => by
  refine ahd_first dep (by omega) ?_ (hc _ (by omega))
  rw [show j - (d + 1) + 1 = j - d by omega]
  exact ahd_chain hc hj d (by omega)
theorem aheadR_lt {dep : Nat → Nat → Bool} {j i : Nat} (h : aheadR dep j i = true) : i < j := by
 unfold aheadR at h
 rw [Bool.and_eq_true] at h
 rcases Nat.lt_trichotomy i j with h1 | h1 | h1
 ·exact h1
 ·subst h1; simp at h
 ·rw [ahd_above h1] at h; simp at h
theorem ahd_next (dep : Nat → Nat → Bool) (i : Nat) : ahd dep (i + 1) i = dep i (i + 1) := by
 rw [ahd_step dep (Nat.lt_succ_self i), show i + 1 - i = 1 by omega]
 simp [ahd_self]
/-- there is one order exactly if neighbours are never independent -/
theorem orders_one (dep : Nat → Nat → Bool) (n : Nat) : ordersR dep n = 1 ↔ ∀ i, i + 1 < n → dep i (i + 1) = true := by
 have hb : ∀ j i, (maskN (aheadR dep j) n).testBit i = true → i < j := by
  intro j i h
  rw [mask_bit, Bool.and_eq_true] at h
  exact aheadR_lt h.2
 constructor
 ·intro h i hi
  cases hd : dep i (i + 1) with
  | true => rfl
  | false =>
   exfalso
   have h2 := two_free (nd := fun i => maskN (aheadR dep i) n) hb hi (by
    rw [mask_bit]
    unfold aheadR
    rw [ahd_next, hd]; simp)
   have : ordersR dep n = outR (fun i => maskN (aheadR dep i) n) n (2 ^ n) (2 ^ n - 1) := rfl
   omega
 ·intro hc
  refine one_chain (nd := fun i => maskN (aheadR dep i) n) fun j hj => ?_
  apply Nat.eq_of_testBit_eq
  intro i
  show (maskN (aheadR dep j) n).testBit i = _
  rw [mask_bit, pre2_bit, Bool.eq_iff_iff, Bool.and_eq_true, decide_eq_true_iff, decide_eq_true_iff]
  constructor
  ·exact fun h => aheadR_lt h.2
  ·intro h
   refine ⟨by omega, ?_⟩
   unfold aheadR
   have := ahd_chain hc hj (j - i) (by omega)
   rw [show j - (j - i) = i by omega] at this
   rw [this]
   simp; omega
/-- an act that another one needs: one behind it depends on it straight away -/
theorem ahd_direct {dep : Nat → Nat → Bool} {i j : Nat} (h : i < j) (ha : ahd dep j i = true) : ∃ t, i < t ∧ t ≤ j ∧ dep i t = true := by
 rw [ahd_step dep h, List.any_eq_true] at ha
 obtain ⟨t, ht, hd⟩ := ha
 have := List.mem_range.1 ht
 rw [Bool.and_eq_true] at hd
 exact ⟨i + 1 + t, by omega, by omega, hd.2⟩
theorem direct_ahd {dep : Nat → Nat → Bool} {i j : Nat} (h : i < j) (hd : dep i j = true) : ahd dep j i = true := by
 rw [ahd_step dep h, List.any_eq_true]
 exact ⟨j - (i + 1), by simp; omega, by rw [show i + 1 + (j - (i + 1)) = j by omega, ahd_self, hd]; rfl⟩
theorem needs_mem (dep : Nat → Nat → Bool) (i j : Nat) : (needsM dep j).contains (i : Int) = true ↔ i < j ∧ ahd dep j i = true := by
 rw [needsM_range]
 simp
 constructor
 ·rintro ⟨a, h, e⟩
  have : a = i := by omega
  subst this; exact h
 ·exact fun h => ⟨i, h, rfl⟩
theorem last_needs (dep : Nat → Nat → Bool) (n i : Nat) : ((List.range n).any fun j => (needsM dep j).contains (i : Int)) = true ↔ ∃ t, i < t ∧ t < n ∧ dep i t = true := by
 rw [List.any_eq_true]
 constructor
 ·rintro ⟨j, hj, h⟩
  obtain ⟨h1, h2⟩ := (needs_mem dep i j).1 h
  obtain ⟨t, a, b, c⟩ := ahd_direct h1 h2
  have := List.mem_range.1 hj
  exact ⟨t, a, by omega, c⟩
 ·rintro ⟨t, a, b, c⟩
  exact ⟨t, List.mem_range.2 b, (needs_mem dep i t).2 ⟨a, direct_ahd a c⟩⟩
/-! ### a chain's class has one list -/
section
variable {α : Type} [DecidableEq α] {D : α → α → Bool}
def Chn (D : α → α → Bool) : List α → Prop
 | [] => True
 | [_] => True
 | x :: y :: l => D x y = true ∧ Chn D (y :: l)
theorem Chn.tail {x : α} : ∀ {l : List α}, Chn D (x :: l) → Chn D l
 | [], _ => trivial
 | _ :: _, h => h.2
theorem chn_free {x : α} : ∀ {l : List α}, Chn D (x :: l) → ∀ {y : α}, free D y (x :: l) = true → y = x
 | [], _, y, h => by
  unfold free at h
  split at h
  ·next e => exact e.symm
  ·simp [free] at h
 | z :: l, hc, y, h => by
  unfold free at h
  split at h
  ·next e => exact e.symm
  ·rw [Bool.and_eq_true] at h
   have := chn_free (l := l) hc.2 h.2
   subst this
   have h1 := hc.1
   rw [h1] at h
   simp at h
theorem chn_one (hr : ∀ a, D a a = true) (hs : ∀ a b, D a b = D b a) : ∀ {g h : List α}, Chn D g → Eqv D g h → h = g
 | [], h, _, e => by
  have := e.len hr
  cases h with
  | nil => rfl
  | cons y h => simp at this
 | x :: g, h, hc, e => by
  cases h with
  | nil => have := e.len hr; simp at this
  | cons y h =>
   have h1 := free_of hr e
   have h2 := chn_free hc h1
   subst h2
   rw [chn_one hr hs hc.tail e.cancel1]
end
theorem chn_nrm (l : List Sol) (g : List Ac) : Chn (depA l) (nrm l g) ↔ Chn (depA l) g := by
 constructor
 ·intro h
  have := chn_one (depA_refl l) (depA_symm l) h (nrm_eqv l g).symm
  rw [this]; exact h
 ·intro h
  have := chn_one (depA_refl l) (depA_symm l) h (nrm_eqv l g)
  rw [this]; exact h
theorem chn_at {α : Type} {D : α → α → Bool} : ∀ {g : List α}, Chn D g ↔ ∀ i x y, g[i]? = some x → g[i + 1]? = some y → D x y = true
 | [] => ⟨fun _ i x y h => by simp at h, fun _ => trivial⟩
 | [a] => ⟨fun _ i x y _ h => by simp at h, fun _ => trivial⟩
 | a :: b :: l => by
  have ih := chn_at (D := D) (g := b :: l)
  constructor
  ·rintro ⟨h1, h2⟩ i x y hx hy
   cases i with
   | zero => simp at hx hy; subst hx; subst hy; exact h1
   | succ i => exact ih.1 h2 i x y (by simpa using hx) (by simpa using hy)
  ·intro h
   exact ⟨h 0 a b rfl rfl, ih.2 fun i x y hx hy => h (i + 1) x y (by simpa using hx) (by simpa using hy)⟩
end Go.Proofs.YtccnkebkgegohaaGreatDoor
end
