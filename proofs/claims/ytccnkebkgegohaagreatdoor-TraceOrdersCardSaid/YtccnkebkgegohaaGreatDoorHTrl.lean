import Derived.Test.YtccnkebkgegohaaGreatDoorHS4
/-
  Given contracts of functions of the program, and laws for them, one behind the other.
-/
set_option linter.unusedVariables false
set_option linter.unusedSimpArgs false
set_option linter.unusedSectionVars false
section
namespace Go.Proofs.YtccnkebkgegohaaGreatDoor
open Go Go.Tra
/-! ### in how many ways the acts of a set can stand first: the numbers stay small -/
def pc (t : Nat) : Nat → Nat
  | 0 => 0
  | j + 1 => pc t j + (if t.testBit j then 1 else 0)
theorem bit_or (s j i : Nat) : (s ||| 2 ^ j).testBit i = (s.testBit i || decide (i = j)) := by
  rw [Nat.testBit_or, Nat.testBit_two_pow]
  congr 1
  rw [Bool.eq_iff_iff]; simp; exact eq_comm
theorem pc_or {s j : Nat} (hj : s.testBit j = false) : ∀ n, pc (s ||| 2 ^ j) n = pc s n + (if j < n then 1 else 0)
  | 0 => by simp [pc]
  | n + 1 => by
    unfold pc
    rw [pc_or hj n, bit_or]
    by_cases h : n = j
    · subst h; simp [hj]
    · by_cases h2 : j < n
      · rw [if_pos h2, if_pos (by omega : j < n + 1)]; simp [h]; omega
      · rw [if_neg h2, if_neg (by omega : ¬ j < n + 1)]; simp [h]
theorem pc_le (t : Nat) : ∀ n, pc t n ≤ n
  | 0 => Nat.le_refl _
  | n + 1 => by unfold pc; have := pc_le t n; split <;> omega
/-- how many of the sets with one act less have been seen -/
def seen (s j t : Nat) : Nat → Nat
  | 0 => 0
  | i + 1 => seen s j t i + (if t.testBit i && (decide (t - 2 ^ i < s) || (decide (t - 2 ^ i = s) && decide (i < j))) then 1 else 0)
theorem seen_le (s j t : Nat) : ∀ n, seen s j t n ≤ n
  | 0 => Nat.le_refl _
  | n + 1 => by unfold seen; have := seen_le s j t n; split <;> omega
theorem seen_next (s t : Nat) : ∀ n m, n ≤ m → seen (s + 1) 0 t n = seen s m t n
  | 0, _, _ => rfl
  | n + 1, m, h => by
    unfold seen
    rw [seen_next s t n m (by omega)]
    congr 2
    rw [eq_iff_iff]
    simp only [Bool.and_eq_true, Bool.or_eq_true, decide_eq_true_eq]
    constructor
    · rintro ⟨h1, h2⟩; exact ⟨h1, by omega⟩
    · rintro ⟨h1, h2⟩; exact ⟨h1, by omega⟩
theorem seen_mono (s j t : Nat) : ∀ n, seen s j t n ≤ seen s (j + 1) t n
  | 0 => Nat.le_refl _
  | n + 1 => by
    unfold seen
    have ih := seen_mono s j t n
    by_cases h : (t.testBit n && (decide (t - 2 ^ n < s) || (decide (t - 2 ^ n = s) && decide (n < j)))) = true
    · have h' : (t.testBit n && (decide (t - 2 ^ n < s) || (decide (t - 2 ^ n = s) && decide (n < j + 1)))) = true := by
        simp only [Bool.and_eq_true, Bool.or_eq_true, decide_eq_true_eq] at h ⊢
        exact ⟨h.1, by omega⟩
      rw [if_pos h, if_pos h']; omega
    · rw [if_neg h]; split <;> omega
theorem or_sub {s j : Nat} (hj : s.testBit j = false) : s ||| 2 ^ j = s + 2 ^ j := by
  have h2 : s / 2 ^ j % 2 = 0 := by
    rw [Nat.testBit_eq_decide_div_mod_eq] at hj
    have := of_decide_eq_false hj
    omega
  have hr : s % 2 ^ (j + 1) < 2 ^ j := by
    rw [Nat.pow_succ, Nat.mod_mul, h2, Nat.mul_zero, Nat.add_zero]
    exact Nat.mod_lt _ (Nat.two_pow_pos j)
  have hs : s = 2 ^ (j + 1) * (s / 2 ^ (j + 1)) + s % 2 ^ (j + 1) := (Nat.div_add_mod _ _).symm
  generalize s / 2 ^ (j + 1) = q at *
  generalize s % 2 ^ (j + 1) = r at *
  have h3 : 2 ^ j + r < 2 ^ (j + 1) := by rw [Nat.pow_succ]; omega
  have h4 := Nat.two_pow_add_eq_or_of_lt hr 1
  rw [Nat.mul_one] at h4
  have h5 := Nat.two_pow_add_eq_or_of_lt h3 q
  have h6 := Nat.two_pow_add_eq_or_of_lt (show r < 2 ^ (j + 1) by omega) q
  rw [hs]
  rw [h6, Nat.or_assoc, Nat.or_comm r, ← h4, ← h5, ← h6]
  omega
theorem seen_step {s j : Nat} (hj : s.testBit j = false) : ∀ n, j < n → seen s j (s ||| 2 ^ j) n + 1 ≤ seen s (j + 1) (s ||| 2 ^ j) n
  | 0, h => by omega
  | n + 1, h => by
    by_cases e : n = j
    · subst e
      unfold seen
      have := seen_mono s n (s ||| 2 ^ n) n
      have hs : s ||| 2 ^ n - 2 ^ n = s ||| 2 ^ n - 2 ^ n := rfl
      have hsub : (s ||| 2 ^ n) - 2 ^ n = s := by rw [or_sub hj]; omega
      rw [hsub, bit_or]
      simp
      omega
    · have ih := seen_step hj n (by omega)
      unfold seen
      by_cases h2 : ((s ||| 2 ^ j).testBit n && (decide ((s ||| 2 ^ j) - 2 ^ n < s) || (decide ((s ||| 2 ^ j) - 2 ^ n = s) && decide (n < j)))) = true
      · have h' : ((s ||| 2 ^ j).testBit n && (decide ((s ||| 2 ^ j) - 2 ^ n < s) || (decide ((s ||| 2 ^ j) - 2 ^ n = s) && decide (n < j + 1)))) = true := by
          simp only [Bool.and_eq_true, Bool.or_eq_true, decide_eq_true_eq] at h2 ⊢
          exact ⟨h2.1, by omega⟩
        rw [if_pos h2, if_pos h']; omega
      · rw [if_neg h2]; split <;> omega
theorem pow_one14 (k : Nat) : (1 : Int) ≤ 14 ^ k := by
  have e : (14 : Int) ^ k = ((14 ^ k : Nat) : Int) := by rw [Int.natCast_pow]; rfl
  have := Nat.pow_pos (n := k) (by decide : 0 < 14)
  rw [e]; omega
/-- what is known of the numbers when set s is at act j -/
structure Small (n s j : Nat) (f : Nat → Int) : Prop where
  zero : f 0 = 1
  nn : ∀ t, 0 ≤ f t
  le : ∀ t, t ≠ 0 → f t * 14 ≤ (seen s j t n : Int) * 14 ^ pc t n
theorem Small.le1 {n s j : Nat} {f : Nat → Int} (h : Small n s j f) (hn : n ≤ 14) (t : Nat) : f t ≤ 14 ^ pc t n := by
  by_cases e : t = 0
  · subst e; rw [h.zero]
    exact pow_one14 _
  · have h1 := h.le t e
    have h2 : (seen s j t n : Int) ≤ 14 := by have := seen_le s j t n; omega
    have h3 : (0 : Int) ≤ 14 ^ pc t n := Int.pow_nonneg (by decide)
    have h4 : (seen s j t n : Int) * 14 ^ pc t n ≤ 14 * 14 ^ pc t n := Int.mul_le_mul_of_nonneg_right h2 h3
    omega
theorem pow14 {k n : Nat} (h : k ≤ n) (hn : n ≤ 14) : (14 : Int) ^ k ≤ 11112006825558016 := by
  have h1 : (14 : Nat) ^ k ≤ 14 ^ 14 := Nat.pow_le_pow_right (by decide) (by omega)
  have h2 : (14 : Nat) ^ 14 = 11112006825558016 := by decide
  rw [h2] at h1
  have e : (14 : Int) ^ k = ((14 ^ k : Nat) : Int) := by rw [Int.natCast_pow]; rfl
  rw [e]
  generalize (14 : Nat) ^ k = z at *
  omega
theorem Small.bound {n s j : Nat} {f : Nat → Int} (h : Small n s j f) (hn : n ≤ 14) (t : Nat) : 0 ≤ f t ∧ f t ≤ 11112006825558016 :=
  ⟨h.nn t, Int.le_trans (h.le1 hn t) (pow14 (pc_le t n) hn)⟩
theorem Small.skip {n s j : Nat} {f : Nat → Int} (h : Small n s j f) : Small n s (j + 1) f :=
  ⟨h.zero, h.nn, fun t ht => Int.le_trans (h.le t ht) (Int.mul_le_mul_of_nonneg_right (by have := seen_mono s j t n; omega) (Int.pow_nonneg (by decide)))⟩
theorem Small.next {n s : Nat} {f : Nat → Int} (h : Small n s n f) : Small n (s + 1) 0 f :=
  ⟨h.zero, h.nn, fun t ht => by rw [seen_next s t n n (Nat.le_refl _)]; exact h.le t ht⟩
theorem Small.step {n s j : Nat} {f : Nat → Int} (h : Small n s j f) (hn : n ≤ 14) (hj : j < n) (hb : s.testBit j = false) : Small n s (j + 1) (fun t => if t = s ||| 2 ^ j then f (s ||| 2 ^ j) + f s else f t) := by
  have hne : s ||| 2 ^ j ≠ 0 := by
    intro e
    have := bit_or s j j
    rw [e] at this
    simp at this
  refine ⟨by rw [if_neg (Ne.symm hne)]; exact h.zero, fun t => ?_, fun t ht => ?_⟩
  · split
    · exact Int.add_nonneg (h.nn _) (h.nn _)
    · exact h.nn t
  · by_cases e : t = s ||| 2 ^ j
    · subst e
      rw [if_pos rfl]
      have h1 := h.le _ ht
      have h2 := h.le1 hn s
      have h3 := seen_step hb n hj
      have h4 := pc_or hb n
      rw [if_pos hj] at h4
      rw [h4, Int.pow_succ] at h1 ⊢
      have h3' : (seen s j (s ||| 2 ^ j) n : Int) + 1 ≤ seen s (j + 1) (s ||| 2 ^ j) n := by omega
      have h5 : (0 : Int) ≤ 14 ^ pc s n * 14 := Int.mul_nonneg (Int.pow_nonneg (by decide)) (by decide)
      have h6 := Int.mul_le_mul_of_nonneg_right h3' h5
      rw [Int.add_mul, Int.one_mul] at h6
      rw [Int.add_mul]
      refine Int.le_trans ?_ h6
      exact Int.add_le_add h1 (Int.mul_le_mul_of_nonneg_right h2 (by decide))
    · rw [if_neg e]; exact h.skip.le t ht
end Go.Proofs.YtccnkebkgegohaaGreatDoor
end
section
namespace Go.Proofs.YtccnkebkgegohaaGreatDoor
open Go Go.Tra
/-! ### how many orders there are: by the program and by the reference -/
theorem and_nat {a b : Nat} (ha : a < 4611686018427387904) (hb : b < 4611686018427387904) : bits .and .i64 (a : Int) (b : Int) = ((a &&& b : Nat) : Int) := by
  show IntKind.i64.wrap ((BitVec.ofInt 64 (a : Int) &&& BitVec.ofInt 64 (b : Int)).toNat : Int) = _
  rw [BitVec.ofInt_natCast, BitVec.ofInt_natCast, BitVec.toNat_and, BitVec.toNat_ofNat, BitVec.toNat_ofNat, Nat.mod_eq_of_lt (by omega), Nat.mod_eq_of_lt (by omega)]
  exact IntWalk.i64_in _ (by have := Nat.and_le_left (n := a) (m := b); omega)
theorem sub_iff {a b : Nat} : (a &&& b = a) ↔ ∀ i, a.testBit i = true → b.testBit i = true := by
  constructor
  · intro h i hi
    have := congrArg (fun z => z.testBit i) h
    simp only [Nat.testBit_and, hi, Bool.true_and] at this
    exact this
  · intro h
    refine Nat.eq_of_testBit_eq fun i => ?_
    rw [Nat.testBit_and]
    cases ha : a.testBit i with
    | false => rfl
    | true => simp [h i ha]
theorem andNot_nat {a b : Nat} (ha : a < 4611686018427387904) (hb : b < 4611686018427387904) : (bits .andNot .i64 (a : Int) (b : Int) == 0) = decide (a &&& b = a) := by
  have hle : (BitVec.ofNat 64 a &&& ~~~ BitVec.ofNat 64 b).toNat ≤ a := by
    rw [BitVec.toNat_and, BitVec.toNat_ofNat]
    exact Nat.le_trans Nat.and_le_left (Nat.mod_le _ _)
  have e : bits .andNot .i64 (a : Int) (b : Int) = ((BitVec.ofNat 64 a &&& ~~~ BitVec.ofNat 64 b).toNat : Int) := by
    show IntKind.i64.wrap ((BitVec.ofInt 64 (a : Int) &&& ~~~ BitVec.ofInt 64 (b : Int)).toNat : Int) = _
    rw [BitVec.ofInt_natCast, BitVec.ofInt_natCast]
    exact IntWalk.i64_in _ (by omega)
  rw [e, Bool.eq_iff_iff, beq_iff_eq, decide_eq_true_eq, sub_iff]
  have hz : ((BitVec.ofNat 64 a &&& ~~~ BitVec.ofNat 64 b).toNat : Int) = 0 ↔ BitVec.ofNat 64 a &&& ~~~ BitVec.ofNat 64 b = 0#64 := by
    rw [show (0 : Int) = ((0 : Nat) : Int) from rfl, Int.ofNat_inj]
    constructor
    · intro h; exact BitVec.eq_of_toNat_eq (by simpa using h)
    · intro h; rw [h]; rfl
  rw [hz]
  have hbit : ∀ (z i : Nat), z < 4611686018427387904 → 62 ≤ i → z.testBit i = false := fun z i hz hi => Nat.testBit_lt_two_pow (Nat.lt_of_lt_of_le (show z < 2 ^ 62 from hz) (Nat.pow_le_pow_right (by decide) hi))
  constructor
  · intro h i hi
    have h64 : i < 62 := by
      rcases Nat.lt_or_ge i 62 with h | h
      · exact h
      · rw [hbit a i ha h] at hi; cases hi
    have := congrArg (fun z => z.getLsbD i) h
    simp only [BitVec.getLsbD_and, BitVec.getLsbD_not, BitVec.getLsbD_ofNat, BitVec.getLsbD_zero, hi, show decide (i < 64) = true by simp; omega, Bool.true_and] at this
    simpa using this
  · intro h
    refine BitVec.eq_of_getLsbD_eq fun i hi => ?_
    simp only [BitVec.getLsbD_and, BitVec.getLsbD_not, BitVec.getLsbD_ofNat, BitVec.getLsbD_zero, show decide (i < 64) = true by simp; omega, Bool.true_and]
    cases ha : a.testBit i with
    | false => simp
    | true => simp [h i ha]
theorem div_bit (s j : Nat) (hs : s < 4611686018427387904) : (decide (bits .and .i64 ((s : Int) / 2 ^ j) 1 = 0)) = !s.testBit j := by
  have e : (s : Int) / 2 ^ j = ((s / 2 ^ j : Nat) : Int) := by simp
  have h1 := and_nat (a := s / 2 ^ j) (b := 1) (Nat.lt_of_le_of_lt (Nat.div_le_self _ _) hs) (by decide)
  rw [e, show (1 : Int) = ((1 : Nat) : Int) from rfl, h1, Nat.and_one_is_mod, Nat.testBit_eq_decide_div_mod_eq]
  rw [Bool.eq_iff_iff]
  simp
  omega
/-- the acts that go ahead, as a set -/
def maskN (p : Nat → Bool) : Nat → Nat
  | 0 => 0
  | k + 1 => maskN p k + (if p k then 2 ^ k else 0)
theorem mask_lt (p : Nat → Bool) : ∀ n, maskN p n < 2 ^ n
  | 0 => Nat.one_pos
  | n + 1 => by
    unfold maskN
    have := mask_lt p n
    rw [Nat.pow_succ]
    split <;> omega
theorem mask_hi (p : Nat → Bool) (n : Nat) : (maskN p n).testBit n = false := Nat.testBit_lt_two_pow (mask_lt p n)
theorem mask_or (p : Nat → Bool) (n : Nat) : maskN p (n + 1) = if p n then maskN p n ||| 2 ^ n else maskN p n := by
  show maskN p n + (if p n then 2 ^ n else 0) = _
  split
  · rw [or_sub (mask_hi p n)]
  · rfl
theorem mask_small (p : Nat → Bool) {n : Nat} (h : n ≤ 61) : maskN p n < 4611686018427387904 := by
  have h1 := mask_lt p n
  have h2 : (2 : Nat) ^ n ≤ 2 ^ 61 := Nat.pow_le_pow_right (by decide) h
  have h3 : (2 : Nat) ^ 61 = 2305843009213693952 := by decide
  omega
theorem mask_fold (p : Nat → Bool) : ∀ n, n ≤ 61 → (((List.range n).filter p).map fun (k : Nat) => (k : Int)).foldl (fun a k => bits .or .i64 a (shl1 k)) 0 = (maskN p n : Int)
  | 0, _ => rfl
  | n + 1, h => by
    rw [List.range_succ, List.filter_append, List.map_append, List.foldl_append, mask_fold p n (by omega), mask_or]
    cases hp : p n with
    | false => simp [hp]
    | true =>
      simp only [hp, List.filter_cons_of_pos, List.filter_nil, List.map_cons, List.map_nil, List.foldl_cons, List.foldl_nil, if_true]
      exact (or_shl (maskN p n) n (by omega) (mask_small p (by omega))).1
theorem outD_range {dep : Nat → Nat → Bool} {i : Nat} : ∀ m, m ≤ i → (outD dep i m).reverse = (((List.range m).map fun t => i - m + t).filter (ahd dep i)).map fun (k : Nat) => (k : Int)
  | 0, _ => rfl
  | m + 1, h => by
    have e : ((List.range (m + 1)).map fun t => i - (m + 1) + t) = (i - (m + 1)) :: ((List.range m).map fun t => i - m + t) := by
      rw [List.range_succ_eq_map, List.map_cons, List.map_map]
      congr 1
      refine List.map_congr_left fun t _ => ?_
      simp only [Function.comp]
      omega
    rw [e]
    unfold outD
    have ih := outD_range (dep := dep) (i := i) m (by omega)
    cases hp : ahd dep i (i - (m + 1)) with
    | false => rw [List.filter_cons_of_neg (by simp [hp])]; simpa using ih
    | true =>
      rw [List.filter_cons_of_pos (by simp [hp])]
      simp only [if_true, List.reverse_append, List.reverse_cons, List.reverse_nil, List.nil_append, List.map_cons, List.cons_append, ih]
theorem needsM_range (dep : Nat → Nat → Bool) (i : Nat) : needsM dep i = ((List.range i).filter (ahd dep i)).map fun (k : Nat) => (k : Int) := by
  have := outD_range (dep := dep) i (Nat.le_refl i)
  unfold needsM
  rw [this]
  congr 2
  rw [Nat.sub_self]
  simp
/-- whether an act stands ahead of another one -/
def aheadR (dep : Nat → Nat → Bool) (i k : Nat) : Bool := ahd dep i k && !(k == i)
theorem aheadR_range (dep : Nat → Nat → Bool) {i n : Nat} (h : i < n) : ((List.range n).filter (aheadR dep i)) = (List.range i).filter (ahd dep i) := by
  obtain ⟨d, rfl⟩ : ∃ d, n = i + d := ⟨n - i, by omega⟩
  rw [List.range_add, List.filter_append]
  have h1 : ((List.range d).map (i + ·)).filter (aheadR dep i) = [] := by
    rw [List.filter_eq_nil_iff]
    intro x hx
    obtain ⟨t, _, rfl⟩ := List.mem_map.1 hx
    unfold aheadR
    by_cases e : t = 0
    · subst e; simp
    · rw [ahd_above (by omega)]; simp
  rw [h1, List.append_nil]
  refine List.filter_congr fun x hx => ?_
  have := List.mem_range.1 hx
  unfold aheadR
  have e : (x == i) = false := by simp; omega
  rw [e]; simp
theorem needsR_eq (dep : Nat → Nat → Bool) {i n : Nat} (h : i < n) : (((List.range n).filter (aheadR dep i)).map fun (k : Nat) => (k : Int)) = needsM dep i := by
  rw [aheadR_range dep h, needsM_range]
theorem ndI_mask (dep : Nat → Nat → Bool) {i n : Nat} (h : i < n) (hn : n ≤ 61) : ndI dep i = (maskN (aheadR dep i) n : Int) := by
  unfold ndI
  rw [← needsR_eq dep h]
  exact mask_fold _ n hn
/-! the reference's numbers -/
def condR (nd : Nat → Nat) (set j : Nat) : Bool := !set.testBit j && decide (nd j &&& set = nd j)
def stepR (nd : Nat → Nat) (set : Nat) (f : Nat → Int) (j : Nat) : Nat → Int := fun t => if condR nd set j = true ∧ t = set ||| 2 ^ j then f (set ||| 2 ^ j) + f set else f t
def inR (nd : Nat → Nat) (set : Nat) (f : Nat → Int) : Nat → (Nat → Int)
  | 0 => f
  | j + 1 => stepR nd set (inR nd set f j) j
def outR (nd : Nat → Nat) (n : Nat) : Nat → (Nat → Int)
  | 0 => fun t => if t = 0 then 1 else 0
  | set + 1 => inR nd set (outR nd n set) n
theorem condW_R {nd : Nat → Int} {ndn : Nat → Nat} {set j : Nat} {z : Int} (hs : set < 4611686018427387904) (h1 : nd j = (ndn j : Int)) (h2 : ndn j < 4611686018427387904) : condW nd set z j = (decide (0 < z) && condR ndn set j) := by
  unfold condW condR
  rw [div_bit set j hs, h1, andNot_nat h2 hs]
theorem small0 (n : Nat) : Small n 0 0 fun t => if t = 0 then 1 else 0 :=
  ⟨rfl, fun t => by split <;> decide, fun t ht => by rw [if_neg ht]; simp; exact Int.mul_nonneg (by omega) (Int.pow_nonneg (by decide))⟩
theorem inR_small {nd : Nat → Nat} {n set : Nat} {f : Nat → Int} (hn : n ≤ 14) (h : Small n set 0 f) : ∀ j, j ≤ n → Small n set j (inR nd set f j)
  | 0, _ => h
  | j + 1, hj => by
    have ih := inR_small (nd := nd) hn h j (by omega)
    unfold inR stepR
    cases hc : condR nd set j with
    | false =>
      have e : (fun t => if false = true ∧ t = set ||| 2 ^ j then inR nd set f j (set ||| 2 ^ j) + inR nd set f j set else inR nd set f j t) = inR nd set f j := by funext t; simp
      rw [e]; exact ih.skip
    | true =>
      have hb : set.testBit j = false := by
        unfold condR at hc
        simp only [Bool.and_eq_true, Bool.not_eq_true'] at hc
        exact hc.1
      have := ih.step hn (by omega) hb
      simpa using this
theorem outR_small {nd : Nat → Nat} {n : Nat} (hn : n ≤ 14) : ∀ set, Small n set 0 (outR nd n set)
  | 0 => small0 n
  | set + 1 => (inR_small hn (outR_small hn set) n (Nat.le_refl _)).next
theorem inR_self {nd : Nat → Nat} {set : Nat} {f : Nat → Int} : ∀ j, inR nd set f j set = f set
  | 0 => rfl
  | j + 1 => by
    unfold inR stepR
    rw [inR_self j]
    rw [if_neg]
    rintro ⟨h1, h2⟩
    unfold condR at h1
    simp only [Bool.and_eq_true, Bool.not_eq_true'] at h1
    have := bit_or set j j
    rw [← h2, h1.1] at this
    simp at this
theorem inW_R {nd : Nat → Int} {ndn : Nat → Nat} {n set : Nat} {f : Nat → Int} (hn : n ≤ 14) (hs : set < 4611686018427387904) (h1 : ∀ j, j < n → nd j = (ndn j : Int)) (h2 : ∀ j, j < n → ndn j < 4611686018427387904) (hf : Small n set 0 f) :
    ∀ j, j ≤ n → inW nd set (f set) f j = inR ndn set f j
  | 0, _ => rfl
  | j + 1, hj => by
    have ih := inW_R hn hs h1 h2 hf j (by omega)
    have hb := (inR_small (nd := ndn) hn hf j (by omega)).bound hn
    unfold inW inR
    rw [ih]
    funext t
    unfold stepW stepR
    rw [condW_R hs (h1 j (by omega)) (h2 j (by omega)), inR_self]
    have e : IntKind.i64.wrap (inR ndn set f j (set ||| 2 ^ j) + f set) = inR ndn set f j (set ||| 2 ^ j) + f set := by
      have a := hb (set ||| 2 ^ j)
      have b := hf.bound hn set
      exact IntWalk.i64_in _ (by omega)
    rw [e]
    cases hc : condR ndn set j with
    | false => simp
    | true =>
      simp only [Bool.and_true, decide_eq_true_eq, true_and]
      by_cases ht : t = set ||| 2 ^ j
      · subst ht
        simp only [and_true, if_true]
        split
        · rfl
        · have := hf.nn set
          omega
      · simp [ht]
theorem outW_R {nd : Nat → Int} {ndn : Nat → Nat} {n : Nat} (hn : n ≤ 14) (h1 : ∀ j, j < n → nd j = (ndn j : Int)) (h2 : ∀ j, j < n → ndn j < 4611686018427387904) : ∀ set, set ≤ 4611686018427387904 → outW nd n set = outR ndn n set
  | 0, _ => rfl
  | set + 1, hs => by
    unfold outW outR
    rw [outW_R hn h1 h2 set (by omega)]
    exact inW_R hn (by omega) h1 h2 (outR_small hn set) n (Nat.le_refl _)
/-- the number of orders, as the reference counts it -/
def ordersR (dep : Nat → Nat → Bool) (n : Nat) : Int := outR (fun i => maskN (aheadR dep i) n) n (2 ^ n) (2 ^ n - 1)
theorem orders_law (dep : Nat → Nat → Bool) {n : Nat} (hn : n ≤ 14) : ordersM dep n = ordersR dep n := by
  unfold ordersM ordersR
  have h2 : (2 : Nat) ^ n ≤ 2 ^ 14 := Nat.pow_le_pow_right (by decide) hn
  have h3 : (2 : Nat) ^ 14 = 16384 := by decide
  rw [outW_R hn (fun j hj => ndI_mask dep hj (by omega)) (fun j hj => mask_small _ (by omega)) (2 ^ n) (by omega)]
end Go.Proofs.YtccnkebkgegohaaGreatDoor
end
section
namespace Go.Proofs.YtccnkebkgegohaaGreatDoor
open Go.RowKit Go.Rel
set_option maxRecDepth 100000
/-! some laws of lists in memory, for the laws that want no more -/
theorem sl_niln {k : Nat} (w : World) : Sl w k (.slice none 0 0) [] := ⟨none, 0, rfl, Nat.le_refl _, by decide, .inl rfl⟩
theorem sl_dropn {w : World} {k i n c : Nat} {a : Option Addr} {xs : List (List Value)} (h : Sl w k (.slice a n c) xs) (hi : i ≤ n) : Sl w k (sliced a i n c k) (xs.drop i) := by
  obtain ⟨a', c', he, h1, h2, h3⟩ := h
  cases he
  have hl : (xs.drop i).length = xs.length - i := by rw [List.length_drop]
  unfold sliced
  refine ⟨_, _, by rw [hl], by rw [hl]; omega, by omega, ?_⟩
  rcases h3 with rfl | ⟨b, off, rfl, h4⟩
  · exact .inl (by simp)
  · by_cases hx : xs.drop i = []
    · exact .inl hx
    · have hlt : i < xs.length := by
        rcases Nat.lt_or_ge i xs.length with h | h
        · exact h
        · exact absurd (List.drop_eq_nil_of_le h) hx
      refine .inr ⟨b, off + i * k, ?_, h4.1, fun p j u hu => ?_⟩
      · simp only [Option.map_some]
        rw [if_neg (by omega), Go.WideShapes.add_plain]
      · obtain ⟨r, hr, hj⟩ := Option.bind_eq_some_iff.1 hu
        rw [List.getElem?_drop] at hr
        have := h4.2 (i + p) j u (by rw [hr]; exact hj)
        rw [show off + i * k + p * k + j = off + (i + p) * k + j by rw [Nat.add_mul]; omega]
        exact this
theorem hv_sl1n {W : World} {g t : Nat} {b : Sol} {p q : Value} (h : Blk W g #[.int .u64 (pl b 0), .int .u64 (pl b 1), .int .u64 (pl b 2), .int .u64 (pl b 3), .int .u64 (pl b 4), .int .u64 (pl b 5), .int .u64 (pl b 6), .int .u64 (pl b 7), p, q] t) : Sl W 10 (.slice (some ⟨g, 0, none⟩) 1 1) ([((b, p, q) : Hv)].map hvL) :=
  Sl.ofBlk h rfl (by decide) (by simp) (by simp)
theorem few1n {g t : Nat} {b : Sol} {p q : Option Addr} {n c k d : Nat} (w : World) (h : Blk w g #[.int .u64 (pl b 0), .int .u64 (pl b 1), .int .u64 (pl b 2), .int .u64 (pl b 3), .int .u64 (pl b 4), .int .u64 (pl b 5), .int .u64 (pl b 6), .int .u64 (pl b 7), .slice p n c, .slice q k d] t) : Calls Tryz.prog 19 #[.slice (some ⟨g, 0, none⟩) 1 1] w fun e w' => e = .returned (.bool (!many k n)) ∧ Below w.heap.size w w' := by
  have := few_spec _ _ w (hv_sl1n h) (by simp)
  simpa [manyH] using this
theorem acs_at {W : World} {q : Option Addr} {n c : Nat} {l : List Ac} {j : Nat} {x : Ac} (h : SlA W (.slice q n c) l) (hx : l[j]? = some x) : ∃ b o, q = some ⟨b, o, none⟩ ∧ Cells W b o 10 (l.map acL) := by
  rcases Sl.cases h with ⟨hl, _⟩ | ⟨b, o, c', he, _, _, _, hc⟩
  · have : l = [] := by simpa using hl
    subst this; cases hx
  · injection he with h1 _ _
    exact ⟨b, o, h1, hc⟩
end Go.Proofs.YtccnkebkgegohaaGreatDoor
end
section
namespace Go.Proofs.YtccnkebkgegohaaGreatDoor
open Go.RowKit Go.Rel
set_option maxRecDepth 100000
/-! the reference's free -/
theorem freeL_apart {l : List Sol} {m : List Ac} {i : Nat} {x : Ac} (hx : m[i]? = some x) : freeL l m i = (m.take i).all fun z => apartB l z x := by
  unfold freeL apartB
  have : atN m i = x := by unfold atN; rw [List.getD_eq_getElem?_getD, hx]; rfl
  rw [this]
set_option maxHeartbeats 4000000 in
theorem free112_main (b : Sol) (p : Option Addr) (n c ab ao k d : Nat) (l : List Sol) (m : List Ac) (i : Nat) (x : Ac) (hx : m[i]? = some x) (F : ∀ z ∈ m, fits l.length z = true) (w : World) (Hv : SlS w (.slice p n c) l) (hcs : Cells w ab ao 10 (m.map acL)) (hk : m.length = k) (hkd : k ≤ d) (hd : d ≤ 9223372036854775807) :
    Calls Tryz.prog 112 #[.agg #[.int .u64 (pl b 0), .int .u64 (pl b 1), .int .u64 (pl b 2), .int .u64 (pl b 3), .int .u64 (pl b 4), .int .u64 (pl b 5), .int .u64 (pl b 6), .int .u64 (pl b 7), .slice p n c], .slice (some ⟨ab, ao, none⟩) k d, .int .i64 (i : Int)] w fun e w' => e = .returned (.bool (freeL l m i)) ∧ Below w.heap.size w w' := by
  rw [freeL_apart hx]
  have hi : i < k := by rw [← hk]; exact (List.getElem?_eq_some_iff.1 hx).1
  have HX := Lib.hid hx
  have hab := hcs.1
  have HCS := Lib.hid hcs
  have HK := Lib.hid hk
  have HH := Lib.hid fun y (hy : y ∈ m) w' (hb : Below w.heap.size w w') => refApart_spec b (.slice p n c) l y x w' (Hv.mono hb) (F y hy) (F x (List.mem_of_getElem? hx))
  clear hcs hk Hv hx F
  generalize hR : ((m.take i).all fun z => apartB l z x) = R
  have HR := Lib.hid hR
  clear hR
  go_enter Tryz.func112, Tryz.ntmps112
  go_wp2_with fail
  have hbe : Below w.heap.size w (w.alloc (.cells (#[.int .u64 (pl b 0), .int .u64 (pl b 1), .int .u64 (pl b 2), .int .u64 (pl b 3), .int .u64 (pl b 4), .int .u64 (pl b 5), .int .u64 (pl b 6), .int .u64 (pl b 7), .slice p n c] : Array Value) 27)) := bel_alloc (bel_refl _) _
  have g0 : Blk (w.alloc (.cells (#[.int .u64 (pl b 0), .int .u64 (pl b 1), .int .u64 (pl b 2), .int .u64 (pl b 3), .int .u64 (pl b 4), .int .u64 (pl b 5), .int .u64 (pl b 6), .int .u64 (pl b 7), .slice p n c] : Array Value) 27)) w.heap.size #[.int .u64 (pl b 0), .int .u64 (pl b 1), .int .u64 (pl b 2), .int .u64 (pl b 3), .int .u64 (pl b 4), .int .u64 (pl b 5), .int .u64 (pl b 6), .int .u64 (pl b 7), .slice p n c] 27 := Blk.new _ _ _
  generalize (w.alloc (.cells (#[.int .u64 (pl b 0), .int .u64 (pl b 1), .int .u64 (pl b 2), .int .u64 (pl b 3), .int .u64 (pl b 4), .int .u64 (pl b 5), .int .u64 (pl b 6), .int .u64 (pl b 7), .slice p n c] : Array Value) 27)) = w0 at *
  go_loopw [7] (fun kv wr => ∃ j : Nat, j ≤ i ∧ kv = .int .i64 j ∧ Hid (((m.take j).all fun z => apartB l z x) = true) ∧ Blk wr w.heap.size #[.int .u64 (pl b 0), .int .u64 (pl b 1), .int .u64 (pl b 2), .int .u64 (pl b 3), .int .u64 (pl b 4), .int .u64 (pl b 5), .int .u64 (pl b 6), .int .u64 (pl b 7), .slice p n c] 27 ∧ Below w.heap.size w wr) (fun kv _ => i - (intOf kv).toNat)
  case atStart => exact ⟨0, Nat.zero_le _, rfl, by show _ = _; simp, g0, hbe⟩
  case round =>
    clear g0 hbe
    obtain ⟨j, hj, rfl, HP, g0, hB⟩ := hrel
    by_cases hlt : j < i
    · have hy : m[j]? = some (m[j]'(by rw [HK.out]; omega)) := by simp
      generalize m[j]'(by rw [HK.out]; omega) = y at hy
      obtain ⟨b0, b1, b2, b3, b4, b5, b6, b7, b8, b9⟩ := ac_cells (HCS.out.mono hB HCS.out.1) hy
      obtain ⟨d0, d1, d2, d3, d4, d5, d6, d7, d8, d9⟩ := ac_cells (HCS.out.mono hB HCS.out.1) HX.out
      have HY := Lib.hid hy
      clear hy
      have c0 := g0.cell
      have l0 := g0.lt
      have hszB := hB.size
      have labr : ab < wr.heap.size := by omega
      obtain ⟨r, hr⟩ : ∃ r, apartB l y x = r := ⟨_, rfl⟩
      have HI : Hid (∀ w', Below w.heap.size w w' → Calls Tryz.prog 102 #[.agg #[.int .u64 (pl b 0), .int .u64 (pl b 1), .int .u64 (pl b 2), .int .u64 (pl b 3), .int .u64 (pl b 4), .int .u64 (pl b 5), .int .u64 (pl b 6), .int .u64 (pl b 7), .slice p n c], .agg #[.int .u8 y.1, .int .i64 y.2.1, .int .u64 (pl y.2.2 0), .int .u64 (pl y.2.2 1), .int .u64 (pl y.2.2 2), .int .u64 (pl y.2.2 3), .int .u64 (pl y.2.2 4), .int .u64 (pl y.2.2 5), .int .u64 (pl y.2.2 6), .int .u64 (pl y.2.2 7)], .agg #[.int .u8 x.1, .int .i64 x.2.1, .int .u64 (pl x.2.2 0), .int .u64 (pl x.2.2 1), .int .u64 (pl x.2.2 2), .int .u64 (pl x.2.2 3), .int .u64 (pl x.2.2 4), .int .u64 (pl x.2.2 5), .int .u64 (pl x.2.2 6), .int .u64 (pl x.2.2 7)]] w' fun e w'' => e = .returned (.bool r) ∧ Below w'.heap.size w' w'') := by
        subst hr; exact Lib.hid fun w' hb => HH.out y (List.mem_of_getElem? HY.out) w' hb
      have HRr := Lib.hid hr
      clear hr
      have hjk : j < k := by omega
      go_wp2_with fail
      refine wp_region_inv Grows (fun _ _ => True) [Is (.agg #[.int .u64 (pl b 0), .int .u64 (pl b 1), .int .u64 (pl b 2), .int .u64 (pl b 3), .int .u64 (pl b 4), .int .u64 (pl b 5), .int .u64 (pl b 6), .int .u64 (pl b 7), .slice p n c]), Is (.slice (some ⟨ab, ao, none⟩) k d), Is (.int .i64 (j : Int)), Is (.pointer (some ⟨ab, ao + j * 10, none⟩)), Is (.agg #[.int .u8 y.1, .int .i64 y.2.1, .int .u64 (pl y.2.2 0), .int .u64 (pl y.2.2 1), .int .u64 (pl y.2.2 2), .int .u64 (pl y.2.2 3), .int .u64 (pl y.2.2 4), .int .u64 (pl y.2.2 5), .int .u64 (pl y.2.2 6), .int .u64 (pl y.2.2 7)]), Is (.slice (some ⟨ab, ao, none⟩) k d), Is (.int .i64 (i : Int)), Is (.pointer (some ⟨ab, ao + i * 10, none⟩)), Is (.agg #[.int .u8 x.1, .int .i64 x.2.1, .int .u64 (pl x.2.2 0), .int .u64 (pl x.2.2 1), .int .u64 (pl x.2.2 2), .int .u64 (pl x.2.2 3), .int .u64 (pl x.2.2 4), .int .u64 (pl x.2.2 5), .int .u64 (pl x.2.2 6), .int .u64 (pl x.2.2 7)]), Is (.bool r), Is (.bool (!r))] (by kernel_rfl) (by kernel_rfl) rfl Grows.refl (fun _ _ _ => Grows.trans) (stable_mem ⟨fun _ _ _ h _ => h, fun _ _ _ h _ => h, fun _ _ _ h _ => h, fun _ _ _ h _ => h, fun _ _ _ h _ => h, fun _ _ _ h _ => h, fun _ _ _ h _ => h, fun _ _ _ h _ => h, fun _ _ _ h _ => h, fun _ _ _ h _ => h, fun _ _ _ h _ => h, trivial⟩) _ (Below.drew (Below.refl _ _)) trivial ?_
      refine inv_cons ?_ (fun v0 => ?_)
      · intro L w1 hat hb hI hF
        have hc := (Grows.cells hb).1
        try simp [factsI, Region.binds, Is] at hF
        go_simp
        try exact Grows.refl _
      refine inv_cons ?_ (fun v1 => ?_)
      · intro L w1 hat hb hI hF
        have hc := (Grows.cells hb).1
        try simp [factsI, Region.binds, Is] at hF
        go_simp
        try exact Grows.refl _
      refine inv_cons ?_ (fun v2 => ?_)
      · intro L w1 hat hb hI hF
        have hc := (Grows.cells hb).1
        try simp [factsI, Region.binds, Is] at hF
        go_simp
        try exact Grows.refl _
      refine inv_cons ?_ (fun v3 => ?_)
      · intro L w1 hat hb hI hF
        have hc := (Grows.cells hb).1
        try simp [factsI, Region.binds, Is] at hF
        go_simp
        try exact Grows.refl _
      refine inv_cons ?_ (fun v4 => ?_)
      · intro L w1 hat hb hI hF
        have hc := (Grows.cells hb).1
        try simp [factsI, Region.binds, Is] at hF
        go_simp
        try exact Grows.refl _
      refine inv_cons ?_ (fun v5 => ?_)
      · intro L w1 hat hb hI hF
        have hc := (Grows.cells hb).1
        try simp [factsI, Region.binds, Is] at hF
        go_simp
        try exact Grows.refl _
      refine inv_cons ?_ (fun v6 => ?_)
      · intro L w1 hat hb hI hF
        have hc := (Grows.cells hb).1
        try simp [factsI, Region.binds, Is] at hF
        go_simp
        try exact Grows.refl _
      refine inv_cons ?_ (fun v7 => ?_)
      · intro L w1 hat hb hI hF
        have hc := (Grows.cells hb).1
        try simp [factsI, Region.binds, Is] at hF
        go_simp
        try exact Grows.refl _
      refine inv_cons ?_ (fun v8 => ?_)
      · intro L w1 hat hb hI hF
        have hc := (Grows.cells hb).1
        try simp [factsI, Region.binds, Is] at hF
        go_simp
        try exact Grows.refl _
      refine inv_cons ?_ (fun v9 => ?_)
      · intro L w1 hat hb hI hF
        have hc := (Grows.cells hb).1
        try simp [factsI, Region.binds, Is] at hF
        go_simp
        refine (HI.out _ (bel_trans hB hb)).mono ?_
        rintro e w2 ⟨rfl, hb2⟩
        exact ⟨rfl, hb2⟩
      refine inv_cons ?_ (fun v10 => ?_)
      · intro L w1 hat hb hI hF
        have hc := (Grows.cells hb).1
        try simp [factsI, Region.binds, Is] at hF
        go_simp
        try exact Grows.refl _
      refine inv_nil ?_
      intro w1 hb hI hF
      simp [Is, Nat.forall_lt_succ_right] at hF
      have e0 := hF.1.1.1.1.1.1.1.1.1.1
      have e1 := hF.1.1.1.1.1.1.1.1.1.2
      have e2 := hF.1.1.1.1.1.1.1.1.2
      have e3 := hF.1.1.1.1.1.1.1.2
      have e4 := hF.1.1.1.1.1.1.2
      have e5 := hF.1.1.1.1.1.2
      have e6 := hF.1.1.1.1.2
      have e7 := hF.1.1.1.2
      have e8 := hF.1.1.2
      have e9 := hF.1.2
      have e10 := hF.2
      clear hF
      simp only [Act.put, List.setIfInBounds_toArray, List.set_cons_succ, List.set_cons_zero, e0, e1, e2, e3, e4, e5, e6, e7, e8, e9, e10]
      clear e0 e1 e2 e3 e4 e5 e6 e7 e8 e9 e10
      have hB2 := bel_trans hB hb
      have g0' := g0.grow hb
      clear g0 hB b0 b1 b2 b3 b4 b5 b6 b7 b8 b9 d0 d1 d2 d3 d4 d5 d6 d7 d8 d9 c0 l0 hb
      have hs : ((m.take (j + 1)).all fun z => apartB l z x) = r := by
        rw [List.take_add_one, HY.out, List.all_append, HP.out]; simp [HRr.out]
      cases r with
      | true =>
        go_wp2_with fail
        go_roundw
        case rel => exact ⟨j + 1, by omega, by go_num, hs, g0', hB2⟩
        case measure => simp [intOf]; omega
      | false =>
        have hRf : R = false := by
          rw [← HR.out, Bool.eq_false_iff]
          intro ht
          rw [Bool.eq_false_iff] at hs
          refine hs (List.all_eq_true.2 fun z hz => List.all_eq_true.1 ht z ?_)
          exact (List.take_sublist_take_left (show j + 1 ≤ i by omega)).subset hz
        subst hRf
        go_wp2_with fail
        refine bodyPost_ret (v := .bool false) (by simp [results, Tryz.results112, go_sem]) rfl ⟨rfl, hB2⟩
    · have hji : j = i := by omega
      subst hji
      have hRt : R = true := HR.out.symm.trans HP.out
      subst hRt
      go_wp2_with fail
      refine bodyPost_ret (v := .bool true) (by simp [results, Tryz.results112, go_sem]) rfl ⟨rfl, hB⟩
theorem free112_spec (b : Sol) (v av : Value) (l : List Sol) (m : List Ac) (i : Nat) (hi : i < m.length) (F : ∀ z ∈ m, fits l.length z = true) (w : World) (Hv : SlS w v l) (Hav : SlA w av m) :
    Calls Tryz.prog 112 #[.agg #[.int .u64 (pl b 0), .int .u64 (pl b 1), .int .u64 (pl b 2), .int .u64 (pl b 3), .int .u64 (pl b 4), .int .u64 (pl b 5), .int .u64 (pl b 6), .int .u64 (pl b 7), v], av, .int .i64 (i : Int)] w fun e w' => e = .returned (.bool (freeL l m i)) ∧ Below w.heap.size w w' := by
  have Hv' := Hv
  have Hav' := Hav
  obtain ⟨p, c, rfl, _, _⟩ := Hv'
  obtain ⟨q, d, rfl, hkd, hd, _⟩ := Hav'
  have hx : m[i]? = some m[i] := by simp [hi]
  obtain ⟨ab, ao, rfl, hcs⟩ := acs_at Hav hx
  exact free112_main b p _ c ab ao _ d l m i _ hx F w Hv hcs (List.length_map ..).symm hkd hd
end Go.Proofs.YtccnkebkgegohaaGreatDoor
end
