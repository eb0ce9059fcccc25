import Derived.Test.YtkfimbonmnoglaaGreatDoorB01
/-
  Given contracts of functions of the program, and laws for them, one behind the other.
-/
set_option linter.unusedVariables false
set_option linter.unusedSimpArgs false
set_option linter.unusedSectionVars false
section
namespace Go.Draw
set_option maxRecDepth 10000
theorem mkS_bit (f : Nat → U) (k i : Nat) (hk : k < 8) (hi : i < 64) : (mkS f).getLsbD (64 * k + i) = (f k).getLsbD i := by
 have := congrArg (fun v => v.getLsbD i) (plv_mkS f k hk)
 simp only [plv, BitVec.getLsbD_extractLsb', hi, decide_true, Bool.true_and] at this
 exact this
theorem plv_bit (s : Sol) (k i : Nat) (hi : i < 64) : (plv s k).getLsbD i = s.getLsbD (64 * k + i) := by
 simp only [plv, BitVec.getLsbD_extractLsb', hi, decide_true, Bool.true_and]
def has (s : Sol) (x y z : Int) : Bool := decide (0 ≤ x ∧ x ≤ 7 ∧ 0 ≤ y ∧ y ≤ 7 ∧ 0 ≤ z ∧ z ≤ 7) && s.getLsbD (64 * z + 8 * y + x).toNat
theorem has_bit (s : Sol) (n : Nat) (hn : n < 512) : has s (n % 8 : Nat) (n / 8 % 8 : Nat) (n / 64 : Nat) = s.getLsbD n := by
 unfold has
 rw [decide_eq_true (by omega), Bool.true_and]
 congr 1
 omega
theorem hiX_bit : ∀ j, j < 64 → hiXP.getLsbD j = (j % 8 == 7) := by decide
theorem lowX_bit : ∀ j, j < 64 → lowXP.getLsbD j = (j % 8 == 0) := by decide
theorem lowY_bit : ∀ j, j < 64 → (0xff#64).getLsbD j = decide (j < 8) := by decide
theorem on1 (p : U) (i : Nat) (hi : i < 64) : (onP 1 p).getLsbD i = (decide (i % 8 ≠ 0) && p.getLsbD (i - 1)) := by
 rw [show onP 1 p = (p &&& ~~~hiXP) <<< 1 from rfl]
 rw [BitVec.getLsbD_shiftLeft, BitVec.getLsbD_and, BitVec.getLsbD_not, hiX_bit _ (by omega)]
 by_cases h : i % 8 = 0
 ·by_cases h0 : i < 1
  ·simp [h, h0]
  ·have : (i - 1) % 8 = 7 := by omega
   simp [h, this]
 ·have h1 : ¬ i < 1 := by omega
  have : (i - 1) % 8 ≠ 7 := by omega
  simp [h, h1, hi, this, show i - 1 < 64 by omega]
theorem on2 (p : U) (i : Nat) (hi : i < 64) : (onP 2 p).getLsbD i = (decide (8 ≤ i) && p.getLsbD (i - 8)) := by
 rw [show onP 2 p = p <<< 8 from rfl]
 rw [BitVec.getLsbD_shiftLeft]
 by_cases h : 8 ≤ i
 ·simp [hi, h, show ¬ i < 8 by omega]
 ·simp [hi, h, show i < 8 by omega]
theorem on3 (p : U) (i : Nat) (hi : i < 64) : (onP 3 p).getLsbD i = (decide (i % 8 ≠ 7) && p.getLsbD (i + 1)) := by
 rw [show onP 3 p = (p &&& ~~~lowXP) >>> 1 from rfl]
 rw [BitVec.getLsbD_ushiftRight, BitVec.getLsbD_and, BitVec.getLsbD_not, show 1 + i = i + 1 by omega]
 by_cases h : i = 63
 ·subst h; simp
 ·rw [lowX_bit _ (by omega)]
  by_cases h : i % 8 = 7
  ·have : (i + 1) % 8 = 0 := by omega
   simp [h, this]
  ·have : (i + 1) % 8 ≠ 0 := by omega
   simp [h, this, show i + 1 < 64 by omega]
theorem on4 (p : U) (i : Nat) : (onP 4 p).getLsbD i = p.getLsbD (i + 8) := by
 rw [show onP 4 p = p >>> 8 from rfl]
 rw [BitVec.getLsbD_ushiftRight, show 8 + i = i + 8 by omega]
theorem zero_bits (p : U) : p = 0 ↔ ∀ i, i < 64 → p.getLsbD i = false := by
 constructor
 ·rintro rfl i _; simp
 ·intro h
  apply BitVec.eq_of_getLsbD_eq
  intro i hi
  rw [h i hi]; simp
theorem off1 (p : U) : offP 1 p = 0 ↔ ∀ i, i < 64 → i % 8 = 7 → p.getLsbD i = false := by
 rw [show offP 1 p = p &&& hiXP from rfl, zero_bits]
 constructor
 ·intro h i hi h7
  have := h i hi
  rw [BitVec.getLsbD_and, hiX_bit _ hi] at this
  simpa [h7] using this
 ·intro h i hi
  rw [BitVec.getLsbD_and, hiX_bit _ hi]
  by_cases h7 : i % 8 = 7
  ·simp [h i hi h7]
  ·simp [h7]
theorem off2 (p : U) : offP 2 p = 0 ↔ ∀ i, i < 64 → 56 ≤ i → p.getLsbD i = false := by
 rw [show offP 2 p = p >>> 56 from rfl, zero_bits]
 constructor
 ·intro h i hi h7
  have := h (i - 56) (by omega)
  rw [BitVec.getLsbD_ushiftRight] at this
  rwa [show 56 + (i - 56) = i by omega] at this
 ·intro h i hi
  rw [BitVec.getLsbD_ushiftRight]
  by_cases h7 : 56 + i < 64
  ·exact h _ h7 (by omega)
  ·exact BitVec.getLsbD_of_ge _ _ (by omega)
theorem off3 (p : U) : offP 3 p = 0 ↔ ∀ i, i < 64 → i % 8 = 0 → p.getLsbD i = false := by
 rw [show offP 3 p = p &&& lowXP from rfl, zero_bits]
 constructor
 ·intro h i hi h7
  have := h i hi
  rw [BitVec.getLsbD_and, lowX_bit _ hi] at this
  simpa [h7] using this
 ·intro h i hi
  rw [BitVec.getLsbD_and, lowX_bit _ hi]
  by_cases h7 : i % 8 = 0
  ·simp [h i hi h7]
  ·simp [h7]
theorem off4 (p : U) : offP 4 p = 0 ↔ ∀ i, i < 64 → i < 8 → p.getLsbD i = false := by
 rw [show offP 4 p = p &&& 0xff#64 from rfl, zero_bits]
 constructor
 ·intro h i hi h7
  have := h i hi
  rw [BitVec.getLsbD_and, lowY_bit _ hi] at this
  simpa [h7] using this
 ·intro h i hi
  rw [BitVec.getLsbD_and, lowY_bit _ hi]
  by_cases h7 : i < 8
  ·simp [h i hi h7]
  ·simp [h7]
def dxS : Nat → Int | 1 => 1 | 3 => -1 | _ => 0
def dyS : Nat → Int | 2 => 1 | 4 => -1 | _ => 0
theorem or_zero (a b : U) : a ||| b = 0 ↔ a = 0 ∧ b = 0 := by
 constructor
 ·intro h
  constructor <;>
  ·rw [zero_bits]; intro i hi
   have := congrArg (fun v => v.getLsbD i) h
   simp at this
   have h2 := this
   simp [hi] at h2
   first | (simp [hi]; exact h2.1) | (simp [hi]; exact h2.2)
 ·rintro ⟨rfl, rfl⟩; simp
theorem inS_iff (side : Nat) (b : Sol) : inS side b = true ↔ ∀ k, k < 8 → offP side (plv b k) = 0 := by
 unfold inS orP
 rw [beq_iff_eq]
 simp only [or_zero]
 constructor
 ·rintro ⟨⟨⟨⟨⟨⟨⟨h0, h1⟩, h2⟩, h3⟩, h4⟩, h5⟩, h6⟩, h7⟩ k hk
  obtain rfl | rfl | rfl | rfl | rfl | rfl | rfl | rfl : k = 0 ∨ k = 1 ∨ k = 2 ∨ k = 3 ∨ k = 4 ∨ k = 5 ∨ k = 6 ∨ k = 7 := by omega
  all_goals assumption
 ·intro h
  have h0 := h 0 (by omega)
  have h1 := h 1 (by omega)
  have h2 := h 2 (by omega)
  have h3 := h 3 (by omega)
  have h4 := h 4 (by omega)
  have h5 := h 5 (by omega)
  have h6 := h 6 (by omega)
  have h7 := h 7 (by omega)
  clear h
  simp only [h0, h1, h2, h3, h4, h5, h6, h7, and_self]
/-- the cells of a body that has gone one cell further -/
theorem step_bit (side : Nat) (hs : 1 ≤ side ∧ side ≤ 4) (b : Sol) (n : Nat) (hn : n < 512) : (stepS side b).getLsbD n = has b ((n % 8 : Nat) - dxS side) ((n / 8 % 8 : Nat) - dyS side) (n / 64 : Nat) := by
 have e : n = 64 * (n / 64) + n % 64 := by omega
 have hk : n / 64 < 8 := by omega
 have hi : n % 64 < 64 := by omega
 have h8 : n % 64 % 8 = n % 8 := by omega
 have e0 : (stepS side b).getLsbD n = (onP side (plv b (n / 64))).getLsbD (n % 64) := by
  conv => lhs; rw [e]
  unfold stepS mapS
  rw [mkS_bit _ _ _ hk hi]
 rw [e0]
 unfold has
 obtain rfl | rfl | rfl | rfl : side = 1 ∨ side = 2 ∨ side = 3 ∨ side = 4 := by omega
 ·rw [on1 _ _ hi]
  simp only [dxS, dyS]
  by_cases h : n % 8 = 0
  ·rw [decide_eq_false (by omega : ¬ (n % 64 % 8 ≠ 0)), decide_eq_false (by omega)]; simp
  ·rw [decide_eq_true (by omega : n % 64 % 8 ≠ 0), decide_eq_true (by omega), Bool.true_and, Bool.true_and, plv_bit _ _ _ (by omega)]
   congr 1; omega
 ·rw [on2 _ _ hi]
  simp only [dxS, dyS]
  by_cases h : 8 ≤ n % 64
  ·rw [decide_eq_true h, decide_eq_true (by omega), Bool.true_and, Bool.true_and, plv_bit _ _ _ (by omega)]
   congr 1; omega
  ·rw [decide_eq_false h, decide_eq_false (by omega)]; simp
 ·rw [on3 _ _ hi]
  simp only [dxS, dyS]
  by_cases h : n % 8 = 7
  ·rw [decide_eq_false (by omega : ¬ (n % 64 % 8 ≠ 7)), decide_eq_false (by omega)]; simp
  ·rw [decide_eq_true (by omega : n % 64 % 8 ≠ 7), decide_eq_true (by omega), Bool.true_and, Bool.true_and, plv_bit _ _ _ (by omega)]
   congr 1; omega
 ·rw [on4]
  simp only [dxS, dyS]
  by_cases h : n % 64 + 8 < 64
  ·rw [decide_eq_true (by omega), Bool.true_and, plv_bit _ _ _ (by omega)]
   congr 1; omega
  ·rw [decide_eq_false (by omega), BitVec.getLsbD_of_ge _ _ (by omega)]; simp
/-- a body leaves the grid exactly if a cell does -/
theorem in_iff (side : Nat) (hs : 1 ≤ side ∧ side ≤ 4) (b : Sol) : inS side b = true ↔ ∀ n, n < 512 → b.getLsbD n = true → 0 ≤ ((n % 8 : Nat) : Int) + dxS side ∧ ((n % 8 : Nat) : Int) + dxS side ≤ 7 ∧ 0 ≤ ((n / 8 % 8 : Nat) : Int) + dyS side ∧ ((n / 8 % 8 : Nat) : Int) + dyS side ≤ 7 := by
 rw [inS_iff]
 have key : ∀ (q : Nat → Prop), (∀ k, k < 8 → ∀ i, i < 64 → q i → (plv b k).getLsbD i = false) ↔ ∀ n, n < 512 → b.getLsbD n = true → ¬ q (n % 64) := by
  intro q
  constructor
  ·intro h n hn hb hq
   have := h (n / 64) (by omega) (n % 64) (by omega) hq
   rw [plv_bit _ _ _ (by omega), show 64 * (n / 64) + n % 64 = n by omega, hb] at this
   cases this
  ·intro h k hk i hi hq
   rw [plv_bit _ _ _ hi]
   cases hb : b.getLsbD (64 * k + i)
   ·rfl
   ·exact absurd (show q ((64 * k + i) % 64) by rw [show (64 * k + i) % 64 = i by omega]; exact hq) (h _ (by omega) hb)
 obtain rfl | rfl | rfl | rfl : side = 1 ∨ side = 2 ∨ side = 3 ∨ side = 4 := by omega
 ·simp only [off1, key (fun i => i % 8 = 7), dxS, dyS]
  constructor
  ·intro h n hn hb; have := h n hn hb; omega
  ·intro h n hn hb; have := h n hn hb; omega
 ·simp only [off2, key (fun i => 56 ≤ i), dxS, dyS]
  constructor
  ·intro h n hn hb; have := h n hn hb; omega
  ·intro h n hn hb; have := h n hn hb; omega
 ·simp only [off3, key (fun i => i % 8 = 0), dxS, dyS]
  constructor
  ·intro h n hn hb; have := h n hn hb; omega
  ·intro h n hn hb; have := h n hn hb; omega
 ·simp only [off4, key (fun i => i < 8), dxS, dyS]
  constructor
  ·intro h n hn hb; have := h n hn hb; omega
  ·intro h n hn hb; have := h n hn hb; omega
theorem up_bit (b : Sol) (n : Nat) (hn : n < 512) : (upS b).getLsbD n = (decide (64 ≤ n) && b.getLsbD (n - 64)) := by
 have e : n = 64 * (n / 64) + n % 64 := by omega
 have e0 : (upS b).getLsbD n = (if n / 64 = 0 then 0 else plv b (n / 64 - 1) : U).getLsbD (n % 64) := by
  conv => lhs; rw [e]
  unfold upS
  rw [mkS_bit _ _ _ (by omega) (by omega)]
 rw [e0]
 by_cases h : n / 64 = 0
 ·rw [if_pos h, decide_eq_false (by omega)]; simp
 ·rw [if_neg h, decide_eq_true (by omega), plv_bit _ _ _ (by omega), Bool.true_and]
  congr 1; omega
end Go.Draw
end
section
namespace Go.Draw
set_option maxRecDepth 10000
/-- the cells of s, a cells to the side and u up, are those of b -/
def At (s : Sol) (side a u : Nat) (b : Sol) : Prop := ∀ n, n < 512 → b.getLsbD n = has s ((n % 8 : Nat) - dxS side * a) ((n / 8 % 8 : Nat) - dyS side * a) ((n / 64 : Nat) - (u : Int))
def NL (s : Sol) (side a : Nat) : Prop := ∀ n, n < 512 → s.getLsbD n = true → 0 ≤ ((n % 8 : Nat) : Int) + dxS side * a ∧ ((n % 8 : Nat) : Int) + dxS side * a ≤ 7 ∧ 0 ≤ ((n / 8 % 8 : Nat) : Int) + dyS side * a ∧ ((n / 8 % 8 : Nat) : Int) + dyS side * a ≤ 7
theorem At.zero (s : Sol) (side : Nat) : At s side 0 0 s := by
 intro n hn
 have := has_bit s n hn
 simpa using this.symm
theorem has_out (s : Sol) (x y z : Int) (h : ¬ (0 ≤ x ∧ x ≤ 7 ∧ 0 ≤ y ∧ y ≤ 7 ∧ 0 ≤ z ∧ z ≤ 7)) : has s x y z = false := by
 unfold has; rw [decide_eq_false h]; simp
theorem has_in (s : Sol) (x y z : Int) (h : 0 ≤ x ∧ x ≤ 7 ∧ 0 ≤ y ∧ y ≤ 7 ∧ 0 ≤ z ∧ z ≤ 7) : has s x y z = s.getLsbD (64 * z + 8 * y + x).toNat := by
 unfold has; rw [decide_eq_true h]; simp
theorem At.has {s b : Sol} {side a u : Nat} (h : At s side a u b) (x y z : Int) (hr : 0 ≤ x ∧ x ≤ 7 ∧ 0 ≤ y ∧ y ≤ 7 ∧ 0 ≤ z ∧ z ≤ 7) : Go.Draw.has b x y z = Go.Draw.has s (x - dxS side * a) (y - dyS side * a) (z - u) := by
 rw [has_in _ _ _ _ hr, h _ (by omega)]
 congr 1
 ·omega
 ·omega
 ·omega
theorem At.step {s b : Sol} {side a : Nat} (hs : 1 ≤ side ∧ side ≤ 4) (h : At s side a 0 b) : At s side (a + 1) 0 (stepS side b) := by
 intro n hn
 rw [step_bit side hs b n hn]
 by_cases hr : 0 ≤ ((n % 8 : Nat) : Int) - dxS side ∧ ((n % 8 : Nat) : Int) - dxS side ≤ 7 ∧ 0 ≤ ((n / 8 % 8 : Nat) : Int) - dyS side ∧ ((n / 8 % 8 : Nat) : Int) - dyS side ≤ 7
 ·rw [h.has _ _ _ ⟨hr.1, hr.2.1, hr.2.2.1, hr.2.2.2, by omega, by omega⟩]
  obtain rfl | rfl | rfl | rfl : side = 1 ∨ side = 2 ∨ side = 3 ∨ side = 4 := by omega
  all_goals
   simp only [dxS, dyS]
   congr 1 <;> omega
 ·rw [has_out _ _ _ _ (by omega), has_out]
  obtain rfl | rfl | rfl | rfl : side = 1 ∨ side = 2 ∨ side = 3 ∨ side = 4 := by omega
  all_goals
   simp only [dxS, dyS] at hr ⊢
   omega
theorem At.in {s b : Sol} {side a : Nat} (hs : 1 ≤ side ∧ side ≤ 4) (h : At s side a 0 b) (hN : NL s side a) : inS side b = true ↔ NL s side (a + 1) := by
 rw [in_iff side hs]
 constructor
 ·intro H n hn hb
  have h0 := hN n hn hb
  generalize hx : (((n % 8 : Nat) : Int) + dxS side * a).toNat = x'
  generalize hy : (((n / 8 % 8 : Nat) : Int) + dyS side * a).toNat = y'
  have ex : ((x' : Nat) : Int) = ((n % 8 : Nat) : Int) + dxS side * a := by omega
  have ey : ((y' : Nat) : Int) = ((n / 8 % 8 : Nat) : Int) + dyS side * a := by omega
  have hn' : 64 * (n / 64) + 8 * y' + x' < 512 := by omega
  have m1 : (64 * (n / 64) + 8 * y' + x') % 8 = x' := by omega
  have m2 : (64 * (n / 64) + 8 * y' + x') / 8 % 8 = y' := by omega
  have m3 : (64 * (n / 64) + 8 * y' + x') / 64 = n / 64 := by omega
  have hb' : b.getLsbD (64 * (n / 64) + 8 * y' + x') = true := by
   rw [h _ hn', m1, m2, m3, ex, ey]
   have := has_bit s n hn
   rw [hb] at this
   rw [← this]
   congr 1 <;> omega
  have := H _ hn' hb'
  rw [m1, m2, ex, ey] at this
  obtain rfl | rfl | rfl | rfl : side = 1 ∨ side = 2 ∨ side = 3 ∨ side = 4 := by omega
  all_goals
   simp only [dxS, dyS] at this ⊢
   omega
 ·intro H n hn hb
  rw [h n hn] at hb
  by_cases hr : 0 ≤ ((n % 8 : Nat) : Int) - dxS side * a ∧ ((n % 8 : Nat) : Int) - dxS side * a ≤ 7 ∧ 0 ≤ ((n / 8 % 8 : Nat) : Int) - dyS side * a ∧ ((n / 8 % 8 : Nat) : Int) - dyS side * a ≤ 7 ∧ (0 : Int) ≤ ((n / 64 : Nat) : Int) - ((0 : Nat) : Int) ∧ ((n / 64 : Nat) : Int) - ((0 : Nat) : Int) ≤ 7
  ·rw [has_in _ _ _ _ hr] at hb
   have := H _ (by omega) hb
   generalize hx : ((n % 8 : Nat) : Int) - dxS side * a = X at *
   generalize hy : ((n / 8 % 8 : Nat) : Int) - dyS side * a = Y at *
   have q1 : (((64 * (((n / 64 : Nat) : Int) - ((0 : Nat) : Int)) + 8 * Y + X).toNat % 8 : Nat) : Int) = X := by omega
   have q2 : (((64 * (((n / 64 : Nat) : Int) - ((0 : Nat) : Int)) + 8 * Y + X).toNat / 8 % 8 : Nat) : Int) = Y := by omega
   rw [q1, q2] at this
   obtain rfl | rfl | rfl | rfl : side = 1 ∨ side = 2 ∨ side = 3 ∨ side = 4 := by omega
   all_goals
    simp only [dxS, dyS] at this hx hy ⊢
    omega
  ·rw [has_out _ _ _ _ hr] at hb; cases hb
theorem At.up {s b : Sol} {side a u : Nat} (h : At s side a u b) : At s side a (u + 1) (upS b) := by
 intro n hn
 rw [up_bit b n hn]
 by_cases h64 : 64 ≤ n
 ·rw [decide_eq_true h64, Bool.true_and, h _ (by omega)]
  congr 1
  ·omega
  ·omega
  ·omega
 ·rw [decide_eq_false h64, has_out]
  ·rfl
  ·omega
end Go.Draw
end
section
namespace Go.Draw
set_option maxRecDepth 10000
theorem bit_bit (k i : Nat) (hk : k < 64) : (bit k).getLsbD i = decide (i = k) := by
 unfold bit
 rw [BitVec.getLsbD_shiftLeft, BitVec.getLsbD_one]
 by_cases h : i = k
 ·subst h; simp [hk]
 ·simp only [h, decide_false]
  by_cases h2 : i < k
  ·simp [h2]
  ·have : i - k ≠ 0 := by omega
   simp [this]
end Go.Draw
end
section
namespace Go.Draw
set_option maxRecDepth 10000
def Sub (G G' : U) : Prop := ∀ i, G.getLsbD i = true → G'.getLsbD i = true
theorem Sub.refl (G : U) : Sub G G := fun _ h => h
theorem Sub.trans {A B C : U} (h : Sub A B) (k : Sub B C) : Sub A C := fun i hi => k i (h i hi)
theorem or_bit (A : U) (p i : Nat) (hp : p < 64) : (A ||| bit p).getLsbD i = (A.getLsbD i || decide (i = p)) := by rw [BitVec.getLsbD_or, bit_bit p i hp]
section
variable (can : Nat → U → Bool)
/-- sets that come first -/
inductive Fe : U → Prop
 | zero : Fe 0
 | add {G : U} {p : Nat} : Fe G → p < 64 → G.getLsbD p = false → can p G = true → Fe (G ||| bit p)
def Mono : Prop := ∀ p G G', Sub G G' → can p G = true → can p G' = true
variable {can}
/-- whatever has gone: of a set that comes first and has not gone whole, one more can go -/
theorem Fe.next (hM : Mono can) {S : U} (h : Fe can S) (G : U) : Sub S G ∨ ∃ p, p < 64 ∧ S.getLsbD p = true ∧ G.getLsbD p = false ∧ can p G = true := by
 induction h with
 | zero => exact .inl fun i hi => by simp at hi
 | @add A p hA hp hn hc ih =>
  rcases ih with h | ⟨q, hq, h1, h2, h3⟩
  ·cases hg : G.getLsbD p
   ·exact .inr ⟨p, hp, by rw [or_bit _ _ _ hp]; simp, hg, hM p A G h hc⟩
   ·refine .inl fun i hi => ?_
    rw [or_bit _ _ _ hp, Bool.or_eq_true] at hi
    rcases hi with hi | hi
    ·exact h i hi
    ·have : i = p := by simpa using hi
     rw [this]; exact hg
  ·exact .inr ⟨q, hq, by rw [or_bit _ _ _ hp, h1]; rfl, h2, h3⟩
end
def cardU (s : U) : Nat := (listU s).length
end Go.Draw
end
section
namespace Go.Draw
set_option maxRecDepth 10000
theorem low_mod (n k : Nat) (h1 : n.testBit k = true) (h0 : ∀ j, j < k → n.testBit j = false) : n % 2 ^ (k + 1) = 2 ^ k := by
 apply Nat.eq_of_testBit_eq
 intro j
 rw [Nat.testBit_mod_two_pow, Nat.testBit_two_pow]
 by_cases e : j = k
 ·subst e; simp [h1]
 ·by_cases h : j < k
  ·simp [h0 j h, show ¬ k = j by omega]
  ·simp [show ¬ j < k + 1 by omega, show ¬ k = j by omega]
theorem sub1_testBit (n k : Nat) (h1 : n.testBit k = true) (h0 : ∀ j, j < k → n.testBit j = false) (i : Nat) : (n - 1).testBit i = if i < k then true else if i = k then false else n.testBit i := by
 have hm := low_mod n k h1 h0
 have hp : 0 < 2 ^ k := Nat.two_pow_pos k
 obtain ⟨q, hq⟩ : ∃ q, q = n / 2 ^ (k + 1) := ⟨_, rfl⟩
 have e1 : n = 2 ^ (k + 1) * q + 2 ^ k := by rw [hq, ← hm]; exact (Nat.div_add_mod n _).symm
 have hlt : 2 ^ k - 1 < 2 ^ (k + 1) := by rw [Nat.pow_succ]; omega
 have hlt2 : 2 ^ k < 2 ^ (k + 1) := by rw [Nat.pow_succ]; omega
 have e2 : n - 1 = 2 ^ (k + 1) * q + (2 ^ k - 1) := by omega
 rw [e2, Nat.testBit_two_pow_mul_add _ hlt]
 conv => rhs; rw [e1]
 rw [Nat.testBit_two_pow_mul_add _ hlt2]
 by_cases h : i < k
 ·simp [h, show i < k + 1 by omega, Nat.testBit_two_pow_sub_one]
 ·by_cases e : i = k
  ·subst e; simp [Nat.testBit_two_pow_sub_one]
  ·simp [h, e, show ¬ i < k + 1 by omega]
/-- the least piece of a set -/
def lowU (p : U) : Nat := ((List.range 64).find? fun i => p.getLsbD i).getD 0
theorem lowU_spec (p : U) (h : p ≠ 0) : lowU p < 64 ∧ p.getLsbD (lowU p) = true ∧ ∀ j, j < lowU p → p.getLsbD j = false := by
 unfold lowU
 cases hf : (List.range 64).find? fun i => p.getLsbD i with
 | none =>
  exfalso; apply h
  rw [zero_bits]
  intro i hi
  have := List.find?_eq_none.1 hf i (List.mem_range.2 hi)
  simpa using this
 | some k =>
  obtain ⟨h1, i, hi, hik, hj⟩ := List.find?_eq_some_iff_getElem.1 hf
  have e : i = k := by simpa using hik
  subst e
  refine ⟨by simpa using hi, by simpa using h1, fun j hjl => ?_⟩
  have := hj j hjl
  simpa using this
theorem sub1_toNat (p : U) (h : p ≠ 0) : 1 ≤ p.toNat ∧ (p - 1).toNat = p.toNat - 1 := by
 have hp : 1 ≤ p.toNat := by
  apply Classical.byContradiction
  intro hn
  apply h
  apply BitVec.eq_of_toNat_eq
  have : p.toNat = 0 := by omega
  rw [this]; rfl
 refine ⟨hp, ?_⟩
 rw [BitVec.toNat_sub]
 have := p.isLt
 show (2 ^ 64 - 1 + p.toNat) % 2 ^ 64 = _
 omega
theorem sub1_bit (p : U) (h : p ≠ 0) (i : Nat) (hi : i < 64) : (p - 1).getLsbD i = if i < lowU p then true else if i = lowU p then false else p.getLsbD i := by
 obtain ⟨hk, h1, h0⟩ := lowU_spec p h
 obtain ⟨hp, e⟩ := sub1_toNat p h
 have : (p - 1).getLsbD i = (p.toNat - 1).testBit i := by rw [← e]; rfl
 rw [this, sub1_testBit p.toNat (lowU p) h1 h0]
 rfl
theorem drop_low (p : U) (h : p ≠ 0) (i : Nat) : (p &&& (p - 1)).getLsbD i = (p.getLsbD i && i != lowU p) := by
 obtain ⟨hk, h1, h0⟩ := lowU_spec p h
 by_cases hi : i < 64
 ·rw [BitVec.getLsbD_and, sub1_bit p h i hi]
  by_cases a : i < lowU p
  ·rw [h0 i a]; simp
  ·rw [if_neg a]
   by_cases e : i = lowU p
   ·subst e; simp
   ·rw [if_neg e]; simp [e]
 ·rw [BitVec.getLsbD_of_ge _ _ (by omega), BitVec.getLsbD_of_ge p _ (by omega)]; simp
theorem listU_cons (p : U) (h : p ≠ 0) : listU p = lowU p :: listU (p &&& (p - 1)) := by
 obtain ⟨hk, h1, h0⟩ := lowU_spec p h
 unfold listU
 have hR : List.range 64 = List.range (lowU p) ++ (lowU p :: (List.range (63 - lowU p)).map (lowU p + 1 + ·)) := by
  have : lowU p :: (List.range (63 - lowU p)).map (lowU p + 1 + ·) = (List.range (64 - lowU p)).map (lowU p + ·) := by
   rw [show 64 - lowU p = (63 - lowU p) + 1 by omega, List.range_succ_eq_map, List.map_cons, List.map_map]
   congr 1
   apply List.map_congr_left
   intro a _
   simp; omega
  rw [this, ← List.range_add]
  congr 1; omega
 rw [hR, List.filter_append, List.filter_append, List.filter_cons, List.filter_cons, h1, drop_low p h (lowU p)]
 simp only [if_true, bne_self_eq_false, Bool.and_false, Bool.false_eq_true, if_false]
 have z1 : (List.range (lowU p)).filter (fun i => p.getLsbD i) = [] := by
  rw [List.filter_eq_nil_iff]; intro j hj; simp [h0 j (List.mem_range.1 hj)]
 have z2 : (List.range (lowU p)).filter (fun i => (p &&& (p - 1)).getLsbD i) = [] := by
  rw [List.filter_eq_nil_iff]; intro j hj
  rw [drop_low p h, h0 j (List.mem_range.1 hj)]; simp
 rw [z1, z2, List.nil_append, List.nil_append]
 congr 1
 apply List.filter_congr
 intro j hj
 obtain ⟨a, _, rfl⟩ := List.mem_map.1 hj
 rw [drop_low p h]
 have : (lowU p + 1 + a != lowU p) = true := by simp; omega
 rw [this, Bool.and_true]
theorem listU_zero : listU 0 = [] := by decide
theorem cardU_drop (p : U) (h : p ≠ 0) : cardU (p &&& (p - 1)) + 1 = cardU p := by
 unfold cardU; rw [listU_cons p h]; rfl
/-- what the table of TrailingZeros64 is looked up at -/
theorem low_and_neg (p : U) (h : p ≠ 0) : p &&& -p = bit (lowU p) := by
 obtain ⟨hk, h1, h0⟩ := lowU_spec p h
 have e : -p = ~~~(p - 1) := by
  obtain ⟨hp, e⟩ := sub1_toNat p h
  apply BitVec.eq_of_toNat_eq
  rw [BitVec.toNat_neg, BitVec.toNat_not, e]
  have := p.isLt
  omega
 rw [e]
 apply BitVec.eq_of_getLsbD_eq
 intro i hi
 rw [BitVec.getLsbD_and, BitVec.getLsbD_not, sub1_bit p h i hi, bit_bit _ _ hk]
 by_cases a : i < lowU p
 ·rw [h0 i a]; simp [show i ≠ lowU p by omega]
 ·by_cases e : i = lowU p
  ·subst e; simp [h1, hi]
  ·simp [a, e, hi]
def tzTab : List Nat := [0, 1, 56, 2, 57, 49, 28, 3, 61, 58, 42, 50, 38, 29, 17, 4, 62, 47, 59, 36, 45, 43, 51, 22, 53, 39, 33, 30, 24, 18, 12, 5, 63, 55, 48, 27, 60, 41, 37, 16, 46, 35, 44, 21, 52, 32, 23, 11, 54, 26, 40, 15, 34, 20, 31, 10, 25, 14, 19, 9, 13, 8, 7, 6]
def tzAt (k : Nat) : Nat := ((bit k * 285870213051353865#64) >>> 58).toNat
theorem tz_tab : ∀ k, k < 64 → tzAt k < 64 ∧ tzTab.getD (tzAt k) 0 = k := by decide +kernel
end Go.Draw
end
section
namespace Go.Draw
set_option maxRecDepth 10000
theorem sub_zero (S : U) : Sub 0 S := fun i hi => by simp at hi
end Go.Draw
end
section
namespace Go.Draw
set_option maxRecDepth 10000
def tau (mr : Bool) (n : Nat) : Nat := if mr then 64 * (n / 64) + 8 * (n / 8 % 8) + (7 - n % 8) else 64 * (n / 64) + 8 * (n % 8) + (7 - n / 8 % 8)
def turnS (mr : Bool) (s : Sol) : Sol := (List.range 512).foldl (fun out n => if s.getLsbD n then out ||| (1#512 <<< tau mr n) else out) 0
theorem turn_fold (mr : Bool) (s : Sol) (j : Nat) : ∀ (l : List Nat) (a : Sol), (l.foldl (fun out n => if s.getLsbD n then out ||| (1#512 <<< tau mr n) else out) a).getLsbD j = (a.getLsbD j || l.any fun n => s.getLsbD n && (1#512 <<< tau mr n).getLsbD j)
 | [], a => by simp
 | x :: l, a => by
  rw [List.foldl_cons, turn_fold mr s j l, List.any_cons]
  cases s.getLsbD x
  ·simp
  ·simp [BitVec.getLsbD_or, Bool.or_assoc]
theorem one_bit (k i : Nat) (hk : k < 512) : (1#512 <<< k).getLsbD i = decide (i = k) := by
 rw [BitVec.getLsbD_shiftLeft]
 by_cases h : i < 512
 ·by_cases h2 : i < k
  ·simp [h2]; omega
  ·by_cases e : i = k
   ·subst e; simp [h]
   ·have : (1#512).getLsbD (i - k) = false := by
     rw [BitVec.getLsbD_one]; simp; omega
    simp [this, e]
 ·simp [h]; omega
def rho (mr : Bool) (n : Nat) : Nat := if mr then 64 * (n / 64) + 8 * (n / 8 % 8) + (7 - n % 8) else 64 * (n / 64) + 8 * (7 - n % 8) + n / 8 % 8
theorem rho_tau : ∀ mr : Bool, ∀ n, n < 512 → rho mr (tau mr n) = n := by decide +kernel
theorem tau_rho : ∀ mr : Bool, ∀ n, n < 512 → tau mr (rho mr n) = n := by decide +kernel
theorem tau_lt : ∀ mr : Bool, ∀ n, n < 512 → tau mr n < 512 := by decide +kernel
theorem rho_lt : ∀ mr : Bool, ∀ n, n < 512 → rho mr n < 512 := by decide +kernel
theorem turn_bit (mr : Bool) (s : Sol) (n : Nat) (hn : n < 512) : (turnS mr s).getLsbD n = s.getLsbD (rho mr n) := by
 unfold turnS
 rw [turn_fold, Bool.eq_iff_iff]
 simp only [BitVec.ofNat_eq_ofNat, BitVec.getLsbD_zero, Bool.false_or, List.any_eq_true, List.mem_range, Bool.and_eq_true]
 constructor
 ·rintro ⟨k, hk, h1, h2⟩
  rw [one_bit _ _ (tau_lt mr k hk)] at h2
  have : rho mr n = k := by
   have h2 := of_decide_eq_true h2
   rw [h2]; exact rho_tau mr k hk
  rw [this]; exact h1
 ·intro h
  refine ⟨rho mr n, rho_lt mr n hn, h, ?_⟩
  rw [one_bit _ _ (tau_lt mr _ (rho_lt mr n hn)), tau_rho mr n hn]
  exact decide_eq_true rfl
theorem has_turn (mr : Bool) (s : Sol) (x y z : Int) : has (turnS mr s) x y z = if mr then has s (7 - x) y z else has s y (7 - x) z := by
 by_cases h : 0 ≤ x ∧ x ≤ 7 ∧ 0 ≤ y ∧ y ≤ 7 ∧ 0 ≤ z ∧ z ≤ 7
 ·rw [has_in _ _ _ _ h, turn_bit _ _ _ (by omega)]
  obtain ⟨a, rfl⟩ : ∃ a : Nat, x = a := ⟨x.toNat, by omega⟩
  obtain ⟨b, rfl⟩ : ∃ a : Nat, y = a := ⟨y.toNat, by omega⟩
  obtain ⟨c, rfl⟩ : ∃ a : Nat, z = a := ⟨z.toNat, by omega⟩
  have e1 : (64 * (c : Int) + 8 * (b : Int) + (a : Int)).toNat = 64 * c + 8 * b + a := by omega
  have e2 : (64 * c + 8 * b + a) % 8 = a := by omega
  have e3 : (64 * c + 8 * b + a) / 8 % 8 = b := by omega
  have e4 : (64 * c + 8 * b + a) / 64 = c := by omega
  rw [e1]
  unfold rho
  rw [e2, e3, e4]
  cases mr
  ·simp only [Bool.false_eq_true, if_false]
   rw [has_in _ _ _ _ (by omega)]
   congr 1; omega
  ·simp only [if_true]
   rw [has_in _ _ _ _ (by omega)]
   congr 1; omega
 ·rw [has_out _ _ _ _ h]
  cases mr
  ·simp only [Bool.false_eq_true, if_false]
   rw [has_out _ _ _ _ (by omega)]
  ·simp only [if_true]
   rw [has_out _ _ _ _ (by omega)]
theorem has_ext {a b : Sol} (h : ∀ x y z : Int, has a x y z = has b x y z) : a = b := by
 apply BitVec.eq_of_getLsbD_eq
 intro n hn
 rw [← has_bit a n hn, ← has_bit b n hn]; exact h _ _ _
def rotS (mr : Bool) : Nat → Nat
 | 1 => if mr then 3 else 2
 | 2 => if mr then 2 else 3
 | 3 => if mr then 1 else 4
 | 4 => if mr then 4 else 1
 | n => n
theorem rot_dx (mr : Bool) (side : Nat) (hs : 1 ≤ side ∧ side ≤ 4) : (1 ≤ rotS mr side ∧ rotS mr side ≤ 4) ∧ if mr then dxS (rotS mr side) = - dxS side ∧ dyS (rotS mr side) = dyS side else dxS (rotS mr side) = - dyS side ∧ dyS (rotS mr side) = dxS side := by
 obtain rfl | rfl | rfl | rfl : side = 1 ∨ side = 2 ∨ side = 3 ∨ side = 4 := by omega
 all_goals cases mr <;> decide
theorem has_true {s : Sol} {x y z : Int} (h : has s x y z = true) : 0 ≤ x ∧ x ≤ 7 ∧ 0 ≤ y ∧ y ≤ 7 ∧ 0 ≤ z ∧ z ≤ 7 := by
 apply Classical.byContradiction
 intro hn
 rw [has_out _ _ _ _ hn] at h; cases h
theorem in_has (side : Nat) (hs : 1 ≤ side ∧ side ≤ 4) (b : Sol) : inS side b = true ↔ ∀ x y z : Int, has b x y z = true → 0 ≤ x + dxS side ∧ x + dxS side ≤ 7 ∧ 0 ≤ y + dyS side ∧ y + dyS side ≤ 7 := by
 rw [in_iff side hs]
 constructor
 ·intro h x y z hh
  have hr := has_true hh
  rw [has_in _ _ _ _ hr] at hh
  have := h _ (by omega) hh
  have e1 : (((64 * z + 8 * y + x).toNat % 8 : Nat) : Int) = x := by omega
  have e2 : (((64 * z + 8 * y + x).toNat / 8 % 8 : Nat) : Int) = y := by omega
  rw [e1, e2] at this
  exact this
 ·intro h n hn hb
  rw [← has_bit b n hn] at hb
  exact h _ _ _ hb
theorem turn_in (mr : Bool) (side : Nat) (hs : 1 ≤ side ∧ side ≤ 4) (b : Sol) : inS (rotS mr side) (turnS mr b) = inS side b := by
 obtain ⟨h1, h2⟩ := rot_dx mr side hs
 rw [Bool.eq_iff_iff, in_has _ h1, in_has _ hs]
 cases mr
 ·simp only [Bool.false_eq_true, if_false] at h2
  constructor
  ·intro h x y z hh
   have := h (7 - y) x z (by rw [has_turn]; simpa using (show has b x (7 - (7 - y)) z = true by rw [show 7 - (7 - y) = y by omega]; exact hh))
   omega
  ·intro h x y z hh
   rw [has_turn] at hh
   have := h y (7 - x) z (by simpa using hh)
   omega
 ·simp only [if_true] at h2
  constructor
  ·intro h x y z hh
   have := h (7 - x) y z (by rw [has_turn]; simpa using (show has b (7 - (7 - x)) y z = true by rw [show 7 - (7 - x) = x by omega]; exact hh))
   omega
  ·intro h x y z hh
   rw [has_turn] at hh
   have := h (7 - x) y z (by simpa using hh)
   omega
end Go.Draw
end
section
namespace Go.Draw
set_option maxRecDepth 100000
def planeL (z : Nat) (q : U) : List Nat := (listU q).map fun k => 64 * z + k
def cellsFrom (b : Sol) : Nat → List Nat
 | 0 => []
 | n + 1 => planeL (7 - n) (plv b (7 - n)) ++ cellsFrom b n
theorem planeL_eq (b : Sol) (z : Nat) : planeL z (plv b z) = ((List.range 64).map fun k => 64 * z + k).filter fun k => b.getLsbD k := by
 unfold planeL listU
 rw [List.filter_map]
 congr 1
 apply List.filter_congr
 intro k hk
 exact plv_bit b z k (List.mem_range.1 hk)
theorem range_512 : List.range 512 = ((List.range 64).map fun k => 64 * 0 + k) ++ (((List.range 64).map fun k => 64 * 1 + k) ++ (((List.range 64).map fun k => 64 * 2 + k) ++ (((List.range 64).map fun k => 64 * 3 + k) ++ (((List.range 64).map fun k => 64 * 4 + k) ++ (((List.range 64).map fun k => 64 * 5 + k) ++ (((List.range 64).map fun k => 64 * 6 + k) ++ (((List.range 64).map fun k => 64 * 7 + k) ++ []))))))) := by decide +kernel
theorem cells_filter (b : Sol) : (List.range 512).filter (fun k => b.getLsbD k) = cellsFrom b 8 := by
 rw [range_512]
 simp only [List.filter_append, ← planeL_eq, List.filter_nil]
 rfl
theorem cellsFrom_succ (b : Sol) {z : Nat} (hz : z < 8) : cellsFrom b (8 - z) = planeL z (plv b z) ++ cellsFrom b (8 - (z + 1)) := by
 obtain ⟨n, hn⟩ : ∃ n, 8 - z = n + 1 := ⟨7 - z, by omega⟩
 rw [hn, show 8 - (z + 1) = n by omega, cellsFrom, show 7 - n = z by omega]
theorem planeL_zero (z : Nat) : planeL z 0 = [] := by unfold planeL; rw [listU_zero]; rfl
theorem planeL_cons (z : Nat) {q : U} (hq : q ≠ 0) : planeL z q = (64 * z + lowU q) :: planeL z (q &&& (q - 1)) := by
 unfold planeL; rw [listU_cons q hq]; rfl
end Go.Draw
end
section
namespace Go.Draw
set_option maxRecDepth 100000
def popA (x : U) : U := ((x >>> 1) &&& 0x5555555555555555#64) + (x &&& 0x5555555555555555#64)
def popB (x : U) : U := ((x >>> 2) &&& 0x3333333333333333#64) + (x &&& 0x3333333333333333#64)
def popC (x : U) : U := ((x >>> 4) + x) &&& 0x0f0f0f0f0f0f0f0f#64
def popD (x : U) : U := x + (x >>> 8)
def popE (x : U) : U := x + (x >>> 16)
def popF (x : U) : U := x + (x >>> 32)
def popU (x : U) : U := popF (popE (popD (popC (popB (popA x))))) &&& 127#64
end Go.Draw
end
section
namespace Go.Solid
open Go.Draw
set_option maxRecDepth 100000
abbrev Cl := Int × Int × Int
def in7 (n : Int) : Bool := decide (0 ≤ n) && decide (n ≤ 7)
theorem in7_iff {n : Int} : in7 n = true ↔ 0 ≤ n ∧ n ≤ 7 := by unfold in7; simp
def inG (c : Cl) : Bool := in7 c.1 && in7 c.2.1 && in7 c.2.2
theorem inG_iff {c : Cl} : inG c = true ↔ (0 ≤ c.1 ∧ c.1 ≤ 7) ∧ (0 ≤ c.2.1 ∧ c.2.1 ≤ 7) ∧ (0 ≤ c.2.2 ∧ c.2.2 ≤ 7) := by
 unfold inG
 rw [Bool.and_eq_true, Bool.and_eq_true, in7_iff, in7_iff, in7_iff, and_assoc]
def bitN (c : Cl) : Nat := (64 * c.2.2 + 8 * c.2.1 + c.1).toNat
def cellN (n : Nat) : Cl := (((n % 8 : Nat) : Int), ((n / 8 % 8 : Nat) : Int), ((n / 64 : Nat) : Int))
theorem cellN_in {n : Nat} (h : n < 512) : inG (cellN n) = true := by
 rw [inG_iff]; unfold cellN; simp only; omega
theorem bitN_cellN (n : Nat) : bitN (cellN n) = n := by
 unfold bitN cellN; simp only; omega
theorem bitN_lt {c : Cl} (h : inG c = true) : bitN c < 512 := by
 rw [inG_iff] at h; unfold bitN; omega
theorem cellN_bitN {c : Cl} (h : inG c = true) : cellN (bitN c) = c := by
 obtain ⟨x, y, z⟩ := c
 rw [inG_iff] at h
 simp only at h
 unfold cellN bitN
 simp only
 refine Prod.ext ?_ (Prod.ext ?_ ?_)
 ·show (((64 * z + 8 * y + x).toNat % 8 : Nat) : Int) = x; omega
 ·show (((64 * z + 8 * y + x).toNat / 8 % 8 : Nat) : Int) = y; omega
 ·show (((64 * z + 8 * y + x).toNat / 64 : Nat) : Int) = z; omega
theorem bitN_inj {c d : Cl} (hc : inG c = true) (hd : inG d = true) (h : bitN c = bitN d) : c = d := by
 rw [← cellN_bitN hc, ← cellN_bitN hd, h]
def hasS (s : Sol) (c : Cl) : Bool := inG c && s.getLsbD (bitN c)
theorem hasS_cellN {s : Sol} {n : Nat} (h : n < 512) : hasS s (cellN n) = s.getLsbD n := by
 unfold hasS; rw [cellN_in h, bitN_cellN, Bool.true_and]
theorem hasS_out {s : Sol} {c : Cl} (h : inG c = false) : hasS s c = false := by unfold hasS; rw [h]; rfl
theorem sol_has {s t : Sol} (h : ∀ c, inG c = true → hasS s c = hasS t c) : s = t := by
 apply BitVec.eq_of_getLsbD_eq
 intro n hn
 rw [← hasS_cellN hn, ← hasS_cellN hn]
 exact h _ (cellN_in hn)
def bitsS (s : Sol) : List Nat := (List.range 512).filter fun n => s.getLsbD n
theorem mem_bitsS {s : Sol} {n : Nat} : n ∈ bitsS s ↔ s.getLsbD n = true := by
 unfold bitsS
 rw [List.mem_filter, List.mem_range]
 exact ⟨fun h => h.2, fun h => ⟨Nat.lt_of_not_le (fun h2 => by rw [BitVec.getLsbD_of_ge _ _ h2] at h; cases h), h⟩⟩
theorem bitsS_lt {s : Sol} {n : Nat} (h : n ∈ bitsS s) : n < 512 := by
 unfold bitsS at h
 exact List.mem_range.1 (List.mem_filter.1 h).1
def cellsS (s : Sol) : List Cl := (bitsS s).map cellN
theorem mem_cellsS {s : Sol} {c : Cl} : c ∈ cellsS s ↔ hasS s c = true := by
 unfold cellsS
 rw [List.mem_map]
 constructor
 ·rintro ⟨n, hn, rfl⟩
  rw [hasS_cellN (bitsS_lt hn)]; exact mem_bitsS.1 hn
 ·intro h
  unfold hasS at h
  rw [Bool.and_eq_true] at h
  exact ⟨bitN c, mem_bitsS.2 h.2, cellN_bitN h.1⟩
theorem cellsS_zero : cellsS 0 = [] := by
 rw [List.eq_nil_iff_forall_not_mem]
 intro c h
 have := mem_cellsS.1 h
 unfold hasS at this
 simp at this
theorem cellsS_nil {s : Sol} : cellsS s = [] ↔ s = 0 := by
 constructor
 ·intro h
  apply sol_has
  intro c _
  cases h2 : hasS s c with
  | true => rw [← mem_cellsS, h] at h2; cases h2
  | false => unfold hasS; simp
 ·rintro rfl; exact cellsS_zero
def one (n : Nat) : Sol := 1#512 <<< n
theorem one_bit {n k : Nat} (hk : k < 512) : (one n).getLsbD k = decide (k = n) := by
 unfold one
 rw [BitVec.getLsbD_shiftLeft]
 by_cases h : k < n
 ·simp [h, hk]; omega
 ·by_cases e : k = n
  ·subst e; simp [hk]
  ·have : (1#512).getLsbD (k - n) = false := by
    rw [BitVec.getLsbD_one]; simp; omega
   simp [this, e]
/-- the cells of a list of numbers of bits -/
def orF (a : Sol) (l : List Nat) : Sol := l.foldl (fun a n => a ||| one n) a
def orL (l : List Nat) : Sol := orF 0 l
theorem orF_bit (l : List Nat) : ∀ (a : Sol) {k : Nat}, k < 512 → (orF a l).getLsbD k = (a.getLsbD k || decide (k ∈ l)) := by
 induction l with
 | nil => intro a k _; simp [orF]
 | cons n l ih =>
  intro a k hk
  show (orF (a ||| one n) l).getLsbD k = _
  rw [ih _ hk, BitVec.getLsbD_or, one_bit hk, Bool.or_assoc]
  congr 1
  rw [Bool.eq_iff_iff]
  simp
theorem orL_bit (l : List Nat) {k : Nat} (hk : k < 512) : (orL l).getLsbD k = decide (k ∈ l) := by
 unfold orL; rw [orF_bit l 0 hk]; simp
theorem orF_snoc (a : Sol) (l : List Nat) (n : Nat) : orF a (l ++ [n]) = orF a l ||| one n := by unfold orF; rw [List.foldl_append]; rfl
/-- what a map makes of a solid, if no cell leaves the grid -/
def imgS (f : Cl → Cl) (s : Sol) : Sol := orL ((cellsS s).map fun c => bitN (f c))
def stays (f : Cl → Cl) (s : Sol) : Bool := (cellsS s).all fun c => inG (f c)
theorem stays_iff {f : Cl → Cl} {s : Sol} : stays f s = true ↔ ∀ c, hasS s c = true → inG (f c) = true := by
 unfold stays
 rw [List.all_eq_true]
 exact ⟨fun h c hc => h c (mem_cellsS.2 hc), fun h c hc => h c (mem_cellsS.1 hc)⟩
theorem imgS_has {f : Cl → Cl} {s : Sol} (h : stays f s = true) {d : Cl} (hd : inG d = true) : hasS (imgS f s) d = true ↔ ∃ c, hasS s c = true ∧ f c = d := by
 unfold hasS imgS
 rw [hd, Bool.true_and, orL_bit _ (bitN_lt hd), decide_eq_true_eq, List.mem_map]
 constructor
 ·rintro ⟨c, hc, e⟩
  exact ⟨c, mem_cellsS.1 hc, bitN_inj (stays_iff.1 h c (mem_cellsS.1 hc)) hd e⟩
 ·rintro ⟨c, hc, rfl⟩
  exact ⟨c, mem_cellsS.2 hc, rfl⟩
theorem mem_img {f : Cl → Cl} {s : Sol} (h : stays f s = true) {d : Cl} : d ∈ cellsS (imgS f s) ↔ ∃ c, c ∈ cellsS s ∧ f c = d := by
 rw [mem_cellsS]
 constructor
 ·intro hd
  have hg : inG d = true := by unfold hasS at hd; rw [Bool.and_eq_true] at hd; exact hd.1
  obtain ⟨c, h1, h2⟩ := (imgS_has h hg).1 hd
  exact ⟨c, mem_cellsS.2 h1, h2⟩
 ·rintro ⟨c, h1, rfl⟩
  exact (imgS_has h (stays_iff.1 h c (mem_cellsS.1 h1))).2 ⟨c, mem_cellsS.1 h1, rfl⟩
end Go.Solid
end
