import Derived.Test.YtkfimbonmnoglaaGreatDoorG11
/-
  Given contracts of functions of the program, and laws for them, one behind the other.
-/
set_option linter.unusedVariables false
set_option linter.unusedSimpArgs false
set_option linter.unusedSectionVars false
section
namespace Go.Solid
open Go.Draw
set_option maxRecDepth 100000
/-! tunnels are never fewer than none: chains of points over two elements -/
abbrev Ch := Cl → Bool
def bx (S : Ch) (x y z : Int) : Bool := S (x + 1, y, z) ^^ S (x - 1, y, z)
def bY (S : Ch) (x y z : Int) : Bool := S (x, y + 1, z) ^^ S (x, y - 1, z)
def bz (S : Ch) (x y z : Int) : Bool := S (x, y, z + 1) ^^ S (x, y, z - 1)
/-- the boundary of a chain at a point -/
def bnd (S : Ch) : Ch := fun q => ((if q.1 % 2 = 0 then bx S q.1 q.2.1 q.2.2 else false) ^^ (if q.2.1 % 2 = 0 then bY S q.1 q.2.1 q.2.2 else false)) ^^ (if q.2.2 % 2 = 0 then bz S q.1 q.2.1 q.2.2 else false)
theorem x4 (a b c d : Bool) : ((a ^^ b) ^^ (c ^^ d)) = ((a ^^ c) ^^ (b ^^ d)) := by cases a <;> cases b <;> cases c <;> cases d <;> rfl
theorem ite_x (p : Prop) [Decidable p] (a b : Bool) : (if p then a ^^ b else false) = ((if p then a else false) ^^ (if p then b else false)) := by split <;> rfl
theorem x6 (a b c d e f : Bool) : (((a ^^ b) ^^ (c ^^ d)) ^^ (e ^^ f)) = (((a ^^ c) ^^ e) ^^ ((b ^^ d) ^^ f)) := by cases a <;> cases b <;> cases c <;> cases d <;> cases e <;> cases f <;> rfl
theorem bx_xor (S T : Ch) (x y z : Int) : bx (fun p => S p ^^ T p) x y z = (bx S x y z ^^ bx T x y z) := x4 _ _ _ _
theorem bY_xor (S T : Ch) (x y z : Int) : bY (fun p => S p ^^ T p) x y z = (bY S x y z ^^ bY T x y z) := x4 _ _ _ _
theorem bz_xor (S T : Ch) (x y z : Int) : bz (fun p => S p ^^ T p) x y z = (bz S x y z ^^ bz T x y z) := x4 _ _ _ _
theorem bnd_xor (S T : Ch) (q : Cl) : bnd (fun p => S p ^^ T p) q = (bnd S q ^^ bnd T q) := by
 unfold bnd
 rw [bx_xor, bY_xor, bz_xor, ite_x, ite_x, ite_x, x6]
def evs (q : Cl) : Bool := decide (q.1 % 2 = 0) && decide (q.2.1 % 2 = 0) && decide (q.2.2 % 2 = 0)
theorem x12' : ∀ (pp pm mp mm p2 q2 r2 s2 a b c d : Bool), (((((pp ^^ pm) ^^ (p2 ^^ q2)) ^^ ((mp ^^ mm) ^^ (r2 ^^ s2))) ^^ (((pp ^^ mp) ^^ (a ^^ b)) ^^ ((pm ^^ mm) ^^ (c ^^ d)))) ^^ (((p2 ^^ r2) ^^ (a ^^ c)) ^^ ((q2 ^^ s2) ^^ (b ^^ d)))) = false := by decide +kernel
/-- a boundary has no boundary: at corners -/
theorem bnd_bnd (S : Ch) {q : Cl} (h : evs q = true) : bnd (bnd S) q = false := by
 obtain ⟨x, y, z⟩ := q
 unfold evs at h
 simp only [Bool.and_eq_true, decide_eq_true_eq] at h
 obtain ⟨⟨h1, h2⟩, h3⟩ := h
 have a1 : ¬ (x + 1) % 2 = 0 := by omega
 have a2 : ¬ (x - 1) % 2 = 0 := by omega
 have b1 : ¬ (y + 1) % 2 = 0 := by omega
 have b2 : ¬ (y - 1) % 2 = 0 := by omega
 have c1 : ¬ (z + 1) % 2 = 0 := by omega
 have c2 : ¬ (z - 1) % 2 = 0 := by omega
 simp only [bnd, bx, bY, bz, h1, h2, h3, a1, a2, b1, b2, c1, c2, if_true, if_false, Bool.false_xor, Bool.xor_false]
 exact x12' _ _ _ _ _ _ _ _ _ _ _ _
/-- a chain that reads off another one only near points -/
theorem bnd_congr {S T : Ch} {q : Cl} (h : ∀ p, (q.1 % 2 = 0 ∧ (p = (q.1 + 1, q.2.1, q.2.2) ∨ p = (q.1 - 1, q.2.1, q.2.2))) ∨ (q.2.1 % 2 = 0 ∧ (p = (q.1, q.2.1 + 1, q.2.2) ∨ p = (q.1, q.2.1 - 1, q.2.2))) ∨ (q.2.2 % 2 = 0 ∧ (p = (q.1, q.2.1, q.2.2 + 1) ∨ p = (q.1, q.2.1, q.2.2 - 1))) → S p = T p) : bnd S q = bnd T q := by
 unfold bnd bx bY bz
 have g1 : q.1 % 2 = 0 → S (q.1 + 1, q.2.1, q.2.2) = T (q.1 + 1, q.2.1, q.2.2) ∧ S (q.1 - 1, q.2.1, q.2.2) = T (q.1 - 1, q.2.1, q.2.2) := fun e => ⟨h _ (.inl ⟨e, .inl rfl⟩), h _ (.inl ⟨e, .inr rfl⟩)⟩
 have g2 : q.2.1 % 2 = 0 → S (q.1, q.2.1 + 1, q.2.2) = T (q.1, q.2.1 + 1, q.2.2) ∧ S (q.1, q.2.1 - 1, q.2.2) = T (q.1, q.2.1 - 1, q.2.2) := fun e => ⟨h _ (.inr (.inl ⟨e, .inl rfl⟩)), h _ (.inr (.inl ⟨e, .inr rfl⟩))⟩
 have g3 : q.2.2 % 2 = 0 → S (q.1, q.2.1, q.2.2 + 1) = T (q.1, q.2.1, q.2.2 + 1) ∧ S (q.1, q.2.1, q.2.2 - 1) = T (q.1, q.2.1, q.2.2 - 1) := fun e => ⟨h _ (.inr (.inr ⟨e, .inl rfl⟩)), h _ (.inr (.inr ⟨e, .inr rfl⟩))⟩
 congr 1
 ·congr 1
  ·split
   ·rename_i e; rw [(g1 e).1, (g1 e).2]
   ·rfl
  ·split
   ·rename_i e; rw [(g2 e).1, (g2 e).2]
   ·rfl
 ·split
  ·rename_i e; rw [(g3 e).1, (g3 e).2]
  ·rfl
/-! a chain of faces without a boundary is the boundary of cells -/
def edgeP (q : Cl) : Bool := (decide (q.1 % 2 = 1) && decide (q.2.1 % 2 = 0) && decide (q.2.2 % 2 = 0)) || (decide (q.1 % 2 = 0) && decide (q.2.1 % 2 = 1) && decide (q.2.2 % 2 = 0)) || (decide (q.1 % 2 = 0) && decide (q.2.1 % 2 = 0) && decide (q.2.2 % 2 = 1))
def Boxed (S : Ch) : Prop := ∀ p, S p = true → ∀ k, 0 ≤ co p k ∧ co p k ≤ 16
def wN (S : Ch) (a b : Int) : Nat → Bool
 | 0 => false
 | n + 1 => wN S a b n ^^ S (2 * a + 1, 2 * b + 1, 2 * (n : Int))
theorem boxed_no {S : Ch} (h : Boxed S) {p : Cl} (k : Nat) (hk : co p k < 0 ∨ 16 < co p k) : S p = false := by
 cases e : S p with
 | false => rfl
 | true => have := h p e k; omega
def Closed (S : Ch) : Prop := ∀ q, edgeP q = true → bnd S q = false
theorem x_of (a b c d : Bool) : ((a ^^ b) ^^ (c ^^ d)) = false → c = ((a ^^ b) ^^ d) := by cases a <;> cases b <;> cases c <;> cases d <;> decide
theorem wx (S : Ch) (hB : Boxed S) (hC : Closed S) (a b : Int) : ∀ n : Nat, (wN S (a - 1) b n ^^ wN S a b n) = S (2 * a, 2 * b + 1, 2 * (n : Int) - 1)
 | 0 => by
  rw [boxed_no hB 2 (p := (2 * a, 2 * b + 1, 2 * ((0 : Nat) : Int) - 1)) (Or.inl (by show 2 * ((0 : Nat) : Int) - 1 < 0; omega))]
  rfl
 | n + 1 => by
  have ih := wx S hB hC a b n
  have h := hC (2 * a, 2 * b + 1, 2 * (n : Int)) (by unfold edgeP; simp only [show (2 * a) % 2 = 0 by omega, show (2 * b + 1) % 2 = 1 by omega, show (2 * (n : Int)) % 2 = 0 by omega]; decide)
  unfold bnd bx bY bz at h
  simp only [show (2 * a) % 2 = 0 by omega, show ¬ (2 * b + 1) % 2 = 0 by omega, show (2 * (n : Int)) % 2 = 0 by omega, if_true, if_false, Bool.xor_false] at h
  have e1 : wN S (a - 1) b (n + 1) = (wN S (a - 1) b n ^^ S (2 * a - 1, 2 * b + 1, 2 * (n : Int))) := by
   show (wN S (a - 1) b n ^^ S (2 * (a - 1) + 1, 2 * b + 1, 2 * (n : Int))) = _
   rw [show 2 * (a - 1) + 1 = 2 * a - 1 by omega]
  have e2 : wN S a b (n + 1) = (wN S a b n ^^ S (2 * a + 1, 2 * b + 1, 2 * (n : Int))) := rfl
  rw [e1, e2, x4, ih, show 2 * ((n + 1 : Nat) : Int) - 1 = 2 * (n : Int) + 1 by omega, x_of _ _ _ _ h]
  cases S (2 * a, 2 * b + 1, 2 * (n : Int) - 1) <;> cases S (2 * a - 1, 2 * b + 1, 2 * (n : Int)) <;> cases S (2 * a + 1, 2 * b + 1, 2 * (n : Int)) <;> rfl
theorem wy (S : Ch) (hB : Boxed S) (hC : Closed S) (a b : Int) : ∀ n : Nat, (wN S a (b - 1) n ^^ wN S a b n) = S (2 * a + 1, 2 * b, 2 * (n : Int) - 1)
 | 0 => by
  rw [boxed_no hB 2 (p := (2 * a + 1, 2 * b, 2 * ((0 : Nat) : Int) - 1)) (Or.inl (by show 2 * ((0 : Nat) : Int) - 1 < 0; omega))]
  rfl
 | n + 1 => by
  have ih := wy S hB hC a b n
  have h := hC (2 * a + 1, 2 * b, 2 * (n : Int)) (by unfold edgeP; simp only [show (2 * b) % 2 = 0 by omega, show (2 * a + 1) % 2 = 1 by omega, show (2 * (n : Int)) % 2 = 0 by omega]; decide)
  unfold bnd bx bY bz at h
  simp only [show (2 * b) % 2 = 0 by omega, show ¬ (2 * a + 1) % 2 = 0 by omega, show (2 * (n : Int)) % 2 = 0 by omega, if_true, if_false, Bool.false_xor] at h
  have e1 : wN S a (b - 1) (n + 1) = (wN S a (b - 1) n ^^ S (2 * a + 1, 2 * b - 1, 2 * (n : Int))) := by
   show (wN S a (b - 1) n ^^ S (2 * a + 1, 2 * (b - 1) + 1, 2 * (n : Int))) = _
   rw [show 2 * (b - 1) + 1 = 2 * b - 1 by omega]
  have e2 : wN S a b (n + 1) = (wN S a b n ^^ S (2 * a + 1, 2 * b + 1, 2 * (n : Int))) := rfl
  rw [e1, e2, x4, ih, show 2 * ((n + 1 : Nat) : Int) - 1 = 2 * (n : Int) + 1 by omega, x_of _ _ _ _ h]
  cases S (2 * a + 1, 2 * b, 2 * (n : Int) - 1) <;> cases S (2 * a + 1, 2 * b - 1, 2 * (n : Int)) <;> cases S (2 * a + 1, 2 * b + 1, 2 * (n : Int)) <;> rfl
theorem wN_out {S : Ch} (hB : Boxed S) {a b : Int} (h : a < 0 ∨ 7 < a ∨ b < 0 ∨ 7 < b) : ∀ n, wN S a b n = false
 | 0 => rfl
 | n + 1 => by
  show (wN S a b n ^^ S (2 * a + 1, 2 * b + 1, 2 * (n : Int))) = false
  rw [wN_out hB h n]
  rcases h with h | h | h | h
  ·rw [boxed_no hB 0 (p := (2 * a + 1, 2 * b + 1, 2 * (n : Int))) (Or.inl (by show 2 * a + 1 < 0; omega))]; rfl
  ·rw [boxed_no hB 0 (p := (2 * a + 1, 2 * b + 1, 2 * (n : Int))) (Or.inr (by show 16 < 2 * a + 1; omega))]; rfl
  ·rw [boxed_no hB 1 (p := (2 * a + 1, 2 * b + 1, 2 * (n : Int))) (Or.inl (by show 2 * b + 1 < 0; omega))]; rfl
  ·rw [boxed_no hB 1 (p := (2 * a + 1, 2 * b + 1, 2 * (n : Int))) (Or.inr (by show 16 < 2 * b + 1; omega))]; rfl
theorem wN_top {S : Ch} (hB : Boxed S) (hC : Closed S) (b : Int) {n : Nat} (hn : 9 ≤ n) : ∀ k : Nat, wN S ((k : Int) - 1) b n = false
 | 0 => wN_out hB (.inl (by omega)) n
 | k + 1 => by
  have h := wx S hB hC (k : Int) b n
  rw [wN_top hB hC b hn k, boxed_no hB 2 (p := (2 * (k : Int), 2 * b + 1, 2 * (n : Int) - 1)) (Or.inr (by show 16 < 2 * (n : Int) - 1; omega))] at h
  rw [show ((k + 1 : Nat) : Int) - 1 = (k : Int) by omega]
  simpa using h
def wC (S : Ch) (c : Cl) : Bool := if 0 ≤ c.2.2 then wN S c.1 c.2.1 (c.2.2.toNat + 1) else false
theorem wC_out {S : Ch} (hB : Boxed S) (hC : Closed S) {c : Cl} (h : inG c = false) : wC S c = false := by
 unfold wC
 split
 ·rename_i hz
  by_cases h1 : c.1 < 0 ∨ 7 < c.1 ∨ c.2.1 < 0 ∨ 7 < c.2.1
  ·exact wN_out hB h1 _
  ·have h2 : 7 < c.2.2 := by
    refine Int.not_le.1 fun h7 => ?_
    have : inG c = true := inG_iff.2 ⟨⟨by omega, by omega⟩, ⟨by omega, by omega⟩, ⟨hz, h7⟩⟩
    rw [this] at h; cases h
   have := wN_top hB hC c.2.1 (n := c.2.2.toNat + 1) (by omega) (c.1.toNat + 1)
   rw [show ((c.1.toNat + 1 : Nat) : Int) - 1 = c.1 by omega] at this
   exact this
 ·rfl
theorem w_x {S : Ch} (hB : Boxed S) (hC : Closed S) (a b c : Int) : S (2 * a, 2 * b + 1, 2 * c + 1) = (wC S (a - 1, b, c) ^^ wC S (a, b, c)) := by
 by_cases hc : 0 ≤ c
 ·have h := wx S hB hC a b (c.toNat + 1)
  rw [show 2 * ((c.toNat + 1 : Nat) : Int) - 1 = 2 * c + 1 by omega] at h
  unfold wC
  rw [if_pos hc, if_pos hc, h]
 ·unfold wC
  rw [if_neg hc, if_neg hc, boxed_no hB 2 (Or.inl (by show 2 * c + 1 < 0; omega))]; rfl
theorem w_y {S : Ch} (hB : Boxed S) (hC : Closed S) (a b c : Int) : S (2 * a + 1, 2 * b, 2 * c + 1) = (wC S (a, b - 1, c) ^^ wC S (a, b, c)) := by
 by_cases hc : 0 ≤ c
 ·have h := wy S hB hC a b (c.toNat + 1)
  rw [show 2 * ((c.toNat + 1 : Nat) : Int) - 1 = 2 * c + 1 by omega] at h
  unfold wC
  rw [if_pos hc, if_pos hc, h]
 ·unfold wC
  rw [if_neg hc, if_neg hc, boxed_no hB 2 (Or.inl (by show 2 * c + 1 < 0; omega))]; rfl
theorem w_z {S : Ch} (hB : Boxed S) (a b c : Int) : S (2 * a + 1, 2 * b + 1, 2 * c) = (wC S (a, b, c - 1) ^^ wC S (a, b, c)) := by
 by_cases hc : 0 ≤ c
 ·have e1 : wC S (a, b, c) = (wN S a b c.toNat ^^ S (2 * a + 1, 2 * b + 1, 2 * c)) := by
   unfold wC
   rw [if_pos hc]
   show (wN S a b c.toNat ^^ S (2 * a + 1, 2 * b + 1, 2 * (c.toNat : Int))) = _
   rw [show (c.toNat : Int) = c by omega]
  have e2 : wC S (a, b, c - 1) = wN S a b c.toNat := by
   unfold wC
   by_cases h1 : 0 ≤ c - 1
   ·rw [if_pos h1]
    show wN S a b ((c - 1).toNat + 1) = _
    rw [show (c - 1).toNat + 1 = c.toNat by omega]
   ·rw [if_neg h1, show c.toNat = 0 by omega]; rfl
  rw [e1, e2]
  cases wN S a b c.toNat <;> cases S (2 * a + 1, 2 * b + 1, 2 * c) <;> rfl
 ·unfold wC
  rw [if_neg hc, if_neg (by show ¬ 0 ≤ c - 1; omega), boxed_no hB 2 (Or.inl (by show 2 * c < 0; omega))]; rfl
theorem w_step {S : Ch} (hB : Boxed S) (hC : Closed S) {c d : Cl} (hd : d ∈ stepsL true) : S (midC c d) = (wC S c ^^ wC S (addC c d)) := by
 obtain ⟨a, b, z⟩ := c
 rw [steps_faces] at hd
 simp only [List.mem_cons, List.not_mem_nil, or_false] at hd
 unfold midC addC
 rcases hd with rfl | rfl | rfl | rfl | rfl | rfl
 ·have := w_z hB a b z
  simp only [Int.add_zero, show 2 * z + 1 + -1 = 2 * z by omega, show z + -1 = z - 1 by omega]
  rw [this, Bool.xor_comm]
 ·have := w_y hB hC a b z
  simp only [Int.add_zero, show 2 * b + 1 + -1 = 2 * b by omega, show b + -1 = b - 1 by omega]
  rw [this, Bool.xor_comm]
 ·have := w_x hB hC a b z
  simp only [Int.add_zero, show 2 * a + 1 + -1 = 2 * a by omega, show a + -1 = a - 1 by omega]
  rw [this, Bool.xor_comm]
 ·have := w_x hB hC (a + 1) b z
  simp only [Int.add_zero, show 2 * a + 1 + 1 = 2 * (a + 1) by omega]
  rw [this, show a + 1 - 1 = a by omega]
 ·have := w_y hB hC a (b + 1) z
  simp only [Int.add_zero, show 2 * b + 1 + 1 = 2 * (b + 1) by omega]
  rw [this, show b + 1 - 1 = b by omega]
 ·have := w_z hB a b (z + 1)
  simp only [Int.add_zero, show 2 * z + 1 + 1 = 2 * (z + 1) by omega]
  rw [this, show z + 1 - 1 = z by omega]
end Go.Solid
end
section
namespace Go.Solid
open Go.Draw
set_option maxRecDepth 100000
/-! cells of the complement are told alike; corners are led together by edges -/
def onS (s : Sol) (p : Cl) : Prop := p ∈ ptsS s
def nearC2 (p c : Cl) : Prop := ∀ k, -1 ≤ co p k - (2 * co c k + 1) ∧ co p k - (2 * co c k + 1) ≤ 1
theorem on_iff {s : Sol} {p : Cl} : onS s p ↔ ∃ c, hasS s c = true ∧ nearC2 p c := pts_iff
/-- a chain of points of a solid -/
def Of (s : Sol) (S : Ch) : Prop := ∀ p, S p = true → onS s p
theorem on_box {s : Sol} {p : Cl} (h : onS s p) (k : Nat) : 0 ≤ co p k ∧ co p k ≤ 16 := by
 obtain ⟨c, hc, hn⟩ := on_iff.1 h
 have := hn k
 have := co_in (has_in hc) k
 omega
theorem of_box {s : Sol} {S : Ch} (h : Of s S) : Boxed S := fun p hp k => on_box (h p hp) k
theorem mid_near {c d e : Cl} (hd : d ∈ stepsL true) (h : nearC2 (midC c d) e) : e = c ∨ e = addC c d := by
 have h0 := h 0; have h1 := h 1; have h2 := h 2
 obtain ⟨a, b, z⟩ := c
 obtain ⟨x, y, w⟩ := e
 obtain ⟨d0, d1, d2⟩ := d
 replace h0 : -1 ≤ (2 * a + 1 + d0) - (2 * x + 1) ∧ (2 * a + 1 + d0) - (2 * x + 1) ≤ 1 := h0
 replace h1 : -1 ≤ (2 * b + 1 + d1) - (2 * y + 1) ∧ (2 * b + 1 + d1) - (2 * y + 1) ≤ 1 := h1
 replace h2 : -1 ≤ (2 * z + 1 + d2) - (2 * w + 1) ∧ (2 * z + 1 + d2) - (2 * w + 1) ≤ 1 := h2
 rw [steps_faces] at hd
 simp only [List.mem_cons, List.not_mem_nil, or_false, Prod.mk.injEq] at hd
 unfold addC
 simp only [Prod.mk.injEq]
 omega
theorem w_same {s : Sol} {S : Ch} (hO : Of s S) (hC : Closed S) {c d : Cl} (hd : d ∈ stepsL true) (hc : hasS s c = false) (he : hasS s (addC c d) = false) : wC S c = wC S (addC c d) := by
 have h := w_step (of_box hO) hC (c := c) hd
 have h0 : S (midC c d) = false := by
  cases e : S (midC c d) with
  | false => rfl
  | true =>
   obtain ⟨x, hx, hn⟩ := on_iff.1 (hO _ e)
   rcases mid_near hd hn with rfl | rfl
   ·rw [hx] at hc; cases hc
   ·rw [hx] at he; cases he
 rw [h0] at h
 revert h
 cases wC S c <;> cases wC S (addC c d) <;> simp
theorem not_sol {s : Sol} {c : Cl} : hasS (~~~s) c = true ↔ inG c = true ∧ hasS s c = false := by
 unfold hasS
 cases e : inG c with
 | false => simp
 | true =>
  have hb := bitN_lt e
  rw [Bool.true_and, Bool.true_and, BitVec.getLsbD_not, decide_eq_true hb, Bool.true_and]
  cases s.getLsbD (bitN c) <;> simp
theorem w_reach {s : Sol} {S : Ch} (hO : Of s S) (hC : Closed S) {a b : Cl} (h : Reach (stepsL true) (~~~s) a b) : wC S a = wC S b := by
 induction h with
 | start _ => rfl
 | step hr hd hh ih => rw [ih]; exact w_same hO hC hd (not_sol.1 hr.has).2 (not_sol.1 hh).2
/-- what is told of the solid's cells and of one cell of each cavity tells the chain -/
theorem w_told {s : Sol} {S : Ch} (hO : Of s S) (hC : Closed S) (h1 : ∀ c, hasS s c = true → wC S c = false) (h2 : ∀ K ∈ cavsS s, ∃ c, hasS K c = true ∧ wC S c = false) (e : Cl) : wC S e = false := by
 cases hg : inG e with
 | false => exact wC_out (of_box hO) hC hg
 | true =>
  cases he : hasS s e with
  | true => exact h1 e he
  | false =>
   have hP := classes_parts (steps_sym true) (~~~s)
   obtain ⟨K, hK, hKe⟩ := hP.all e (not_sol.2 ⟨hg, he⟩)
   obtain ⟨c0, _, hcomp, _⟩ := hP.comp K hK
   have hw : ∀ x, hasS K x = true → wC S x = wC S e := fun x hx => (w_reach hO hC (hcomp.reach x hx)).symm.trans (w_reach hO hC (hcomp.reach e hKe))
   by_cases hb : subS K innerS = true
   ·have : K ∈ cavsS s := by rw [cavs_ref]; exact List.mem_filter.2 ⟨hK, hb⟩
    obtain ⟨c, hc, h0⟩ := h2 K this
    rw [← hw c hc, h0]
   ·have hex : ∃ c, hasS K c = true ∧ ¬ (hasS innerS c = true) := Classical.byContradiction fun hne => hb (subS_iff.2 fun c hc => Classical.byContradiction fun h => hne ⟨c, hc, h⟩)
    obtain ⟨c, hc, hi⟩ := hex
    have hin := inG_iff.1 (has_in hc)
    rw [inner_has] at hi
    have hcs : hasS s c = false := (not_sol.1 (subS_iff.1 hcomp.sub c hc)).2
    have hd : ∃ d ∈ stepsL true, inG (addC c d) = false := by
     obtain ⟨a, b, z⟩ := c
     simp only at hin hi
     have ho : ∀ d : Cl, ¬ ((0 ≤ a + d.1 ∧ a + d.1 ≤ 7) ∧ (0 ≤ b + d.2.1 ∧ b + d.2.1 ≤ 7) ∧ (0 ≤ z + d.2.2 ∧ z + d.2.2 ≤ 7)) → inG (addC (a, b, z) d) = false := fun d hd => by
      cases e : inG (addC (a, b, z) d) with
      | false => rfl
      | true => exact absurd (inG_iff.1 e) hd
     have hcase : a = 0 ∨ a = 7 ∨ b = 0 ∨ b = 7 ∨ z = 0 ∨ z = 7 := by omega
     have U := unit_faces
     rcases hcase with rfl | rfl | rfl | rfl | rfl | rfl
     ·exact ⟨(-1, 0, 0), U.2.2.2.1, ho _ (by simp)⟩
     ·exact ⟨(1, 0, 0), U.1, ho _ (by simp)⟩
     ·exact ⟨(0, -1, 0), U.2.2.2.2.1, ho _ (by simp)⟩
     ·exact ⟨(0, 1, 0), U.2.1, ho _ (by simp)⟩
     ·exact ⟨(0, 0, -1), U.2.2.2.2.2, ho _ (by simp)⟩
     ·exact ⟨(0, 0, 1), U.2.2.1, ho _ (by simp)⟩
    obtain ⟨d, hd, hout⟩ := hd
    rw [← hw c hc, w_same hO hC hd hcs (hasS_out hout)]
    exact wC_out (of_box hO) hC hout
/-! corners -/
def Link (s : Sol) (p q : Cl) : Prop := ∃ T : Ch, (∀ e, T e = true → edgeP e = true ∧ onS s e) ∧ ∀ v, evs v = true → bnd T v = (decide (v = p) ^^ decide (v = q))
theorem Link.refl (s : Sol) (p : Cl) : Link s p p := ⟨fun _ => false, fun _ h => (by cases h), fun v _ => by rw [Bool.xor_self]; unfold bnd bx bY bz; simp⟩
theorem Link.symm {s : Sol} {p q : Cl} (h : Link s p q) : Link s q p := by
 obtain ⟨T, h1, h2⟩ := h
 exact ⟨T, h1, fun v hv => by rw [h2 v hv, Bool.xor_comm]⟩
theorem Link.trans {s : Sol} {p q r : Cl} (h : Link s p q) (k : Link s q r) : Link s p r := by
 obtain ⟨T, h1, h2⟩ := h
 obtain ⟨U, k1, k2⟩ := k
 refine ⟨fun e => T e ^^ U e, fun e he => ?_, fun v hv => ?_⟩
 ·cases ht : T e with
  | true => exact h1 e ht
  | false =>
   have : U e = true := by simpa [ht] using he
   exact k1 e this
 ·rw [bnd_xor, h2 v hv, k2 v hv]
  cases decide (v = p) <;> cases decide (v = q) <;> cases decide (v = r) <;> rfl
theorem link_x {s : Sol} {x y z : Int} (hx : x % 2 = 1) (hy : y % 2 = 0) (hz : z % 2 = 0) (h : onS s (x, y, z)) : Link s (x - 1, y, z) (x + 1, y, z) := by
 refine ⟨fun e => decide (e = (x, y, z)), fun e he => ?_, fun v hv => ?_⟩
 ·have := of_decide_eq_true he
  subst this
  exact ⟨by unfold edgeP; simp [hx, hy, hz], h⟩
 ·obtain ⟨a, b, c⟩ := v
  unfold evs at hv
  simp only [Bool.and_eq_true, decide_eq_true_eq] at hv
  obtain ⟨⟨ha, hb⟩, hc⟩ := hv
  unfold bnd bx bY bz
  simp only [ha, hb, hc, if_true, Prod.mk.injEq, show ¬ (a = x) by omega, false_and, decide_false, Bool.xor_false]
  rw [decide_eq_decide.2 (show (a + 1 = x ∧ b = y ∧ c = z) ↔ (a = x - 1 ∧ b = y ∧ c = z) by omega), decide_eq_decide.2 (show (a - 1 = x ∧ b = y ∧ c = z) ↔ (a = x + 1 ∧ b = y ∧ c = z) by omega)]
theorem link_y {s : Sol} {x y z : Int} (hx : x % 2 = 0) (hy : y % 2 = 1) (hz : z % 2 = 0) (h : onS s (x, y, z)) : Link s (x, y - 1, z) (x, y + 1, z) := by
 refine ⟨fun e => decide (e = (x, y, z)), fun e he => ?_, fun v hv => ?_⟩
 ·have := of_decide_eq_true he
  subst this
  exact ⟨by unfold edgeP; simp [hx, hy, hz], h⟩
 ·obtain ⟨a, b, c⟩ := v
  unfold evs at hv
  simp only [Bool.and_eq_true, decide_eq_true_eq] at hv
  obtain ⟨⟨ha, hb⟩, hc⟩ := hv
  unfold bnd bx bY bz
  simp only [ha, hb, hc, if_true, Prod.mk.injEq, show ¬ (b = y) by omega, false_and, and_false, decide_false, Bool.xor_false, Bool.false_xor]
  rw [decide_eq_decide.2 (show (a = x ∧ b + 1 = y ∧ c = z) ↔ (a = x ∧ b = y - 1 ∧ c = z) by omega), decide_eq_decide.2 (show (a = x ∧ b - 1 = y ∧ c = z) ↔ (a = x ∧ b = y + 1 ∧ c = z) by omega)]
theorem link_z {s : Sol} {x y z : Int} (hx : x % 2 = 0) (hy : y % 2 = 0) (hz : z % 2 = 1) (h : onS s (x, y, z)) : Link s (x, y, z - 1) (x, y, z + 1) := by
 refine ⟨fun e => decide (e = (x, y, z)), fun e he => ?_, fun v hv => ?_⟩
 ·have := of_decide_eq_true he
  subst this
  exact ⟨by unfold edgeP; simp [hx, hy, hz], h⟩
 ·obtain ⟨a, b, c⟩ := v
  unfold evs at hv
  simp only [Bool.and_eq_true, decide_eq_true_eq] at hv
  obtain ⟨⟨ha, hb⟩, hc⟩ := hv
  unfold bnd bx bY bz
  simp only [ha, hb, hc, if_true, Prod.mk.injEq, show ¬ (c = z) by omega, false_and, and_false, decide_false, Bool.xor_false, Bool.false_xor]
  rw [decide_eq_decide.2 (show (a = x ∧ b = y ∧ c + 1 = z) ↔ (a = x ∧ b = y ∧ c = z - 1) by omega), decide_eq_decide.2 (show (a = x ∧ b = y ∧ c - 1 = z) ↔ (a = x ∧ b = y ∧ c = z + 1) by omega)]
def lowC (c : Cl) : Cl := (2 * c.1, 2 * c.2.1, 2 * c.2.2)
theorem near_of {p c : Cl} (h0 : -1 ≤ p.1 - (2 * c.1 + 1) ∧ p.1 - (2 * c.1 + 1) ≤ 1) (h1 : -1 ≤ p.2.1 - (2 * c.2.1 + 1) ∧ p.2.1 - (2 * c.2.1 + 1) ≤ 1) (h2 : -1 ≤ p.2.2 - (2 * c.2.2 + 1) ∧ p.2.2 - (2 * c.2.2 + 1) ≤ 1) : nearC2 p c := fun k => by
 match k with
 | 0 => exact h0
 | 1 => exact h1
 | _ + 2 => exact h2
theorem link_corner {s : Sol} {c v : Cl} (hc : hasS s c = true) (hv : evs v = true) (hn : nearC2 v c) : Link s v (lowC c) := by
 obtain ⟨a, b, z⟩ := c
 obtain ⟨x, y, w⟩ := v
 have n0 : -1 ≤ x - (2 * a + 1) ∧ x - (2 * a + 1) ≤ 1 := hn 0
 have n1 : -1 ≤ y - (2 * b + 1) ∧ y - (2 * b + 1) ≤ 1 := hn 1
 have n2 : -1 ≤ w - (2 * z + 1) ∧ w - (2 * z + 1) ≤ 1 := hn 2
 unfold evs at hv
 simp only [Bool.and_eq_true, decide_eq_true_eq] at hv
 obtain ⟨⟨e0, e1⟩, e2⟩ := hv
 have L1 : Link s (x, y, w) (2 * a, y, w) := by
  by_cases h : x = 2 * a
  ·subst h; exact Link.refl s _
  ·have hx : x = 2 * a + 2 := by omega
   subst hx
   have := link_x (s := s) (x := 2 * a + 1) (y := y) (z := w) (by omega) e1 e2 (on_iff.2 ⟨(a, b, z), hc, near_of (by show -1 ≤ 2 * a + 1 - (2 * a + 1) ∧ 2 * a + 1 - (2 * a + 1) ≤ 1; omega) n1 n2⟩)
   rw [show 2 * a + 1 - 1 = 2 * a by omega, show 2 * a + 1 + 1 = 2 * a + 2 by omega] at this
   exact this.symm
 have L2 : Link s (2 * a, y, w) (2 * a, 2 * b, w) := by
  by_cases h : y = 2 * b
  ·subst h; exact Link.refl s _
  ·have hx : y = 2 * b + 2 := by omega
   subst hx
   have := link_y (s := s) (x := 2 * a) (y := 2 * b + 1) (z := w) (by omega) (by omega) e2 (on_iff.2 ⟨(a, b, z), hc, near_of (by show -1 ≤ 2 * a - (2 * a + 1) ∧ 2 * a - (2 * a + 1) ≤ 1; omega) (by show -1 ≤ 2 * b + 1 - (2 * b + 1) ∧ 2 * b + 1 - (2 * b + 1) ≤ 1; omega) n2⟩)
   rw [show 2 * b + 1 - 1 = 2 * b by omega, show 2 * b + 1 + 1 = 2 * b + 2 by omega] at this
   exact this.symm
 have L3 : Link s (2 * a, 2 * b, w) (2 * a, 2 * b, 2 * z) := by
  by_cases h : w = 2 * z
  ·subst h; exact Link.refl s _
  ·have hx : w = 2 * z + 2 := by omega
   subst hx
   have := link_z (s := s) (x := 2 * a) (y := 2 * b) (z := 2 * z + 1) (by omega) (by omega) (by omega) (on_iff.2 ⟨(a, b, z), hc, near_of (by show -1 ≤ 2 * a - (2 * a + 1) ∧ 2 * a - (2 * a + 1) ≤ 1; omega) (by show -1 ≤ 2 * b - (2 * b + 1) ∧ 2 * b - (2 * b + 1) ≤ 1; omega) (by show -1 ≤ 2 * z + 1 - (2 * z + 1) ∧ 2 * z + 1 - (2 * z + 1) ≤ 1; omega)⟩)
   rw [show 2 * z + 1 - 1 = 2 * z by omega, show 2 * z + 1 + 1 = 2 * z + 2 by omega] at this
   exact this.symm
 exact L1.trans (L2.trans L3)
theorem link_cells {s : Sol} {a b : Cl} (h : Reach (stepsL false) s a b) : Link s (lowC a) (lowC b) := by
 induction h with
 | start _ => exact Link.refl s _
 | @step e d hr hd hh ih =>
  refine ih.trans ?_
  have h0 := steps_in hd 0; have h1 := steps_in hd 1; have h2 := steps_in hd 2
  obtain ⟨a, b, z⟩ := e
  obtain ⟨x, y, w⟩ := d
  replace h0 : -1 ≤ x ∧ x ≤ 1 := h0
  replace h1 : -1 ≤ y ∧ y ≤ 1 := h1
  replace h2 : -1 ≤ w ∧ w ≤ 1 := h2
  have hv : evs (2 * a + 2 * max x 0, 2 * b + 2 * max y 0, 2 * z + 2 * max w 0) = true := by
   unfold evs
   simp only [Bool.and_eq_true, decide_eq_true_eq]
   omega
  refine (link_corner (v := (2 * a + 2 * max x 0, 2 * b + 2 * max y 0, 2 * z + 2 * max w 0)) hr.has hv (near_of ?_ ?_ ?_)).symm.trans (link_corner hh hv (near_of ?_ ?_ ?_))
  ·show -1 ≤ 2 * a + 2 * max x 0 - (2 * a + 1) ∧ 2 * a + 2 * max x 0 - (2 * a + 1) ≤ 1; omega
  ·show -1 ≤ 2 * b + 2 * max y 0 - (2 * b + 1) ∧ 2 * b + 2 * max y 0 - (2 * b + 1) ≤ 1; omega
  ·show -1 ≤ 2 * z + 2 * max w 0 - (2 * z + 1) ∧ 2 * z + 2 * max w 0 - (2 * z + 1) ≤ 1; omega
  ·show -1 ≤ 2 * a + 2 * max x 0 - (2 * (a + x) + 1) ∧ 2 * a + 2 * max x 0 - (2 * (a + x) + 1) ≤ 1; omega
  ·show -1 ≤ 2 * b + 2 * max y 0 - (2 * (b + y) + 1) ∧ 2 * b + 2 * max y 0 - (2 * (b + y) + 1) ≤ 1; omega
  ·show -1 ≤ 2 * z + 2 * max w 0 - (2 * (z + w) + 1) ∧ 2 * z + 2 * max w 0 - (2 * (z + w) + 1) ≤ 1; omega
/-- a corner for each part, with which all corners of the part are led together -/
theorem roots (s : Sol) : ∃ R : List Cl, R.length = (partsS s).length ∧ ∀ v, evs v = true → onS s v → ∃ r ∈ R, Link s v r := by
 have hP := classes_parts (steps_sym false) s
 have hch : ∀ K : { K // K ∈ partsS s }, ∃ c, IsComp (stepsL false) s c K.1 := fun K => by
  obtain ⟨c, _, h, _⟩ := hP.comp K.1 K.2
  exact ⟨c, h⟩
 obtain ⟨f, hf⟩ := Classical.axiomOfChoice hch
 refine ⟨(partsS s).attach.map fun K => lowC (f K), by rw [List.length_map, List.length_attach], fun v hv hon => ?_⟩
 obtain ⟨c, hc, hn⟩ := on_iff.1 hon
 obtain ⟨K, hK, hKc⟩ := hP.all c hc
 refine ⟨lowC (f ⟨K, hK⟩), List.mem_map.2 ⟨⟨K, hK⟩, List.mem_attach _ _, rfl⟩, ?_⟩
 exact (link_corner hc hv hn).trans (link_cells ((hf ⟨K, hK⟩).reach c hKc)).symm
end Go.Solid
end
