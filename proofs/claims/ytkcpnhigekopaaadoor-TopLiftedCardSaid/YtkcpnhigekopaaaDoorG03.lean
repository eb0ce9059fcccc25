import Derived.Test.YtkcpnhigekopaaaDoorG02
/-
  Given contracts of functions of the program, and laws for them, one behind the other.
-/
set_option linter.unusedVariables false
set_option linter.unusedSimpArgs false
set_option linter.unusedSectionVars false
section
namespace Go.Draw
set_option maxRecDepth 10000
/-! ### the reference's stand -/
def pieceR (m : List Sol) (n : Nat) : Int := match (List.range m.length).find? fun i => (m.getD i 0).getLsbD n with
 | some i => i
 | none => -1
def leavesR (s : Sol) (dx dy : Int) : Bool := (List.range 512).any fun n => s.getLsbD n && !decide (0 ≤ ((n % 8 : Nat) : Int) + dx ∧ ((n % 8 : Nat) : Int) + dx ≤ 7 ∧ 0 ≤ ((n / 8 % 8 : Nat) : Int) + dy ∧ ((n / 8 % 8 : Nat) : Int) + dy ≤ 7)
def hitR (m : List Sol) (gone : List Int) (own : Nat) (dx dy up : Int) (n : Nat) : Option (Int × Int) :=
 if has (m.getD own 0) ((n % 8 : Nat) - dx) ((n / 8 % 8 : Nat) - dy) ((n / 64 : Nat) - up) && (pieceR m n != (own : Int)) && (decide (pieceR m n < 0) || !gone.contains (pieceR m n)) then some ((n : Int), pieceR m n) else none
def dxR (x : Mv) (t : Nat) : Int := dxS x.2.1 * (min t x.2.2 : Nat)
def dyR (x : Mv) (t : Nat) : Int := dyS x.2.1 * (min t x.2.2 : Nat)
def upR (x : Mv) (t : Nat) : Int := (t - min t x.2.2 : Nat)
def standStep (m : List Sol) (gone : List Int) (x : Mv) (t : Nat) : Option (Int × Int) :=
 if leavesR (m.getD x.1 0) (dxR x t) (dyR x t) then some (-1, -1) else (List.range 512).findSome? (hitR m gone x.1 (dxR x t) (dyR x t) (upR x t))
/-- from step t on -/
def standF (m : List Sol) (gone : List Int) (x : Mv) : Nat → Nat → Option (Int × Int)
 | 0, _ => none
 | n + 1, t => if t ≤ x.2.2 + 8 then (match standStep m gone x t with
  | some z => some z
  | none => standF m gone x n (t + 1)) else none
def standM (m : List Sol) (gone : List Int) (x : Mv) : Option (Int × Int) := standF m gone x 16 1
/-! ### it is what the program finds -/
def Apart (m : List Sol) : Prop := ∀ i j, i < m.length → j < m.length → i ≠ j → ∀ n, (m.getD i 0).getLsbD n = true → (m.getD j 0).getLsbD n = false
theorem allS_bit_from (m : List Sol) (a : Sol) (n : Nat) : (m.foldl (· ||| ·) a).getLsbD n = (a.getLsbD n || m.any fun s => s.getLsbD n) := by
 induction m generalizing a with
 | nil => simp
 | cons s m ih => rw [List.foldl_cons, ih]; simp [Bool.or_assoc]
theorem sand_bit (m : List Sol) (n : Nat) (hn : n < 512) : (sandM m).getLsbD n = !(m.any fun s => s.getLsbD n) := by
 unfold sandM allS
 rw [BitVec.getLsbD_not, allS_bit_from]
 simp [hn]
theorem any_getD (m : List Sol) (n : Nat) : (m.any fun s => s.getLsbD n) = ((List.range m.length).any fun i => (m.getD i 0).getLsbD n) := by
 rw [Bool.eq_iff_iff, List.any_eq_true, List.any_eq_true]
 constructor
 ·rintro ⟨s, hs, h⟩
  obtain ⟨i, hi⟩ := List.mem_iff_getElem?.1 hs
  refine ⟨i, List.mem_range.2 (List.getElem?_eq_some_iff.1 hi).1, ?_⟩
  simpa [hi] using h
 ·rintro ⟨i, hi, h⟩
  have hl := List.mem_range.1 hi
  refine ⟨m[i], List.getElem_mem hl, ?_⟩
  simpa [hl] using h
theorem atCell_eq (m : List Sol) (hA : Apart m) (own : Nat) (G : U) (g : List Int) (hG : ∀ i, i < m.length → G.getLsbD i = g.contains (i : Int)) (n : Nat) (hn : n < 512) :
  atCell m own G n = if (pieceR m n != (own : Int)) && (decide (pieceR m n < 0) || !g.contains (pieceR m n)) then some (pieceR m n) else none := by
 unfold atCell
 rw [sand_bit m n hn, any_getD]
 unfold pieceR
 cases hf : (List.range m.length).find? fun i => (m.getD i 0).getLsbD n with
 | none =>
  have : ((List.range m.length).any fun i => (m.getD i 0).getLsbD n) = false := by
   rw [List.any_eq_false]
   intro i hi
   have := List.find?_eq_none.1 hf i hi
   simpa using this
  have h2 : ((-1 : Int) != (own : Int)) = true := by simp
  simp only [this, h2]
  simp
 | some i =>
  have hi : i < m.length := List.mem_range.1 (List.mem_of_find?_eq_some hf)
  have hb : (m.getD i 0).getLsbD n = true := by simpa using List.find?_some hf
  have : ((List.range m.length).any fun i => (m.getD i 0).getLsbD n) = true := List.any_eq_true.2 ⟨i, List.mem_range.2 hi, hb⟩
  rw [this]
  simp only [Bool.not_true, Bool.false_eq_true, if_false]
  have h0 : decide ((i : Int) < 0) = false := by simp
  rw [h0, Bool.false_or]
  have hc : ((i : Int) != (own : Int)) = (i != own) := by
   rw [Bool.eq_iff_iff]; simp; omega
  rw [hc, ← hG i hi]
  by_cases hq : (i != own && !G.getLsbD i) = true
  ·rw [if_pos hq]
   have : (List.range m.length).find? (fun j => j != own && !G.getLsbD j && (m.getD j 0).getLsbD n) = some i := by
    rw [List.find?_eq_some_iff_getElem]
    refine ⟨by rw [hq, hb]; rfl, i, by simpa using hi, by simp, ?_⟩
    intro j hj
    simp only [List.getElem_range]
    have := hA i j hi (by omega) (by omega) n hb
    simp only [this, Bool.and_false, Bool.not_false]
   rw [this]; rfl
  ·rw [if_neg hq]
   have : (List.range m.length).find? (fun j => j != own && !G.getLsbD j && (m.getD j 0).getLsbD n) = none := by
    rw [List.find?_eq_none]
    intro j hj
    have hjl := List.mem_range.1 hj
    by_cases e : j = i
    ·subst e; intro h; apply hq
     simp only [Bool.and_eq_true] at h ⊢; exact h.1
    ·have := hA i j hi hjl (by omega) n hb
     simp only [this, Bool.and_false]; simp
   rw [this]; rfl
/-- the cells of s, a cells to the side and u up, are those of b -/
def At (s : Sol) (side a u : Nat) (b : Sol) : Prop := ∀ n, n < 512 → b.getLsbD n = has s ((n % 8 : Nat) - dxS side * a) ((n / 8 % 8 : Nat) - dyS side * a) ((n / 64 : Nat) - (u : Int))
def NL (s : Sol) (side a : Nat) : Prop := ∀ n, n < 512 → s.getLsbD n = true → 0 ≤ ((n % 8 : Nat) : Int) + dxS side * a ∧ ((n % 8 : Nat) : Int) + dxS side * a ≤ 7 ∧ 0 ≤ ((n / 8 % 8 : Nat) : Int) + dyS side * a ∧ ((n / 8 % 8 : Nat) : Int) + dyS side * a ≤ 7
theorem At.zero (s : Sol) (side : Nat) : At s side 0 0 s := by
 intro n hn
 have := has_bit s n hn
 simpa using this.symm
theorem has_out (s : Sol) (x y z : Int) (h : ¬ (0 ≤ x ∧ x ≤ 7 ∧ 0 ≤ y ∧ y ≤ 7 ∧ 0 ≤ z ∧ z ≤ 7)) : has s x y z = false := by
 unfold has; rw [decide_eq_false h]; simp
theorem has_in (s : Sol) (x y z : Int) (h : 0 ≤ x ∧ x ≤ 7 ∧ 0 ≤ y ∧ y ≤ 7 ∧ 0 ≤ z ∧ z ≤ 7) : has s x y z = s.getLsbD (64 * z + 8 * y + x).toNat := by
 unfold has; rw [decide_eq_true h]; simp
theorem At.has {s b : Sol} {side a u : Nat} (h : At s side a u b) (x y z : Int) (hr : 0 ≤ x ∧ x ≤ 7 ∧ 0 ≤ y ∧ y ≤ 7 ∧ 0 ≤ z ∧ z ≤ 7) : Go.Draw.has b x y z = Go.Draw.has s (x - dxS side * a) (y - dyS side * a) (z - u) := by
 rw [has_in _ _ _ _ hr, h _ (by omega)]
 congr 1
 ·omega
 ·omega
 ·omega
theorem At.step {s b : Sol} {side a : Nat} (hs : 1 ≤ side ∧ side ≤ 4) (h : At s side a 0 b) : At s side (a + 1) 0 (stepS side b) := by
 intro n hn
 rw [step_bit side hs b n hn]
 by_cases hr : 0 ≤ ((n % 8 : Nat) : Int) - dxS side ∧ ((n % 8 : Nat) : Int) - dxS side ≤ 7 ∧ 0 ≤ ((n / 8 % 8 : Nat) : Int) - dyS side ∧ ((n / 8 % 8 : Nat) : Int) - dyS side ≤ 7
 ·rw [h.has _ _ _ ⟨hr.1, hr.2.1, hr.2.2.1, hr.2.2.2, by omega, by omega⟩]
  obtain rfl | rfl | rfl | rfl : side = 1 ∨ side = 2 ∨ side = 3 ∨ side = 4 := by omega
  all_goals
   simp only [dxS, dyS]
   congr 1 <;> omega
 ·rw [has_out _ _ _ _ (by omega), has_out]
  obtain rfl | rfl | rfl | rfl : side = 1 ∨ side = 2 ∨ side = 3 ∨ side = 4 := by omega
  all_goals
   simp only [dxS, dyS] at hr ⊢
   omega
theorem At.in {s b : Sol} {side a : Nat} (hs : 1 ≤ side ∧ side ≤ 4) (h : At s side a 0 b) (hN : NL s side a) : inS side b = true ↔ NL s side (a + 1) := by
 rw [in_iff side hs]
 constructor
 ·intro H n hn hb
  have h0 := hN n hn hb
  generalize hx : (((n % 8 : Nat) : Int) + dxS side * a).toNat = x'
  generalize hy : (((n / 8 % 8 : Nat) : Int) + dyS side * a).toNat = y'
  have ex : ((x' : Nat) : Int) = ((n % 8 : Nat) : Int) + dxS side * a := by omega
  have ey : ((y' : Nat) : Int) = ((n / 8 % 8 : Nat) : Int) + dyS side * a := by omega
  have hn' : 64 * (n / 64) + 8 * y' + x' < 512 := by omega
  have m1 : (64 * (n / 64) + 8 * y' + x') % 8 = x' := by omega
  have m2 : (64 * (n / 64) + 8 * y' + x') / 8 % 8 = y' := by omega
  have m3 : (64 * (n / 64) + 8 * y' + x') / 64 = n / 64 := by omega
  have hb' : b.getLsbD (64 * (n / 64) + 8 * y' + x') = true := by
   rw [h _ hn', m1, m2, m3, ex, ey]
   have := has_bit s n hn
   rw [hb] at this
   rw [← this]
   congr 1 <;> omega
  have := H _ hn' hb'
  rw [m1, m2, ex, ey] at this
  obtain rfl | rfl | rfl | rfl : side = 1 ∨ side = 2 ∨ side = 3 ∨ side = 4 := by omega
  all_goals
   simp only [dxS, dyS] at this ⊢
   omega
 ·intro H n hn hb
  rw [h n hn] at hb
  by_cases hr : 0 ≤ ((n % 8 : Nat) : Int) - dxS side * a ∧ ((n % 8 : Nat) : Int) - dxS side * a ≤ 7 ∧ 0 ≤ ((n / 8 % 8 : Nat) : Int) - dyS side * a ∧ ((n / 8 % 8 : Nat) : Int) - dyS side * a ≤ 7 ∧ (0 : Int) ≤ ((n / 64 : Nat) : Int) - ((0 : Nat) : Int) ∧ ((n / 64 : Nat) : Int) - ((0 : Nat) : Int) ≤ 7
  ·rw [has_in _ _ _ _ hr] at hb
   have := H _ (by omega) hb
   generalize hx : ((n % 8 : Nat) : Int) - dxS side * a = X at *
   generalize hy : ((n / 8 % 8 : Nat) : Int) - dyS side * a = Y at *
   have q1 : (((64 * (((n / 64 : Nat) : Int) - ((0 : Nat) : Int)) + 8 * Y + X).toNat % 8 : Nat) : Int) = X := by omega
   have q2 : (((64 * (((n / 64 : Nat) : Int) - ((0 : Nat) : Int)) + 8 * Y + X).toNat / 8 % 8 : Nat) : Int) = Y := by omega
   rw [q1, q2] at this
   obtain rfl | rfl | rfl | rfl : side = 1 ∨ side = 2 ∨ side = 3 ∨ side = 4 := by omega
   all_goals
    simp only [dxS, dyS] at this hx hy ⊢
    omega
  ·rw [has_out _ _ _ _ hr] at hb; cases hb
theorem At.up {s b : Sol} {side a u : Nat} (h : At s side a u b) : At s side a (u + 1) (upS b) := by
 intro n hn
 rw [up_bit b n hn]
 by_cases h64 : 64 ≤ n
 ·rw [decide_eq_true h64, Bool.true_and, h _ (by omega)]
  congr 1
  ·omega
  ·omega
  ·omega
 ·rw [decide_eq_false h64, has_out]
  ·rfl
  ·omega

theorem leaves_eq (s : Sol) (side a : Nat) : leavesR s (dxS side * a) (dyS side * a) = true ↔ ¬ NL s side a := by
 unfold leavesR NL
 rw [List.any_eq_true]
 constructor
 ·rintro ⟨n, hn, h⟩ H
  simp only [Bool.and_eq_true, Bool.not_eq_true', decide_eq_false_iff_not] at h
  exact h.2 (H n (List.mem_range.1 hn) h.1)
 ·intro H
  apply Classical.byContradiction
  intro H2
  apply H
  intro n hn hb
  apply Classical.byContradiction
  intro h3
  exact H2 ⟨n, List.mem_range.2 hn, by rw [hb, decide_eq_false h3]; rfl⟩
theorem findSome_congr {α β : Type} {f g : α → Option β} {l : List α} (h : ∀ x ∈ l, f x = g x) : l.findSome? f = l.findSome? g := by
 induction l with
 | nil => rfl
 | cons a l ih =>
  rw [List.findSome?_cons, List.findSome?_cons, h a (by simp), ih (fun x hx => h x (by simp [hx]))]
theorem atM_eq (m : List Sol) (hA : Apart m) (own side a u : Nat) (G : U) (g : List Int) (hG : ∀ i, i < m.length → G.getLsbD i = g.contains (i : Int)) (b : Sol) (h : At (m.getD own 0) side a u b) :
  atM m own G b = (List.range 512).findSome? (hitR m g own (dxS side * a) (dyS side * a) u) := by
 unfold atM
 apply findSome_congr
 intro n hn
 have hl := List.mem_range.1 hn
 rw [atCell_eq m hA own G g hG n hl]
 unfold hitR
 rw [← h n hl, Bool.and_assoc]
 cases b.getLsbD n
 ·simp
 ·simp only [Bool.true_and, if_true]
  split <;> rfl
def hldF (m : List Sol) (own : Nat) (G : U) (y : Sol × Bool) : Option (Int × Int) := if y.2 then atM m own G y.1 else some (-1, -1)
theorem up_zero : upS 0 = 0 := by
 apply BitVec.eq_of_getLsbD_eq
 intro i hi
 rw [up_bit _ _ hi]; simp
theorem standStep_far (m : List Sol) (g : List Int) (x : Mv) (u : Nat) (hN : NL (m.getD x.1 0) x.2.1 x.2.2) : standStep m g x (x.2.2 + u + 1) = (List.range 512).findSome? (hitR m g x.1 (dxS x.2.1 * x.2.2) (dyS x.2.1 * x.2.2) (u + 1 : Nat)) := by
 unfold standStep
 have e1 : dxR x (x.2.2 + u + 1) = dxS x.2.1 * x.2.2 := by unfold dxR; rw [Nat.min_eq_right (by omega)]
 have e2 : dyR x (x.2.2 + u + 1) = dyS x.2.1 * x.2.2 := by unfold dyR; rw [Nat.min_eq_right (by omega)]
 have e3 : upR x (x.2.2 + u + 1) = (u + 1 : Nat) := by unfold upR; rw [Nat.min_eq_right (by omega)]; omega
 rw [e1, e2, e3, if_neg]
 intro h
 exact (leaves_eq _ _ _).1 h hN
theorem standStep_side (m : List Sol) (g : List Int) (x : Mv) (j : Nat) (hj : j + 1 ≤ x.2.2) : standStep m g x (j + 1) = if leavesR (m.getD x.1 0) (dxS x.2.1 * (j + 1 : Nat)) (dyS x.2.1 * (j + 1 : Nat)) then some (-1, -1) else (List.range 512).findSome? (hitR m g x.1 (dxS x.2.1 * (j + 1 : Nat)) (dyS x.2.1 * (j + 1 : Nat)) (0 : Nat)) := by
 unfold standStep
 have e1 : dxR x (j + 1) = dxS x.2.1 * (j + 1 : Nat) := by unfold dxR; rw [Nat.min_eq_left hj]
 have e2 : dyR x (j + 1) = dyS x.2.1 * (j + 1 : Nat) := by unfold dyR; rw [Nat.min_eq_left hj]
 have e3 : upR x (j + 1) = (0 : Nat) := by unfold upR; rw [Nat.min_eq_left hj]; omega
 rw [e1, e2, e3]
theorem stand_empty (m : List Sol) (hA : Apart m) (x : Mv) (G : U) (g : List Int) (hG : ∀ i, i < m.length → G.getLsbD i = g.contains (i : Int)) (hN : NL (m.getD x.1 0) x.2.1 x.2.2) : ∀ n u, At (m.getD x.1 0) x.2.1 x.2.2 u 0 → standF m g x n (x.2.2 + u + 1) = none
 | 0, _, _ => rfl
 | n + 1, u, h => by
  have h1 := h.up
  rw [up_zero] at h1
  have e : standStep m g x (x.2.2 + u + 1) = none := by
   rw [standStep_far m g x u hN, ← atM_eq m hA x.1 x.2.1 x.2.2 (u + 1) G g hG 0 h1]
   unfold atM
   rw [List.findSome?_eq_none_iff]
   intro k _; simp
  unfold standF
  rw [e]
  have := stand_empty m hA x G g hG hN n (u + 1) h1
  split
  ·exact this
  ·rfl
theorem ups_stand (m : List Sol) (hA : Apart m) (x : Mv) (G : U) (g : List Int) (hG : ∀ i, i < m.length → G.getLsbD i = g.contains (i : Int)) (hN : NL (m.getD x.1 0) x.2.1 x.2.2) : ∀ k n u b, k + u = 8 → k ≤ n → At (m.getD x.1 0) x.2.1 x.2.2 u b →
  (upsL k b).findSome? (hldF m x.1 G) = standF m g x n (x.2.2 + u + 1)
 | 0, n, u, b, hk, _, _ => by
  cases n with
  | zero => rfl
  | succ n => unfold standF upsL; rw [if_neg (by omega)]; rfl
 | k + 1, n, u, b, hk, hn, h => by
  obtain ⟨n, rfl⟩ : ∃ n', n = n' + 1 := ⟨n - 1, by omega⟩
  have h1 := h.up
  unfold upsL
  by_cases h0 : upS b = 0
  ·rw [if_pos h0]
   rw [h0] at h1
   have e : standStep m g x (x.2.2 + u + 1) = none := by
    rw [standStep_far m g x u hN, ← atM_eq m hA x.1 x.2.1 x.2.2 (u + 1) G g hG 0 h1]
    unfold atM
    rw [List.findSome?_eq_none_iff]
    intro k _; simp
   unfold standF
   rw [e, if_pos (by omega)]
   exact (stand_empty m hA x G g hG hN n (u + 1) h1).symm
  ·rw [if_neg h0, List.findSome?_cons]
   have ih := ups_stand m hA x G g hG hN k n (u + 1) (upS b) (by omega) (by omega) h1
   unfold standF
   rw [if_pos (by omega), standStep_far m g x u hN, ← atM_eq m hA x.1 x.2.1 x.2.2 (u + 1) G g hG _ h1, ih]
   have e0 : hldF m x.1 G (upS b, true) = atM m x.1 G (upS b) := rfl
   rw [e0]
   cases atM m x.1 G (upS b) <;> rfl
theorem way_stand (m : List Sol) (hA : Apart m) (x : Mv) (hx : x.2.2 = 0 ∨ 1 ≤ x.2.1 ∧ x.2.1 ≤ 4) (G : U) (g : List Int) (hG : ∀ i, i < m.length → G.getLsbD i = g.contains (i : Int)) : ∀ k n j b, j + k = x.2.2 → n = k + 8 → At (m.getD x.1 0) x.2.1 j 0 b → NL (m.getD x.1 0) x.2.1 j →
  ∀ e, (wayL x.2.1 k b).findSome? (hldF m x.1 G) = standF m g x (n + e) (j + 1)
 | 0, n, j, b, hk, hn, h, hN, e => by
  have : j = x.2.2 := by omega
  subst this
  unfold wayL
  exact ups_stand m hA x G g hG hN 8 (n + e) 0 b rfl (by omega) h
 | k + 1, n, j, b, hk, hn, h, hN, e => by
  have hs : 1 ≤ x.2.1 ∧ x.2.1 ≤ 4 := by rcases hx with h | h; omega; exact h
  obtain ⟨n, rfl⟩ : ∃ n', n = n' + 1 := ⟨n - 1, by omega⟩
  have hin := h.in hs hN
  rw [show n + 1 + e = n + e + 1 by omega]
  unfold wayL standF
  rw [if_pos (by omega : j + 1 ≤ x.2.2 + 8), standStep_side m g x j (by omega)]
  by_cases hi : inS x.2.1 b = true
  ·have h1 := h.step hs
   have hN1 := hin.1 hi
   rw [if_pos hi, List.findSome?_cons]
   have ih := way_stand m hA x hx G g hG k n (j + 1) _ (by omega) (by omega) h1 hN1 e
   rw [if_neg (fun hl => (leaves_eq _ _ _).1 hl hN1), ← atM_eq m hA x.1 x.2.1 (j + 1) 0 G g hG _ h1, ih]
   have e0 : hldF m x.1 G (stepS x.2.1 b, true) = atM m x.1 G (stepS x.2.1 b) := rfl
   rw [e0]
   cases atM m x.1 G (stepS x.2.1 b) <;> rfl
  ·rw [if_neg hi, if_pos ((leaves_eq _ _ _).2 (fun hl => hi (hin.2 hl)))]
   rfl
theorem NL_zero (s : Sol) (side : Nat) : NL s side 0 := by
 intro n hn hb
 simp only [Int.natCast_zero, Int.mul_zero]
 omega
def IsMv (n : Nat) (x : Mv) : Prop := x.1 < n ∧ (x.2.1 = 0 ∧ x.2.2 = 0 ∨ 1 ≤ x.2.1 ∧ x.2.1 ≤ 4 ∧ 1 ≤ x.2.2 ∧ x.2.2 ≤ 7)
theorem holds_stand (m : List Sol) (hA : Apart m) (x : Mv) (hx : IsMv m.length x) (G : U) (g : List Int) (hG : ∀ i, i < m.length → G.getLsbD i = g.contains (i : Int)) : holdsM m G x = standM m g x := by
 unfold holdsM standM
 have h7 : x.2.2 ≤ 7 := by rcases hx.2 with h | h <;> omega
 have := way_stand m hA x (by rcases hx.2 with h | h; exact .inl h.2; exact .inr ⟨h.1, h.2.1⟩) G g hG x.2.2 (x.2.2 + 8) 0 (m.getD x.1 0) (by omega) rfl (At.zero _ _) (NL_zero _ _) (8 - x.2.2)
 rw [show x.2.2 + 8 + (8 - x.2.2) = 16 by omega] at this
 exact this
end Go.Draw
end
section
namespace Go.Draw
set_option maxRecDepth 10000
theorem meets_iff (b c : Sol) : meets b c = true ↔ ∃ n, n < 512 ∧ b.getLsbD n = true ∧ c.getLsbD n = true := by
 unfold meets
 rw [bne_iff_ne, ne_eq]
 constructor
 ·intro h
  apply Classical.byContradiction
  intro H
  apply h
  apply BitVec.eq_of_getLsbD_eq
  intro i hi
  rw [BitVec.getLsbD_and]
  cases hb : b.getLsbD i <;> cases hc : c.getLsbD i <;> simp
  exact H ⟨i, hi, hb, hc⟩
 ·rintro ⟨n, hn, hb, hc⟩ h
  have := congrArg (fun v => v.getLsbD n) h
  simp only [BitVec.getLsbD_and, hb, hc] at this
  simp at this
theorem bit_bit (k i : Nat) (hk : k < 64) : (bit k).getLsbD i = decide (i = k) := by
 unfold bit
 rw [BitVec.getLsbD_shiftLeft, BitVec.getLsbD_one]
 by_cases h : i = k
 ·subst h; simp [hk]
 ·simp only [h, decide_false]
  by_cases h2 : i < k
  ·simp [h2]
  ·have : i - k ≠ 0 := by omega
   simp [this]
theorem meetF_bit (m : List Sol) (p : Nat) (b : Sol) (acc : U) (i : Nat) : ∀ k, k ≤ 64 → (meetF m p b acc k).getLsbD i = (acc.getLsbD i || (decide (i < k) && i != p && meets b (m.getD i 0)))
 | 0, _ => by simp [meetF]
 | k + 1, hk => by
  have ih := meetF_bit m p b acc i k (by omega)
  unfold meetF
  by_cases h : k ≠ p ∧ meets b (m.getD k 0) = true
  ·rw [if_pos h, BitVec.getLsbD_or, ih, bit_bit k i (by omega)]
   by_cases e : i = k
   ·subst e; rw [h.2]; simp [h.1]
   ·simp [e, show i < k + 1 ↔ i < k by omega]
  ·rw [if_neg h, ih]
   by_cases e : i = k
   ·subst e
    have : (i != p && meets b (m.getD i 0)) = false := by
     cases hm : meets b (m.getD i 0)
     ·rw [Bool.and_false]
     ·by_cases hp : i = p
      ·simp [hp]
      ·exact absurd ⟨hp, hm⟩ h
    simp only [Bool.and_assoc, this, Bool.and_false]
   ·simp [show i < k + 1 ↔ i < k by omega]
theorem inFold (m : List Sol) (p : Nat) (hm : m.length ≤ 64) (l : List (Sol × Bool)) : ∀ w : U × Bool,
  (l.foldl (inStep m p) w).2 = (w.2 || l.any fun y => !y.2 || meets y.1 (sandM m)) ∧
  ∀ i, (l.foldl (inStep m p) w).1.getLsbD i = (w.1.getLsbD i || (decide (i < m.length) && i != p && l.any fun y => meets y.1 (m.getD i 0))) := by
 induction l with
 | nil => intro w; simp
 | cons y l ih =>
  intro w
  obtain ⟨h1, h2⟩ := ih (inStep m p w y)
  rw [List.foldl_cons]
  constructor
  ·rw [h1]; simp [inStep, Bool.or_assoc]
  ·intro i
   rw [h2 i]
   unfold inStep
   dsimp only
   rw [meetF_bit m p y.1 w.1 i _ hm, List.any_cons]
   cases w.1.getLsbD i <;> cases decide (i < m.length) <;> cases i != p <;> cases meets y.1 (m.getD i 0) <;> simp
theorem inWay_sand (m : List Sol) (hm : m.length ≤ 64) (x : Mv) : (inWayM m x).2 = (wayL x.2.1 x.2.2 (m.getD x.1 0)).any fun y => !y.2 || meets y.1 (sandM m) := by
 unfold inWayM; rw [(inFold m x.1 hm _ _).1]; simp
theorem inWay_bit (m : List Sol) (hm : m.length ≤ 64) (x : Mv) (i : Nat) : (inWayM m x).1.getLsbD i = (decide (i < m.length) && i != x.1 && (wayL x.2.1 x.2.2 (m.getD x.1 0)).any fun y => meets y.1 (m.getD i 0)) := by
 unfold inWayM; rw [(inFold m x.1 hm _ _).2]; simp
theorem findSome_isSome {α β : Type} (f : α → Option β) (l : List α) : (l.findSome? f).isSome = l.any fun x => (f x).isSome := by
 induction l with
 | nil => rfl
 | cons a l ih =>
  rw [List.findSome?_cons, List.any_cons]
  cases h : f a
  ·simpa using ih
  ·simp
theorem find_isSome {α : Type} (f : α → Bool) (l : List α) : (l.find? f).isSome = l.any f := by
 induction l with
 | nil => rfl
 | cons a l ih =>
  rw [List.find?_cons, List.any_cons]
  cases h : f a
  ·simpa using ih
  ·simp
theorem atM_some (m : List Sol) (own : Nat) (G : U) (b : Sol) : (atM m own G b).isSome = (meets b (sandM m) || (List.range m.length).any fun i => i != own && !G.getLsbD i && meets b (m.getD i 0)) := by
 unfold atM
 rw [findSome_isSome, Bool.eq_iff_iff, List.any_eq_true, Bool.or_eq_true, meets_iff, List.any_eq_true]
 constructor
 ·rintro ⟨n, hn, h⟩
  have hl := List.mem_range.1 hn
  by_cases hb : b.getLsbD n = true
  ·rw [if_pos hb, Option.isSome_map] at h
   unfold atCell at h
   by_cases hs : (sandM m).getLsbD n = true
   ·exact .inl ⟨n, hl, hb, hs⟩
   ·rw [if_neg hs, Option.isSome_map, find_isSome, List.any_eq_true] at h
    obtain ⟨i, hi, hc⟩ := h
    refine .inr ⟨i, hi, ?_⟩
    simp only [Bool.and_eq_true] at hc ⊢
    exact ⟨hc.1, (meets_iff _ _).2 ⟨n, hl, hb, hc.2⟩⟩
  ·rw [if_neg hb] at h; cases h
 ·rintro (⟨n, hn, hb, hs⟩ | ⟨i, hi, h⟩)
  ·refine ⟨n, List.mem_range.2 hn, ?_⟩
   rw [if_pos hb]; unfold atCell; rw [if_pos hs]; rfl
  ·simp only [Bool.and_eq_true] at h
   obtain ⟨n, hn, hb, hc⟩ := (meets_iff _ _).1 h.2
   refine ⟨n, List.mem_range.2 hn, ?_⟩
   rw [if_pos hb, Option.isSome_map]; unfold atCell
   split
   ·rfl
   ·rw [Option.isSome_map, find_isSome, List.any_eq_true]
    refine ⟨i, hi, ?_⟩
    simp only [Bool.and_eq_true]
    exact ⟨h.1, hc⟩
theorem holds_some (m : List Sol) (G : U) (x : Mv) : (holdsM m G x).isSome = (wayL x.2.1 x.2.2 (m.getD x.1 0)).any fun y => !y.2 || meets y.1 (sandM m) || (List.range m.length).any fun i => i != x.1 && !G.getLsbD i && meets y.1 (m.getD i 0) := by
 unfold holdsM
 rw [findSome_isSome]
 congr 1
 funext y
 cases hy : y.2
 ·simp
 ·simp only [if_true, Bool.not_true, Bool.false_or]
  exact atM_some _ _ _ _
/-- what lies in a move's way: free exactly if nothing holds -/
theorem free_holds (m : List Sol) (hm : m.length ≤ 64) (x : Mv) (G : U) : freeM m x G = !(holdsM m G x).isSome := by
 unfold freeM
 rw [holds_some, inWay_sand m hm]
 rw [Bool.eq_iff_iff]
 simp only [Bool.and_eq_true, Bool.not_eq_true', beq_iff_eq, List.any_eq_false]
 rw [zero_bits]
 constructor
 ·rintro ⟨h1, h2⟩ y hy
  have h1y := h1 y hy
  intro hc
  rw [Bool.or_eq_true] at hc
  rcases hc with hc | hc
  ·exact h1y hc
  ·obtain ⟨i, hi, h⟩ := List.any_eq_true.1 hc
   have hl := List.mem_range.1 hi
   have := h2 i (by omega)
   rw [BitVec.getLsbD_and, BitVec.getLsbD_not, inWay_bit m hm] at this
   simp only [Bool.and_eq_true] at h
   have ha : ((wayL x.2.1 x.2.2 (m.getD x.1 0)).any fun y => meets y.1 (m.getD i 0)) = true := List.any_eq_true.2 ⟨y, hy, h.2⟩
   rw [ha, decide_eq_true hl, h.1.1, decide_eq_true (by omega : i < 64)] at this
   have h3 := h.1.2
   rw [Bool.not_eq_true'] at h3
   rw [h3] at this
   cases this
 ·intro H
  refine ⟨fun y hy hc => H y hy (by rw [hc]; rfl), fun i hi => ?_⟩
  rw [BitVec.getLsbD_and, BitVec.getLsbD_not, inWay_bit m hm]
  cases hl : decide (i < m.length)
  ·simp
  cases hp : i != x.1
  ·simp
  cases hG : G.getLsbD i
  ·have : ((wayL x.2.1 x.2.2 (m.getD x.1 0)).any fun y => meets y.1 (m.getD i 0)) = false := by
    rw [List.any_eq_false]
    intro y hy hmm
    apply H y hy
    rw [Bool.or_eq_true]
    right
    refine List.any_eq_true.2 ⟨i, List.mem_range.2 (by simpa using hl), ?_⟩
    rw [hmm, hG, hp]; rfl
   rw [this]; simp
  ·simp
/-- more may go when more has gone -/
theorem free_mono (m : List Sol) (x : Mv) (G G' : U) (h : ∀ i, G.getLsbD i = true → G'.getLsbD i = true) (hf : freeM m x G = true) : freeM m x G' = true := by
 unfold freeM at hf ⊢
 simp only [Bool.and_eq_true, beq_iff_eq] at hf ⊢
 refine ⟨hf.1, ?_⟩
 rw [zero_bits]
 intro i hi
 have := (zero_bits _).1 hf.2 i hi
 rw [BitVec.getLsbD_and, BitVec.getLsbD_not] at this ⊢
 cases h1 : G'.getLsbD i
 ·cases h2 : G.getLsbD i
  ·rw [h2] at this; exact this
  ·rw [h i h2] at h1; cases h1
 ·simp
end Go.Draw
end
section
namespace Go.Draw
set_option maxRecDepth 10000
def intsL (l : List Nat) : List Int := l.map Int.ofNat
def othersL (n p : Nat) : List Nat := (List.range n).filter fun i => i != p
def restL (n i p : Nat) : List Nat := (List.range n).filter fun k => k != i && k != p
/-- the pieces in the way of a move, as the reference finds them -/
def blockedM (m : List Sol) (x : Mv) : Option (List Nat) :=
 if (standM m (intsL (othersL m.length x.1)) x).isSome then none else some ((List.range m.length).filter fun i => i != x.1 && (standM m (intsL (restL m.length i x.1)) x).isSome)
theorem intsL_contains (l : List Nat) (i : Nat) : (intsL l).contains (i : Int) = l.contains i := by
 rw [Bool.eq_iff_iff, List.contains_iff_mem, List.contains_iff_mem]
 unfold intsL
 rw [List.mem_map]
 constructor
 ·rintro ⟨a, ha, h⟩
  have h' : (a : Int) = (i : Int) := h
  have : a = i := by omega
  rw [← this]; exact ha
 ·intro h; exact ⟨i, h, rfl⟩
/-- the set with the pieces of a list -/
def setF (l : List Nat) : U := l.foldl (fun s i => s ||| bit i) 0
theorem setF_bit (l : List Nat) (h : ∀ i ∈ l, i < 64) (j : Nat) : (setF l).getLsbD j = l.contains j := by
 unfold setF
 have : ∀ (l : List Nat) (a : U), (∀ i ∈ l, i < 64) → (l.foldl (fun s i => s ||| bit i) a).getLsbD j = (a.getLsbD j || l.contains j) := by
  intro l
  induction l with
  | nil => intro a _; simp
  | cons i l ih =>
   intro a h
   rw [List.foldl_cons, ih _ (fun k hk => h k (by simp [hk])), BitVec.getLsbD_or, bit_bit i j (h i (by simp)), List.contains_cons, Bool.or_assoc]
   congr 1
 rw [this l 0 h]; simp
theorem filter_contains (n : Nat) (f : Nat → Bool) (i : Nat) : ((List.range n).filter f).contains i = (decide (i < n) && f i) := by
 rw [Bool.eq_iff_iff, List.contains_iff_mem, List.mem_filter, List.mem_range, Bool.and_eq_true, decide_eq_true_iff]
theorem stand_some (m : List Sol) (hA : Apart m) (hm : m.length ≤ 64) (x : Mv) (hx : IsMv m.length x) (l : List Nat) (hl : ∀ i ∈ l, i < 64) :
  (standM m (intsL l) x).isSome = (wayL x.2.1 x.2.2 (m.getD x.1 0)).any fun y => !y.2 || meets y.1 (sandM m) || (List.range m.length).any fun i => i != x.1 && !l.contains i && meets y.1 (m.getD i 0) := by
 rw [← holds_stand m hA x hx (setF l) (intsL l) (fun i _ => by rw [setF_bit l hl, intsL_contains]), holds_some]
 congr 1; funext y
 congr 2; funext i
 rw [setF_bit l hl]
theorem blocked_eq (m : List Sol) (hA : Apart m) (hm : m.length ≤ 64) (x : Mv) (hx : IsMv m.length x) : blockedM m x = if (inWayM m x).2 then none else some (listU (inWayM m x).1) := by
 unfold blockedM
 have h1 : (standM m (intsL (othersL m.length x.1)) x).isSome = (inWayM m x).2 := by
  rw [stand_some m hA hm x hx _ (fun i hi => by have := List.mem_range.1 (List.mem_filter.1 hi).1; omega), inWay_sand m hm]
  congr 1; funext y
  have : ((List.range m.length).any fun i => i != x.1 && !(othersL m.length x.1).contains i && meets y.1 (m.getD i 0)) = false := by
   rw [List.any_eq_false]
   intro i hi
   have hl := List.mem_range.1 hi
   unfold othersL
   rw [filter_contains, decide_eq_true hl]
   cases i != x.1 <;> simp
  rw [this, Bool.or_false]
 rw [h1]
 cases hs : (inWayM m x).2
 ·simp only [Bool.false_eq_true, if_false]
  congr 1
  unfold listU
  have hR : (List.range 64) = List.range m.length ++ (List.range (64 - m.length)).map (m.length + ·) := by
   rw [← List.range_add]; congr 1; omega
  rw [hR, List.filter_append]
  have h2 : ((List.range (64 - m.length)).map (m.length + ·)).filter (fun i => (inWayM m x).1.getLsbD i) = [] := by
   rw [List.filter_eq_nil_iff]
   intro i hi
   obtain ⟨j, _, rfl⟩ := List.mem_map.1 hi
   rw [inWay_bit m hm, decide_eq_false (by omega)]; simp
  rw [h2, List.append_nil]
  apply List.filter_congr
  intro i hi
  have hl := List.mem_range.1 hi
  rw [stand_some m hA hm x hx _ (fun i hi => by have := List.mem_range.1 (List.mem_filter.1 hi).1; omega), inWay_bit m hm, decide_eq_true hl, Bool.true_and]
  rw [inWay_sand m hm, List.any_eq_false] at hs
  cases hp : i != x.1
  ·rfl
  ·rw [Bool.true_and, Bool.true_and, Bool.eq_iff_iff, List.any_eq_true, List.any_eq_true]
   constructor
   ·rintro ⟨y, hy, h⟩
    refine ⟨y, hy, ?_⟩
    rw [Bool.or_eq_true] at h
    rcases h with h | h
    ·exact absurd h (hs y hy)
    ·obtain ⟨k, hk, h⟩ := List.any_eq_true.1 h
     have hkl := List.mem_range.1 hk
     unfold restL at h
     rw [filter_contains, decide_eq_true hkl] at h
     simp only [Bool.and_eq_true] at h
     have : k = i := by
      have h3 := h.1.2
      have h4 := h.1.1
      rw [h4] at h3
      simpa using h3
     rw [← this]; exact h.2
   ·rintro ⟨y, hy, h⟩
    refine ⟨y, hy, ?_⟩
    rw [Bool.or_eq_true]
    right
    refine List.any_eq_true.2 ⟨i, hi, ?_⟩
    unfold restL
    rw [filter_contains, h, hp]
    simp
 ·rfl
end Go.Draw
end
section
namespace Go.Draw
set_option maxRecDepth 10000
/-! ### what can go, and in which order: plain laws over 'can' -/
def Sub (G G' : U) : Prop := ∀ i, G.getLsbD i = true → G'.getLsbD i = true
theorem Sub.refl (G : U) : Sub G G := fun _ h => h
theorem Sub.trans {A B C : U} (h : Sub A B) (k : Sub B C) : Sub A C := fun i hi => k i (h i hi)
theorem Sub.antisymm {A B : U} (h : Sub A B) (k : Sub B A) : A = B := by
 apply BitVec.eq_of_getLsbD_eq
 intro i _
 rw [Bool.eq_iff_iff]; exact ⟨h i, k i⟩
theorem sub_iff (A B : U) : Sub A B ↔ A &&& ~~~B = 0 := by
 rw [zero_bits]
 constructor
 ·intro h i hi
  rw [BitVec.getLsbD_and, BitVec.getLsbD_not]
  cases ha : A.getLsbD i
  ·rfl
  ·rw [h i ha]; simp
 ·intro h i ha
  have hi : i < 64 := BitVec.lt_of_getLsbD ha
  have := h i hi
  rw [BitVec.getLsbD_and, BitVec.getLsbD_not, ha] at this
  simpa [hi] using this
theorem or_sub {A B C : U} : Sub (A ||| B) C ↔ Sub A C ∧ Sub B C := by
 constructor
 ·intro h; exact ⟨fun i hi => h i (by rw [BitVec.getLsbD_or, hi]; rfl), fun i hi => h i (by rw [BitVec.getLsbD_or, hi]; simp)⟩
 ·rintro ⟨h, k⟩ i hi
  rw [BitVec.getLsbD_or, Bool.or_eq_true] at hi
  exact hi.elim (h i) (k i)
theorem sub_or_left (A B : U) : Sub A (A ||| B) := fun i hi => by rw [BitVec.getLsbD_or, hi]; rfl
theorem sub_or_right (A B : U) : Sub B (A ||| B) := fun i hi => by rw [BitVec.getLsbD_or, hi]; simp
theorem or_bit (A : U) (p i : Nat) (hp : p < 64) : (A ||| bit p).getLsbD i = (A.getLsbD i || decide (i = p)) := by rw [BitVec.getLsbD_or, bit_bit p i hp]
section
variable (can : Nat → U → Bool)
/-- sets that come first -/
inductive Fe : U → Prop
 | zero : Fe 0
 | add {G : U} {p : Nat} : Fe G → p < 64 → G.getLsbD p = false → can p G = true → Fe (G ||| bit p)
def Mono : Prop := ∀ p G G', Sub G G' → can p G = true → can p G' = true
variable {can}
/-- whatever has gone: of a set that comes first and has not gone whole, one more can go -/
theorem Fe.next (hM : Mono can) {S : U} (h : Fe can S) (G : U) : Sub S G ∨ ∃ p, p < 64 ∧ S.getLsbD p = true ∧ G.getLsbD p = false ∧ can p G = true := by
 induction h with
 | zero => exact .inl fun i hi => by simp at hi
 | @add A p hA hp hn hc ih =>
  rcases ih with h | ⟨q, hq, h1, h2, h3⟩
  ·cases hg : G.getLsbD p
   ·exact .inr ⟨p, hp, by rw [or_bit _ _ _ hp]; simp, hg, hM p A G h hc⟩
   ·refine .inl fun i hi => ?_
    rw [or_bit _ _ _ hp, Bool.or_eq_true] at hi
    rcases hi with hi | hi
    ·exact h i hi
    ·have : i = p := by simpa using hi
     rw [this]; exact hg
  ·exact .inr ⟨q, hq, by rw [or_bit _ _ _ hp, h1]; rfl, h2, h3⟩
theorem Fe.union (hM : Mono can) {A B : U} (hA : Fe can A) (hB : Fe can B) : Fe can (A ||| B) := by
 induction hB with
 | zero => rw [show A ||| (0 : U) = A by simp]; exact hA
 | @add C p hC hp hn hc ih =>
  rw [← BitVec.or_assoc]
  cases h : (A ||| C).getLsbD p
  ·exact .add ih hp h (hM p C _ (sub_or_right A C) hc)
  ·have : A ||| C ||| bit p = A ||| C := by
    apply BitVec.eq_of_getLsbD_eq
    intro i _
    rw [or_bit _ _ _ hp]
    by_cases e : i = p
    ·subst e; rw [h]; rfl
    ·simp [e]
   rw [this]; exact ih
end
theorem listU_mem (s : U) (i : Nat) : i ∈ listU s ↔ s.getLsbD i = true := by
 unfold listU
 rw [List.mem_filter, List.mem_range]
 exact ⟨fun h => h.2, fun h => ⟨BitVec.lt_of_getLsbD h, h⟩⟩
def canM (m : List Sol) (p : Nat) (G : U) : Bool := (goesM m p G).isSome
theorem canM_mono (m : List Sol) : Mono (canM m) := by
 intro p G G' h hc
 unfold canM goesM at *
 rw [find_isSome, List.any_eq_true] at *
 obtain ⟨x, hx, hf⟩ := hc
 exact ⟨x, hx, free_mono m x G G' h hf⟩
theorem nextM_none (m : List Sol) (G : U) : ∀ l, nextM m G l = none ↔ ∀ p ∈ l, canM m p G = false
 | [] => by simp [nextM]
 | p :: l => by
  unfold nextM
  cases h : goesM m p G with
  | some x => simp [canM, h]
  | none => simp [canM, h, nextM_none m G l]
theorem nextM_some (m : List Sol) (G : U) {p : Nat} {x : Mv} : ∀ {l}, nextM m G l = some (p, x) → p ∈ l ∧ goesM m p G = some x
 | [], h => by simp [nextM] at h
 | q :: l, h => by
  unfold nextM at h
  cases hq : goesM m q G with
  | some y => rw [hq] at h; cases h; exact ⟨by simp, hq⟩
  | none => rw [hq] at h; have := nextM_some m G h; exact ⟨by simp [this.1], this.2⟩
theorem listU_nodup (s : U) : (listU s).Nodup := by
 unfold listU; exact List.Pairwise.filter _ List.nodup_range
theorem listU_length_zero (s : U) (h : (listU s).length = 0) : s = 0 := by
 rw [zero_bits]
 intro i _
 cases hi : s.getLsbD i
 ·rfl
 ·have := (listU_mem s i).2 hi
  rw [List.length_eq_zero_iff.1 h] at this
  cases this
def cardU (s : U) : Nat := (listU s).length
theorem filter_length_lt {α : Type} (l : List α) (f g : α → Bool) (h : ∀ x ∈ l, f x = true → g x = true) (y : α) (hy : y ∈ l) (h1 : f y = false) (h2 : g y = true) : (l.filter f).length < (l.filter g).length := by
 induction l with
 | nil => cases hy
 | cons a l ih =>
  have hle : ∀ l : List α, (∀ x ∈ l, f x = true → g x = true) → (l.filter f).length ≤ (l.filter g).length := by
   intro l
   induction l with
   | nil => intro _; simp
   | cons b l ih =>
    intro H
    have := ih (fun x hx => H x (by simp [hx]))
    have hb := H b (by simp)
    rw [List.filter_cons, List.filter_cons]
    cases hf : f b
    ·cases g b <;> simp <;> omega
    ·rw [hb hf]; simpa using this
  rw [List.filter_cons, List.filter_cons]
  rcases List.mem_cons.1 hy with rfl | hy
  ·rw [h1, h2]
   have := hle l (fun x hx => h x (by simp [hx]))
   simp; omega
  ·have := ih (fun x hx => h x (by simp [hx])) hy
   have ha := h a (by simp)
   cases hf : f a
   ·cases g a <;> simp <;> omega
   ·rw [ha hf]; simpa using this
/-- the order of a set: found exactly if it comes first -/
theorem orderF_some (m : List Sol) (S : U) : ∀ n G out, cardU (S &&& ~~~G) < n → Sub G S → (Fe (canM m) S → (orderF m S n G out).isSome = true) ∧ (Fe (canM m) G → (orderF m S n G out).isSome = true → Fe (canM m) S)
 | 0, _, _, h, _ => absurd h (Nat.not_lt_zero _)
 | n + 1, G, out, h, hs => by
  unfold orderF
  by_cases e : G = S
  ·rw [if_pos e]; exact ⟨fun _ => rfl, fun h _ => e ▸ h⟩
  ·rw [if_neg e]
   cases hn : nextM m G (listU (S &&& ~~~G)) with
   | none =>
    refine ⟨fun hF => ?_, fun _ h => by cases h⟩
    rcases hF.next (canM_mono m) G with h | ⟨p, hp, h1, h2, h3⟩
    ·exact absurd (hs.antisymm h) e
    ·have := (nextM_none m G _).1 hn p ((listU_mem _ _).2 (by rw [BitVec.getLsbD_and, BitVec.getLsbD_not, h1, h2]; simp [hp]))
     rw [h3] at this; cases this
   | some y =>
    obtain ⟨p, x⟩ := y
    obtain ⟨h1, h2⟩ := nextM_some m G hn
    rw [listU_mem, BitVec.getLsbD_and, BitVec.getLsbD_not, Bool.and_eq_true] at h1
    have hp : p < 64 := BitVec.lt_of_getLsbD h1.1
    have hG : G.getLsbD p = false := by
     have := h1.2
     rw [decide_eq_true hp] at this
     simpa using this
    have hlt : cardU (S &&& ~~~(G ||| bit p)) < cardU (S &&& ~~~G) := by
     unfold cardU listU
     refine filter_length_lt _ _ _ (fun i _ hi => ?_) p (List.mem_range.2 hp) ?_ ?_
     ·rw [BitVec.getLsbD_and, BitVec.getLsbD_not, or_bit _ _ _ hp] at hi
      rw [BitVec.getLsbD_and, BitVec.getLsbD_not]
      cases hS : S.getLsbD i <;> cases hg : G.getLsbD i <;> simp_all
     ·rw [BitVec.getLsbD_and, BitVec.getLsbD_not, or_bit _ _ _ hp]; simp
     ·rw [BitVec.getLsbD_and, BitVec.getLsbD_not, hG, h1.1]; simp [hp]
    have ih := orderF_some m S n (G ||| bit p) (out ++ [x]) (by omega) (or_sub.2 ⟨hs, fun i hi => by
     rw [bit_bit _ _ hp] at hi
     have : i = p := by simpa using hi
     rw [this]; exact h1.1⟩)
    refine ⟨ih.1, fun hF => ih.2 (.add hF hp hG (by unfold canM; rw [h2]; rfl))⟩
end Go.Draw
end
