import Derived.Test.YtkfimbonmnoglaaGreatDoorB02
/-
  Given contracts of functions of the program, and laws for them, one behind the other.
-/
set_option linter.unusedVariables false
set_option linter.unusedSimpArgs false
set_option linter.unusedSectionVars false
section
namespace Go.Solid
open Go.Draw
set_option maxRecDepth 100000
def rollC : Nat → Cl → Cl
 | 1, c => (c.1, 7 - c.2.2, c.2.1)
 | 2, c => (c.1, 7 - c.2.1, 7 - c.2.2)
 | 3, c => (c.1, c.2.2, 7 - c.2.1)
 | 4, c => (c.2.2, c.2.1, 7 - c.1)
 | 5, c => (7 - c.2.2, c.2.1, c.1)
 | _, c => c
def spinC : Nat → Cl → Cl
 | 0, c => c
 | n + 1, c => spinC n (7 - c.2.1, c.1, c.2.2)
def turnC (t : Nat) (c : Cl) : Cl := spinC (t % 4) (rollC (t / 4) c)
abbrev Ax := Nat × Bool
abbrev SP := Ax × Ax × Ax
def co (c : Cl) : Nat → Int
 | 0 => c.1
 | 1 => c.2.1
 | _ => c.2.2
def apA (a : Ax) (c : Cl) : Int := if a.2 then 7 - co c a.1 else co c a.1
def apS (p : SP) (c : Cl) : Cl := (apA p.1 c, apA p.2.1 c, apA p.2.2 c)
def axS (q : SP) : Nat → Ax
 | 0 => q.1
 | 1 => q.2.1
 | _ => q.2.2
def compA (a : Ax) (q : SP) : Ax := ((axS q a.1).1, a.2 != (axS q a.1).2)
def compS (p q : SP) : SP := (compA p.1 q, compA p.2.1 q, compA p.2.2 q)
theorem co_apS (q : SP) (c : Cl) : ∀ k, co (apS q c) k = apA (axS q k) c
 | 0 => rfl
 | 1 => rfl
 | _ + 2 => rfl
theorem apA_comp (a : Ax) (q : SP) (c : Cl) : apA (compA a q) c = apA a (apS q c) := by
 obtain ⟨k, f⟩ := a
 unfold apA compA
 simp only [co_apS]
 unfold apA
 cases f <;> cases (axS q k).2 <;> simp <;> omega
theorem apS_comp (p q : SP) (c : Cl) : apS (compS p q) c = apS p (apS q c) := by
 unfold apS compS
 simp only [apA_comp]
 rfl
def idS : SP := ((0, false), (1, false), (2, false))
def rollS : Nat → SP
 | 1 => ((0, false), (2, true), (1, false))
 | 2 => ((0, false), (1, true), (2, true))
 | 3 => ((0, false), (2, false), (1, true))
 | 4 => ((2, false), (1, false), (0, true))
 | 5 => ((2, true), (1, false), (0, false))
 | _ => idS
theorem roll_eq (h : Nat) (c : Cl) : rollC h c = apS (rollS h) c := by
 match h with
 | 0 => rfl
 | 1 => rfl
 | 2 => rfl
 | 3 => rfl
 | 4 => rfl
 | 5 => rfl
 | n + 6 => rfl
def spinS : Nat → SP
 | 0 => idS
 | n + 1 => compS (spinS n) ((1, true), (0, false), (2, false))
theorem spin_eq : ∀ (n : Nat) (c : Cl), spinC n c = apS (spinS n) c
 | 0, c => rfl
 | n + 1, c => by
  unfold spinC spinS
  rw [spin_eq n, apS_comp]; rfl
def turnS (t : Nat) : SP := compS (spinS (t % 4)) (rollS (t / 4))
theorem turn_eq (t : Nat) (c : Cl) : turnC t c = apS (turnS t) c := by
 unfold turnC turnS
 rw [apS_comp, roll_eq, spin_eq]
def findT (p : SP) : Nat := ((List.range 24).find? fun t => turnS t == p).getD 0
def mulT (t u : Nat) : Nat := findT (compS (turnS u) (turnS t))
def invT (t : Nat) : Nat := ((List.range 24).find? fun u => mulT t u == 0).getD 0
theorem mul_all : ((List.range 24).all fun t => (List.range 24).all fun u => (decide (mulT t u < 24)) && (turnS (mulT t u) == compS (turnS u) (turnS t))) = true := by decide +kernel
theorem mul_lt {t u : Nat} (ht : t < 24) (hu : u < 24) : mulT t u < 24 := by
 have := mul_all
 simp only [List.all_eq_true, List.mem_range, Bool.and_eq_true, decide_eq_true_eq] at this
 exact (this t ht u hu).1
/-- first t, then u -/
theorem turn_mul {t u : Nat} (ht : t < 24) (hu : u < 24) (c : Cl) : turnC u (turnC t c) = turnC (mulT t u) c := by
 have := mul_all
 simp only [List.all_eq_true, List.mem_range, Bool.and_eq_true, beq_iff_eq] at this
 rw [turn_eq, turn_eq, turn_eq, (this t ht u hu).2, apS_comp]
theorem inv_all : ((List.range 24).all fun t => decide (invT t < 24) && (mulT t (invT t) == 0) && (mulT (invT t) t == 0)) = true := by decide +kernel
theorem inv_lt {t : Nat} (ht : t < 24) : invT t < 24 := by
 have := inv_all
 simp only [List.all_eq_true, List.mem_range, Bool.and_eq_true, decide_eq_true_eq] at this
 exact (this t ht).1.1
theorem in7_flip (n : Int) : in7 (7 - n) = in7 n := by
 rw [Bool.eq_iff_iff, in7_iff, in7_iff]; omega
theorem roll_in (h : Nat) (c : Cl) : inG (rollC h c) = inG c := by
 obtain ⟨x, y, z⟩ := c
 have key : ∀ a b d : Bool, (a && d && b) = (a && b && d) ∧ (d && b && a) = (a && b && d) := by decide
 match h with
 | 0 => rfl
 | 1 => unfold rollC inG; simp only [in7_flip]; exact (key _ _ _).1
 | 2 => unfold rollC inG; simp only [in7_flip]
 | 3 => unfold rollC inG; simp only [in7_flip]; exact (key _ _ _).1
 | 4 => unfold rollC inG; simp only [in7_flip]; exact (key _ _ _).2
 | 5 => unfold rollC inG; simp only [in7_flip]; exact (key _ _ _).2
 | n + 6 => rfl
theorem spin_in : ∀ (n : Nat) (c : Cl), inG (spinC n c) = inG c
 | 0, c => rfl
 | n + 1, c => by
  unfold spinC
  rw [spin_in n]
  unfold inG
  simp only [in7_flip]
  rw [Bool.and_comm (in7 c.2.1) (in7 c.1)]
theorem turn_in (t : Nat) (c : Cl) : inG (turnC t c) = inG c := by unfold turnC; rw [spin_in, roll_in]
def addC (c d : Cl) : Cl := (c.1 + d.1, c.2.1 + d.2.1, c.2.2 + d.2.2)
def subC (c d : Cl) : Cl := (c.1 - d.1, c.2.1 - d.2.1, c.2.2 - d.2.2)
def linA (a : Ax) (d : Cl) : Int := if a.2 then - co d a.1 else co d a.1
def linS (p : SP) (d : Cl) : Cl := (linA p.1 d, linA p.2.1 d, linA p.2.2 d)
theorem co_add (c d : Cl) : ∀ k, co (addC c d) k = co c k + co d k
 | 0 => rfl
 | 1 => rfl
 | _ + 2 => rfl
theorem apA_add (a : Ax) (c d : Cl) : apA a (addC c d) = apA a c + linA a d := by
 unfold apA linA
 rw [co_add]
 cases a.2 <;> simp <;> omega
theorem apS_add (p : SP) (c d : Cl) : apS p (addC c d) = addC (apS p c) (linS p d) := by
 unfold apS addC linS
 simp only [apA_add]
 exact Prod.ext (apA_add _ _ _) (Prod.ext (apA_add _ _ _) (apA_add _ _ _))
theorem addC_zero (c : Cl) : addC (0, 0, 0) c = c := by unfold addC; simp
theorem subC_addC (c d : Cl) : subC (addC c d) c = d := by
 unfold subC addC
 refine Prod.ext ?_ (Prod.ext ?_ ?_)
 ·show c.1 + d.1 - c.1 = d.1; omega
 ·show c.2.1 + d.2.1 - c.2.1 = d.2.1; omega
 ·show c.2.2 + d.2.2 - c.2.2 = d.2.2; omega
/-- what a turn makes of a move -/
def movT (t : Nat) (d : Cl) : Cl := linS (turnS t) d
theorem turn_add (t : Nat) (c d : Cl) : turnC t (addC c d) = addC (turnC t c) (movT t d) := by
 rw [turn_eq, turn_eq, apS_add]; rfl
theorem origin_eq (t : Nat) (d : Cl) : subC (turnC t d) (turnC t (0, 0, 0)) = movT t d := by
 have h := turn_add t (0, 0, 0) d
 rw [addC_zero] at h
 rw [h, subC_addC]
theorem told_all : ((List.range 24).all fun t => (List.range 24).all fun u => ((turnC t (1, 0, 0) == turnC u (1, 0, 0)) && (turnC t (0, 1, 0) == turnC u (0, 1, 0)) && (turnC t (0, 0, 1) == turnC u (0, 0, 1))) == (t == u)) = true := by decide +kernel
theorem told_back : ((List.range 24).all fun t => (List.range 24).all fun u => (turnC u (turnC t (0, 1, 2)) == (0, 1, 2)) == (u == invT t)) = true := by decide +kernel
end Go.Solid
end
section
namespace Go.Solid
open Go.Draw
set_option maxRecDepth 100000
def minC (a b : Cl) : Cl := (min a.1 b.1, min a.2.1 b.2.1, min a.2.2 b.2.2)
def maxC (a b : Cl) : Cl := (max a.1 b.1, max a.2.1 b.2.1, max a.2.2 b.2.2)
theorem co_min (a b : Cl) : ∀ k, co (minC a b) k = min (co a k) (co b k)
 | 0 => rfl
 | 1 => rfl
 | _ + 2 => rfl
theorem co_max (a b : Cl) : ∀ k, co (maxC a b) k = max (co a k) (co b k)
 | 0 => rfl
 | 1 => rfl
 | _ + 2 => rfl
theorem co_ext {a b : Cl} (h0 : co a 0 = co b 0) (h1 : co a 1 = co b 1) (h2 : co a 2 = co b 2) : a = b := Prod.ext h0 (Prod.ext h1 h2)
def loF (a : Cl) (l : List Cl) : Cl := l.foldl minC a
def hiF (a : Cl) (l : List Cl) : Cl := l.foldl maxC a
theorem loF_spec (k : Nat) : ∀ (l : List Cl) (a : Cl), co (loF a l) k ≤ co a k ∧ (∀ c ∈ l, co (loF a l) k ≤ co c k) ∧ (co (loF a l) k = co a k ∨ ∃ c ∈ l, co (loF a l) k = co c k)
 | [], a => ⟨Int.le_refl _, fun c h => (by cases h), .inl rfl⟩
 | d :: l, a => by
  obtain ⟨h1, h2, h3⟩ := loF_spec k l (minC a d)
  have e : loF a (d :: l) = loF (minC a d) l := rfl
  rw [e]
  rw [co_min] at h1 h3
  refine ⟨by omega, fun c hc => ?_, ?_⟩
  ·rcases List.mem_cons.1 hc with rfl | hc
   ·omega
   ·exact h2 c hc
  ·rcases h3 with h3 | ⟨c, hc, h3⟩
   ·by_cases h : co a k ≤ co d k
    ·exact .inl (by omega)
    ·exact .inr ⟨d, List.mem_cons_self, by omega⟩
   ·exact .inr ⟨c, List.mem_cons_of_mem _ hc, h3⟩
theorem hiF_spec (k : Nat) : ∀ (l : List Cl) (a : Cl), co a k ≤ co (hiF a l) k ∧ (∀ c ∈ l, co c k ≤ co (hiF a l) k) ∧ (co (hiF a l) k = co a k ∨ ∃ c ∈ l, co (hiF a l) k = co c k)
 | [], a => ⟨Int.le_refl _, fun c h => (by cases h), .inl rfl⟩
 | d :: l, a => by
  obtain ⟨h1, h2, h3⟩ := hiF_spec k l (maxC a d)
  have e : hiF a (d :: l) = hiF (maxC a d) l := rfl
  rw [e]
  rw [co_max] at h1 h3
  refine ⟨by omega, fun c hc => ?_, ?_⟩
  ·rcases List.mem_cons.1 hc with rfl | hc
   ·omega
   ·exact h2 c hc
  ·rcases h3 with h3 | ⟨c, hc, h3⟩
   ·by_cases h : co d k ≤ co a k
    ·exact .inl (by omega)
    ·exact .inr ⟨d, List.mem_cons_self, by omega⟩
   ·exact .inr ⟨c, List.mem_cons_of_mem _ hc, h3⟩
def loS (s : Sol) : Cl := loF (7, 7, 7) (cellsS s)
def hiS (s : Sol) : Cl := hiF (0, 0, 0) (cellsS s)
theorem co_in {c : Cl} (h : inG c = true) (k : Nat) : 0 ≤ co c k ∧ co c k ≤ 7 := by
 rw [inG_iff] at h
 match k with
 | 0 => exact h.1
 | 1 => exact h.2.1
 | _ + 2 => exact h.2.2
theorem in_co {c : Cl} (h : ∀ k, 0 ≤ co c k ∧ co c k ≤ 7) : inG c = true := inG_iff.2 ⟨h 0, h 1, h 2⟩
theorem co_seven : ∀ k, co (7, 7, 7) k = 7
 | 0 => rfl
 | 1 => rfl
 | _ + 2 => rfl
theorem co_zero : ∀ k, co (0, 0, 0) k = 0
 | 0 => rfl
 | 1 => rfl
 | _ + 2 => rfl
theorem loS_le {s : Sol} {c : Cl} (h : hasS s c = true) (k : Nat) : co (loS s) k ≤ co c k := (loF_spec k _ _).2.1 c (mem_cellsS.2 h)
theorem le_hiS {s : Sol} {c : Cl} (h : hasS s c = true) (k : Nat) : co c k ≤ co (hiS s) k := (hiF_spec k _ _).2.1 c (mem_cellsS.2 h)
theorem has_some {s : Sol} (h : s ≠ 0) : ∃ c, hasS s c = true := by
 cases hc : cellsS s with
 | nil => exact absurd (cellsS_nil.1 hc) h
 | cons c l => exact ⟨c, mem_cellsS.1 (by rw [hc]; exact List.mem_cons_self)⟩
theorem has_in {s : Sol} {c : Cl} (h : hasS s c = true) : inG c = true := by
 unfold hasS at h; rw [Bool.and_eq_true] at h; exact h.1
theorem loS_at {s : Sol} (h : s ≠ 0) (k : Nat) : ∃ c, hasS s c = true ∧ co (loS s) k = co c k := by
 rcases (loF_spec k (cellsS s) (7, 7, 7)).2.2 with h1 | ⟨c, hc, h1⟩
 ·obtain ⟨c, hc⟩ := has_some h
  have h2 := loS_le hc k
  have h3 := co_in (has_in hc) k
  rw [co_seven] at h1
  refine ⟨c, hc, ?_⟩
  show co (loS s) k = _
  have : co (loS s) k = 7 := h1
  omega
 ·exact ⟨c, mem_cellsS.1 hc, h1⟩
theorem hiS_at {s : Sol} (h : s ≠ 0) (k : Nat) : ∃ c, hasS s c = true ∧ co (hiS s) k = co c k := by
 rcases (hiF_spec k (cellsS s) (0, 0, 0)).2.2 with h1 | ⟨c, hc, h1⟩
 ·obtain ⟨c, hc⟩ := has_some h
  have h2 := le_hiS hc k
  have h3 := co_in (has_in hc) k
  rw [co_zero] at h1
  refine ⟨c, hc, ?_⟩
  have : co (hiS s) k = 0 := h1
  omega
 ·exact ⟨c, mem_cellsS.1 hc, h1⟩
theorem loS_in {s : Sol} (h : s ≠ 0) : inG (loS s) = true := in_co fun k => by
 obtain ⟨c, hc, e⟩ := loS_at h k
 rw [e]; exact co_in (has_in hc) k
theorem hiS_in {s : Sol} (h : s ≠ 0) : inG (hiS s) = true := in_co fun k => by
 obtain ⟨c, hc, e⟩ := hiS_at h k
 rw [e]; exact co_in (has_in hc) k
def movC (d c : Cl) : Cl := addC c d
theorem co_mov (d c : Cl) (k : Nat) : co (movC d c) k = co c k + co d k := co_add c d k
def shiftP (p : U) (k : Int) : U := if 0 ≤ k then p <<< k.toNat else p >>> (-k).toNat
theorem shiftP_bit (p : U) (k : Int) {i : Nat} (hi : i < 64) : (shiftP p k).getLsbD i = true ↔ ∃ n : Nat, n < 64 ∧ (n : Int) + k = i ∧ p.getLsbD n = true := by
 unfold shiftP
 by_cases h : 0 ≤ k
 ·rw [if_pos h, BitVec.getLsbD_shiftLeft]
  simp only [hi, decide_true, Bool.true_and, Bool.and_eq_true, Bool.not_eq_true', decide_eq_false_iff_not]
  constructor
  ·rintro ⟨h1, h2⟩
   exact ⟨i - k.toNat, by omega, by omega, h2⟩
  ·rintro ⟨n, h1, h2, h3⟩
   refine ⟨by omega, ?_⟩
   rw [show i - k.toNat = n by omega]; exact h3
 ·rw [if_neg h, BitVec.getLsbD_ushiftRight]
  constructor
  ·intro h1
   have h2 : (-k).toNat + i < 64 := Nat.lt_of_not_le fun h2 => by rw [BitVec.getLsbD_of_ge _ _ h2] at h1; cases h1
   exact ⟨(-k).toNat + i, h2, by omega, h1⟩
  ·rintro ⟨n, h1, h2, h3⟩
   rw [show (-k).toNat + i = n by omega]; exact h3
/-- the planes from lz to hz, moved -/
def liftS (s : Sol) (lz hz : Int) (d : Cl) : Sol := mkS fun j => if lz ≤ (j : Int) - d.2.2 ∧ (j : Int) - d.2.2 ≤ hz then shiftP (plv s ((j : Int) - d.2.2).toNat) (8 * d.2.1 + d.1) else 0
theorem plv_bit' (s : Sol) (z : Nat) {i : Nat} (hi : i < 64) : (plv s z).getLsbD i = s.getLsbD (64 * z + i) := by
 unfold plv; rw [BitVec.getLsbD_extractLsb']; simp [hi]
theorem mkS_bit (f : Nat → U) {z i : Nat} (hz : z < 8) (hi : i < 64) : (mkS f).getLsbD (64 * z + i) = (f z).getLsbD i := by
 rw [← plv_bit' _ _ hi, plv_mkS _ _ hz]
theorem lift_img {s : Sol} {d : Cl} (h : stays (movC d) s = true) : liftS s (loS s).2.2 (hiS s).2.2 d = imgS (movC d) s := by
 apply sol_has
 intro e he
 rw [Bool.eq_iff_iff, imgS_has h he]
 obtain ⟨x, y, z⟩ := e
 obtain ⟨dx, dy, dz⟩ := d
 have hG := inG_iff.1 he
 simp only at hG
 obtain ⟨j, rfl⟩ : ∃ j : Nat, z = j := ⟨z.toNat, by omega⟩
 obtain ⟨i, hi⟩ : ∃ i : Nat, (i : Int) = 8 * y + x := ⟨(8 * y + x).toNat, by omega⟩
 have hb : bitN (x, y, (j : Int)) = 64 * j + i := by unfold bitN; simp only; omega
 have h1 : hasS (liftS s (loS s).2.2 (hiS s).2.2 (dx, dy, dz)) (x, y, (j : Int)) = (if (loS s).2.2 ≤ (j : Int) - dz ∧ (j : Int) - dz ≤ (hiS s).2.2 then shiftP (plv s ((j : Int) - dz).toNat) (8 * dy + dx) else 0).getLsbD i := by
  unfold hasS
  rw [he, Bool.true_and, hb]
  unfold liftS
  rw [mkS_bit _ (by omega) (by omega)]
 rw [h1]
 have hst := stays_iff.1 h
 constructor
 ·intro h2
  split at h2
  ·rename_i hc
   obtain ⟨n, hn, e1, h3⟩ := (shiftP_bit _ _ (by omega)).1 h2
   have hs0 : s ≠ 0 := fun e => by
    rw [e, plv_zero] at h3; simp at h3
   have hl := inG_iff.1 (loS_in hs0)
   have hh := inG_iff.1 (hiS_in hs0)
   obtain ⟨q, hq⟩ : ∃ q : Nat, (q : Int) = (j : Int) - dz := ⟨((j : Int) - dz).toNat, by omega⟩
   rw [← hq, Int.toNat_natCast, plv_bit' _ _ hn] at h3
   have hc2 : hasS s (cellN (64 * q + n)) = true := by rw [hasS_cellN (by omega)]; exact h3
   have h4 := inG_iff.1 (hst _ hc2)
   refine ⟨_, hc2, ?_⟩
   unfold cellN movC addC at *
   simp only at *
   refine Prod.ext ?_ (Prod.ext ?_ ?_)
   ·show (((64 * q + n) % 8 : Nat) : Int) + dx = x; omega
   ·show (((64 * q + n) / 8 % 8 : Nat) : Int) + dy = y; omega
   ·show (((64 * q + n) / 64 : Nat) : Int) + dz = j; omega
  ·simp at h2
 ·rintro ⟨c, hc, e⟩
  have h5 := loS_le hc 2
  have h6 := le_hiS hc 2
  have h7 := inG_iff.1 (has_in hc)
  obtain ⟨cx, cy, cz⟩ := c
  unfold movC addC at e
  simp only [Prod.mk.injEq] at e h7
  have h5' : (loS s).2.2 ≤ cz := h5
  have h6' : cz ≤ (hiS s).2.2 := h6
  rw [if_pos ⟨by omega, by omega⟩]
  obtain ⟨n, hn⟩ : ∃ n : Nat, (n : Int) = 8 * cy + cx := ⟨(8 * cy + cx).toNat, by omega⟩
  refine (shiftP_bit _ _ (by omega)).2 ⟨n, by omega, by omega, ?_⟩
  rw [plv_bit' _ _ (by omega)]
  have hc2 := hc
  unfold hasS at hc2
  rw [Bool.and_eq_true] at hc2
  have : bitN (cx, cy, cz) = 64 * ((j : Int) - dz).toNat + n := by unfold bitN; simp only; omega
  rw [← this]; exact hc2.2
def negC (c : Cl) : Cl := (-c.1, -c.2.1, -c.2.2)
theorem co_neg (c : Cl) : ∀ k, co (negC c) k = - co c k
 | 0 => rfl
 | 1 => rfl
 | _ + 2 => rfl
def cornS (s : Sol) : Sol := if s = 0 then 0 else imgS (movC (negC (loS s))) s
theorem corn_stays {s : Sol} (h : s ≠ 0) : stays (movC (negC (loS s))) s = true := stays_iff.2 fun c hc => in_co fun k => by
 rw [co_mov, co_neg]
 have h1 := loS_le hc k
 have h2 := co_in (has_in hc) k
 have h3 := co_in (loS_in h) k
 omega
def spunS (s : Sol) (t : Nat) : Sol := imgS (turnC t) s
theorem spun_stays (s : Sol) (t : Nat) : stays (turnC t) s = true := stays_iff.2 fun c hc => by rw [turn_in]; exact has_in hc
def imageS (s : Sol) (t : Nat) : Sol := cornS (spunS s t)
end Go.Solid
end
section
namespace Go.Solid
open Go.Draw
set_option maxRecDepth 100000
def countS (s : Sol) : Nat := (bitsS s).length
theorem bitsS_nodup (s : Sol) : (bitsS s).Nodup := List.nodup_range.filter _
theorem countS_cells (s : Sol) : countS s = (cellsS s).length := by unfold countS cellsS; rw [List.length_map]
/-- all cells of a are cells of b -/
def subS (a b : Sol) : Bool := a &&& b == a
theorem subS_iff {a b : Sol} : subS a b = true ↔ ∀ c, hasS a c = true → hasS b c = true := by
 unfold subS
 rw [beq_iff_eq]
 constructor
 ·intro h c hc
  have hg := has_in hc
  unfold hasS at hc ⊢
  rw [hg, Bool.true_and] at hc ⊢
  rw [← h, BitVec.getLsbD_and, Bool.and_eq_true] at hc
  exact hc.2
 ·intro h
  apply sol_has
  intro c hc
  have := h c
  unfold hasS at this ⊢
  rw [hc] at this ⊢
  simp only [Bool.true_and] at this ⊢
  rw [BitVec.getLsbD_and]
  cases h1 : a.getLsbD (bitN c) with
  | false => rfl
  | true => rw [this h1]; rfl
theorem subS_refl (a : Sol) : subS a a = true := subS_iff.2 fun _ h => h
theorem subS_trans {a b c : Sol} (h : subS a b = true) (k : subS b c = true) : subS a c = true := subS_iff.2 fun x hx => subS_iff.1 k x (subS_iff.1 h x hx)
theorem subS_antisymm {a b : Sol} (h : subS a b = true) (k : subS b a = true) : a = b := by
 apply sol_has
 intro c _
 rw [Bool.eq_iff_iff]
 exact ⟨subS_iff.1 h c, subS_iff.1 k c⟩
theorem sub_bits {a b : Sol} (h : subS a b = true) : ∀ n, n ∈ bitsS a → n ∈ bitsS b := fun n hn => by
 have h1 := subS_iff.1 h (cellN n)
 rw [hasS_cellN (bitsS_lt hn), hasS_cellN (bitsS_lt hn)] at h1
 exact mem_bitsS.2 (h1 (mem_bitsS.1 hn))
theorem count_le {a b : Sol} (h : subS a b = true) : countS a ≤ countS b := (bitsS_nodup a).length_le_of_subset fun n hn => sub_bits h n hn
theorem count_eq {a b : Sol} (h : subS a b = true) (k : countS b ≤ countS a) : a = b := by
 have key : ∀ n, n ∈ bitsS b → n ∈ bitsS a := fun n hn => Classical.byContradiction fun hno => by
  have h1 : (n :: bitsS a).Nodup := List.nodup_cons.2 ⟨hno, bitsS_nodup a⟩
  have h2 := h1.length_le_of_subset (l₂ := bitsS b) fun x hx => by
   rcases List.mem_cons.1 hx with rfl | hx
   ·exact hn
   ·exact sub_bits h x hx
  rw [List.length_cons] at h2
  unfold countS at k
  omega
 apply BitVec.eq_of_getLsbD_eq
 intro n _
 rw [Bool.eq_iff_iff, ← mem_bitsS, ← mem_bitsS]
 exact ⟨sub_bits h n, key n⟩
theorem count_zero {s : Sol} : countS s = 0 ↔ s = 0 := by
 rw [countS_cells, List.length_eq_zero_iff, cellsS_nil]
theorem img_ne {f : Cl → Cl} {s : Sol} (h : stays f s = true) (hs : s ≠ 0) : imgS f s ≠ 0 := by
 obtain ⟨c, hc⟩ := has_some hs
 intro e
 have := (mem_img h).2 ⟨c, mem_cellsS.2 hc, rfl⟩
 rw [e, cellsS_zero] at this
 cases this
theorem spun_ne {s : Sol} (hs : s ≠ 0) (t : Nat) : spunS s t ≠ 0 := img_ne (spun_stays s t) hs
end Go.Solid
end
section
namespace Go.Solid
open Go.Draw
set_option maxRecDepth 100000
def rngI (a b : Int) : List Int := (List.range (b - a + 1).toNat).map fun i : Nat => a + (i : Int)
theorem rngI_append {a b c : Int} (h : a ≤ b + 1) (k : b ≤ c) : rngI a c = rngI a b ++ rngI (b + 1) c := by
 unfold rngI
 rw [show (c - a + 1).toNat = (b - a + 1).toNat + (c - (b + 1) + 1).toNat by omega, List.range_add, List.map_append, List.map_map]
 congr 1
 apply List.map_congr_left
 intro i _
 simp only [Function.comp]
 omega
/-- a motion: the turn, and the move -/
abbrev Mt := Nat × Cl
def tryX (a p : Sol) (t : Nat) (z y x : Int) : List (Mt × Sol) := if subS (imgS (movC (x, y, z)) p) a then [((t, (x, y, z)), imgS (movC (x, y, z)) p)] else []
def rowX (a p : Sol) (t : Nat) (z y : Int) (A B : Cl) : List (Mt × Sol) := (rngI A.1 B.1).flatMap fun x => tryX a p t z y x
def rowY (a p : Sol) (t : Nat) (z : Int) (A B : Cl) : List (Mt × Sol) := (rngI A.2.1 B.2.1).flatMap fun y => rowX a p t z y A B
def rowZ (a p : Sol) (t : Nat) (A B : Cl) : List (Mt × Sol) := (rngI A.2.2 B.2.2).flatMap fun z => rowY a p t z A B
/-- the program looks in the room of the outer solid, the reference in the grid -/
def fitsL (a b : Sol) : List (Mt × Sol) := if a = 0 ∨ countS a < countS b then [] else (List.range 24).flatMap fun t => rowZ a (spunS b t) t (subC (loS a) (loS (spunS b t))) (subC (hiS a) (hiS (spunS b t)))
/-- within the ranges of the grid nothing leaves the grid -/
theorem range_stays {p : Sol} {d : Cl} (h : ∀ k, - co (loS p) k ≤ co d k ∧ co d k ≤ 7 - co (hiS p) k) : stays (movC d) p = true := stays_iff.2 fun c hc => in_co fun k => by
 rw [co_mov]
 have h1 := loS_le hc k
 have h2 := le_hiS hc k
 have h3 := h k
 omega
end Go.Solid
end
section
namespace Go.Solid
open Go.Draw
set_option maxRecDepth 100000
def digs (s : Sol) : List Nat := [(plv s 0).toNat, (plv s 1).toNat, (plv s 2).toNat, (plv s 3).toNat, (plv s 4).toNat, (plv s 5).toNat, (plv s 6).toNat, (plv s 7).toNat]
/-- -1, 0, 1: as lists of numbers are compared -/
def cmpN : List Nat → List Nat → Int
 | [], [] => 0
 | [], _ :: _ => -1
 | _ :: _, [] => 1
 | a :: l, b :: m => if a < b then -1 else if b < a then 1 else cmpN l m
def valN : List Nat → Nat
 | [] => 0
 | a :: l => a * 18446744073709551616 ^ l.length + valN l
theorem valN_lt : ∀ l : List Nat, (∀ a ∈ l, a < 18446744073709551616) → valN l < 18446744073709551616 ^ l.length
 | [], _ => by simp [valN]
 | a :: l, h => by
  have h1 := valN_lt l fun x hx => h x (List.mem_cons_of_mem _ hx)
  have h2 := h a List.mem_cons_self
  show a * 18446744073709551616 ^ l.length + valN l < 18446744073709551616 ^ (l.length + 1)
  rw [Nat.pow_succ, Nat.mul_comm (18446744073709551616 ^ l.length)]
  calc a * 18446744073709551616 ^ l.length + valN l < a * 18446744073709551616 ^ l.length + 18446744073709551616 ^ l.length := by omega
   _ = (a + 1) * 18446744073709551616 ^ l.length := by rw [Nat.add_mul, Nat.one_mul]
   _ ≤ 18446744073709551616 * 18446744073709551616 ^ l.length := Nat.mul_le_mul_right _ h2
theorem cmpN_val : ∀ l m : List Nat, l.length = m.length → (∀ a ∈ l, a < 18446744073709551616) → (∀ a ∈ m, a < 18446744073709551616) → cmpN l m = if valN l < valN m then -1 else if valN m < valN l then 1 else 0
 | [], [], _, _, _ => by simp [cmpN, valN]
 | a :: l, b :: m, hl, h1, h2 => by
  have hl' : l.length = m.length := by simpa using hl
  have ih := cmpN_val l m hl' (fun x hx => h1 x (List.mem_cons_of_mem _ hx)) (fun x hx => h2 x (List.mem_cons_of_mem _ hx))
  have v1 := valN_lt l fun x hx => h1 x (List.mem_cons_of_mem _ hx)
  have v2 := valN_lt m fun x hx => h2 x (List.mem_cons_of_mem _ hx)
  unfold cmpN valN
  rw [hl'] at v1 ⊢
  generalize 18446744073709551616 ^ m.length = P at v1 v2 ⊢
  have key : ∀ x y p q : Nat, p < P → q < P → x < y → x * P + p < y * P + q := fun x y p q hp hq hxy => by
   have : (x + 1) * P ≤ y * P := Nat.mul_le_mul_right _ hxy
   rw [Nat.add_mul, Nat.one_mul] at this
   omega
  by_cases e1 : a < b
  ·rw [if_pos e1, if_pos (key _ _ _ _ v1 v2 e1)]
  ·rw [if_neg e1]
   by_cases e2 : b < a
   ·have := key _ _ _ _ v2 v1 e2
    rw [if_pos e2, if_neg (by omega), if_pos this]
   ·have : a = b := by omega
    subst this
    rw [if_neg e2, ih]
    simp only [Nat.add_lt_add_iff_left]
def rank (s : Sol) : Nat := valN (digs s)
theorem digs_lt (s : Sol) : ∀ a ∈ digs s, a < 18446744073709551616 := by
 intro a h
 unfold digs at h
 simp only [List.mem_cons, List.not_mem_nil, or_false] at h
 rcases h with rfl | rfl | rfl | rfl | rfl | rfl | rfl | rfl <;> exact BitVec.isLt _
theorem cmpS_rank (a b : Sol) : cmpN (digs a) (digs b) = if rank a < rank b then -1 else if rank b < rank a then 1 else 0 := cmpN_val _ _ rfl (digs_lt a) (digs_lt b)
theorem cmpN_zero : ∀ l m : List Nat, cmpN l m = 0 → l = m
 | [], [], _ => rfl
 | [], _ :: _, h => by cases h
 | _ :: _, [], h => by cases h
 | a :: l, b :: m, h => by
  unfold cmpN at h
  split at h
  ·cases h
  ·split at h
   ·cases h
   ·rw [cmpN_zero l m h]; congr 1; omega
theorem rank_inj {a b : Sol} (h : rank a = rank b) : a = b := by
 have h1 := cmpS_rank a b
 rw [h, if_neg (Nat.lt_irrefl _), if_neg (Nat.lt_irrefl _)] at h1
 have h2 := cmpN_zero _ _ h1
 unfold digs at h2
 simp only [List.cons.injEq, BitVec.toNat_inj, and_true] at h2
 obtain ⟨h0, h1, h2, h3, h4, h5, h6, h7⟩ := h2
 apply sol_ext
 intro k hk
 obtain rfl | rfl | rfl | rfl | rfl | rfl | rfl | rfl : k = 0 ∨ k = 1 ∨ k = 2 ∨ k = 3 ∨ k = 4 ∨ k = 5 ∨ k = 6 ∨ k = 7 := by omega
 all_goals assumption
/-- ascending, each once -/
def Asc (l : List Sol) : Prop := l.Pairwise fun a b => rank a < rank b
theorem asc_unique : ∀ {l m : List Sol}, Asc l → Asc m → (∀ x, x ∈ l ↔ x ∈ m) → l = m
 | [], [], _, _, _ => rfl
 | [], b :: m, _, _, h => by have := (h b).2 List.mem_cons_self; cases this
 | a :: l, [], _, _, h => by have := (h a).1 List.mem_cons_self; cases this
 | a :: l, b :: m, h1, h2, h => by
  obtain ⟨a1, a2⟩ := List.pairwise_cons.1 h1
  obtain ⟨b1, b2⟩ := List.pairwise_cons.1 h2
  have e : a = b := by
   rcases List.mem_cons.1 ((h a).1 List.mem_cons_self) with e | e
   ·exact e
   ·rcases List.mem_cons.1 ((h b).2 List.mem_cons_self) with e' | e'
    ·exact e'.symm
    ·have := a1 b e'; have := b1 a e; omega
  subst e
  rw [asc_unique a2 b2 fun x => ?_]
  have hx := h x
  constructor
  ·intro hl
   rcases List.mem_cons.1 (hx.1 (List.mem_cons_of_mem _ hl)) with e | e
   ·subst e; have := a1 x hl; omega
   ·exact e
  ·intro hl
   rcases List.mem_cons.1 (hx.2 (List.mem_cons_of_mem _ hl)) with e | e
   ·subst e; have := b1 x hl; omega
   ·exact e
def putS : List Sol → Sol → List Sol
 | [], s => [s]
 | x :: l, s => if rank s < rank x then s :: x :: l else if x = s then x :: l else x :: putS l s
theorem mem_put {s y : Sol} : ∀ {l : List Sol}, y ∈ putS l s ↔ y = s ∨ y ∈ l
 | [] => by simp [putS]
 | x :: l => by
  unfold putS
  split
  ·simp
  ·split
   ·rename_i h; subst h; simp
   ·rw [List.mem_cons, mem_put (l := l), List.mem_cons]
    constructor
    ·rintro (h | h | h)
     ·exact .inr (.inl h)
     ·exact .inl h
     ·exact .inr (.inr h)
    ·rintro (h | h | h)
     ·exact .inr (.inl h)
     ·exact .inl h
     ·exact .inr (.inr h)
theorem asc_put {s : Sol} : ∀ {l : List Sol}, Asc l → Asc (putS l s)
 | [], _ => by unfold putS Asc; exact List.pairwise_singleton _ _
 | x :: l, h => by
  obtain ⟨h1, h2⟩ := List.pairwise_cons.1 h
  unfold putS
  split
  ·rename_i hs
   refine List.pairwise_cons.2 ⟨fun y hy => ?_, h⟩
   rcases List.mem_cons.1 hy with rfl | hy
   ·exact hs
   ·have := h1 y hy; omega
  ·split
   ·exact h
   ·rename_i hs hx
    refine List.pairwise_cons.2 ⟨fun y hy => ?_, asc_put h2⟩
    rcases mem_put.1 hy with rfl | hy
    ·have : rank x ≠ rank y := fun e => hx (rank_inj e)
     omega
    ·exact h1 y hy
def sortD (l : List Sol) : List Sol := l.foldl putS []
theorem sortD_spec (l : List Sol) : Asc (sortD l) ∧ ∀ x, x ∈ sortD l ↔ x ∈ l := by
 have key : ∀ (l acc : List Sol), Asc acc → Asc (l.foldl putS acc) ∧ ∀ x, x ∈ l.foldl putS acc ↔ x ∈ acc ∨ x ∈ l := by
  intro l
  induction l with
  | nil => intro acc h; exact ⟨h, fun x => by simp⟩
  | cons y l ih =>
   intro acc h
   obtain ⟨h1, h2⟩ := ih (putS acc y) (asc_put h)
   refine ⟨h1, fun x => ?_⟩
   rw [List.foldl_cons, h2, mem_put, List.mem_cons]
   constructor
   ·rintro ((h | h) | h)
    ·exact .inr (.inl h)
    ·exact .inl h
    ·exact .inr (.inr h)
   ·rintro (h | h | h)
    ·exact .inl (.inr h)
    ·exact .inl (.inl h)
    ·exact .inr h
 obtain ⟨h1, h2⟩ := key l [] List.Pairwise.nil
 exact ⟨h1, fun x => by rw [show sortD l = l.foldl putS [] from rfl, h2]; simp⟩
theorem sortD_of {l m : List Sol} (h : Asc m) (hm : ∀ x, x ∈ m ↔ x ∈ l) : m = sortD l := asc_unique h (sortD_spec l).1 fun x => by rw [hm, (sortD_spec l).2]
def imgL (s : Sol) : List Sol := (List.range 24).map (imageS s)
def imagesS (s : Sol) : List Sol := sortD (imgL s)
theorem mem_images {s x : Sol} : x ∈ imagesS s ↔ ∃ t, t < 24 ∧ imageS s t = x := by
 unfold imagesS imgL
 rw [(sortD_spec _).2, List.mem_map]
 simp only [List.mem_range]
def canonS (s : Sol) : Sol := (imagesS s).headD 0
theorem images_ne (s : Sol) : ∃ l, imagesS s = canonS s :: l := by
 have h : imageS s 0 ∈ imagesS s := mem_images.2 ⟨0, by decide, rfl⟩
 unfold canonS
 cases hl : imagesS s with
 | nil => rw [hl] at h; cases h
 | cons x l => exact ⟨l, rfl⟩
theorem canon_mem (s : Sol) : canonS s ∈ imagesS s := by
 obtain ⟨l, h⟩ := images_ne s
 rw [h]; exact List.mem_cons_self
theorem canon_le {s x : Sol} (h : x ∈ imagesS s) : rank (canonS s) ≤ rank x := by
 obtain ⟨l, hl⟩ := images_ne s
 have ha := (sortD_spec (imgL s)).1
 have e : sortD (imgL s) = imagesS s := rfl
 rw [e, hl] at ha
 rw [hl] at h
 rcases List.mem_cons.1 h with e1 | h1
 ·rw [e1]
  exact Nat.le_refl _
 ·exact Nat.le_of_lt ((List.pairwise_cons.1 ha).1 x h1)
/-- whoever is an image and is not greater than any is the canon -/
theorem canon_of {s x : Sol} (h : ∃ t, t < 24 ∧ imageS s t = x) (hx : ∀ t, t < 24 → rank x ≤ rank (imageS s t)) : x = canonS s := by
 apply rank_inj
 obtain ⟨t, ht, e⟩ := mem_images.1 (canon_mem s)
 have h1 := canon_le (mem_images.2 h)
 have h2 := hx t ht
 rw [e] at h2
 omega
end Go.Solid
end
section
namespace Go.Solid
open Go.Draw
set_option maxRecDepth 100000
def fibL (s x : Sol) : List Nat := (List.range 24).filter fun t => imageS s t == x
def symL (s : Sol) : List Nat := fibL s (imageS s 0)
end Go.Solid
end
section
namespace Go.Solid
open Go.Draw
set_option maxRecDepth 100000
def isStep (faces : Bool) (d : Cl) : Bool := !faces || d.1 * d.1 + d.2.1 * d.2.1 + d.2.2 * d.2.2 == 1
def stepsL (faces : Bool) : List Cl := ([-1, 0, 1] : List Int).flatMap fun z => ([-1, 0, 1] : List Int).flatMap fun y => (([-1, 0, 1] : List Int).map fun x => (x, y, z)).filter (isStep faces)
def delS (s : Sol) (c : Cl) : Sol := s &&& ~~~(one (bitN c))
theorem del_has {s : Sol} {c e : Cl} (hc : inG c = true) : hasS (delS s c) e = true ↔ hasS s e = true ∧ e ≠ c := by
 unfold hasS delS
 cases he : inG e with
 | false => simp
 | true =>
  have hb := bitN_lt he
  rw [Bool.true_and, Bool.true_and, BitVec.getLsbD_and, BitVec.getLsbD_not, one_bit hb, decide_eq_true hb, Bool.true_and, Bool.and_eq_true, Bool.not_eq_true', decide_eq_false_iff_not]
  constructor
  ·rintro ⟨h1, h2⟩
   exact ⟨h1, fun h => h2 (by rw [h])⟩
  ·rintro ⟨h1, h2⟩
   exact ⟨h1, fun h => h2 (bitN_inj he hc h)⟩
def cutS (a b : Sol) : Sol := a &&& ~~~b
theorem cut_has {a b : Sol} {e : Cl} : hasS (cutS a b) e = true ↔ hasS a e = true ∧ hasS b e = false := by
 unfold hasS cutS
 cases he : inG e with
 | false => simp
 | true =>
  have hb := bitN_lt he
  rw [Bool.true_and, Bool.true_and, Bool.true_and, BitVec.getLsbD_and, BitVec.getLsbD_not, decide_eq_true hb, Bool.true_and, Bool.and_eq_true, Bool.not_eq_true']
theorem cut_sub (a b : Sol) : subS (cutS a b) a = true := subS_iff.2 fun c h => (cut_has.1 h).1
theorem not_has {s : Sol} {c : Cl} : hasS s c = false ↔ ¬ (hasS s c = true) := by cases hasS s c <;> simp
inductive Reach (St : List Cl) (l : Sol) (c : Cl) : Cl → Prop
 | start : hasS l c = true → Reach St l c c
 | step {e d : Cl} : Reach St l c e → d ∈ St → hasS l (addC e d) = true → Reach St l c (addC e d)
theorem Reach.has {St : List Cl} {l : Sol} {c e : Cl} (h : Reach St l c e) : hasS l e = true := by
 cases h with
 | start h => exact h
 | step _ _ h => exact h
theorem Reach.first {St : List Cl} {l : Sol} {c e : Cl} (h : Reach St l c e) : hasS l c = true := by
 induction h with
 | start h => exact h
 | step _ _ _ ih => exact ih
theorem Reach.lift {St : List Cl} {l m : Sol} {c d e : Cl} (hs : subS m l = true) (hc : Reach St l c d) (h : Reach St m d e) : Reach St l c e := by
 induction h with
 | start _ => exact hc
 | step _ hd hh ih => exact ih.step hd (subS_iff.1 hs _ hh)
/-- the depth-first visit: what is left behind it -/
def visN (St : List Cl) : Nat → Sol → Cl → Sol
 | 0, l, _ => l
 | n + 1, l, c => if hasS l c then St.foldl (fun l d => visN St n l (addC c d)) (delS l c) else l
structure Vis (St : List Cl) (l : Sol) (c : Cl) (l' : Sol) : Prop where
 sub : subS l' l = true
 gone : hasS l' c = false
 reach : ∀ e, hasS l e = true → hasS l' e = false → Reach St l c e
 closed : ∀ e, hasS l e = true → hasS l' e = false → ∀ d ∈ St, hasS l (addC e d) = true → hasS l' (addC e d) = false
theorem has_sub {a b : Sol} (h : subS a b = true) {c : Cl} (hb : hasS b c = false) : hasS a c = false := by
 rw [not_has] at hb ⊢
 exact fun ha => hb (subS_iff.1 h c ha)
theorem del_count {l : Sol} {c : Cl} (h : hasS l c = true) : countS (delS l c) < countS l := by
 have hs : subS (delS l c) l = true := subS_iff.2 fun e he => ((del_has (has_in h)).1 he).1
 refine Nat.lt_of_not_le fun hle => ?_
 have := count_eq hs hle
 have h2 : hasS (delS l c) c = true := by rw [this]; exact h
 exact ((del_has (has_in h)).1 h2).2 rfl
theorem vis_spec (St : List Cl) : ∀ (n : Nat) (l : Sol) (c : Cl), countS l ≤ n → Vis St l c (visN St n l c)
 | 0, l, c, hn => by
  have h0 : l = 0 := count_zero.1 (by omega)
  have hf : ∀ e, hasS l e = false := fun e => by
   rw [not_has]; intro h
   have := mem_cellsS.2 h
   rw [h0, cellsS_zero] at this; cases this
  exact ⟨subS_refl _, hf c, fun e h _ => (by rw [hf e] at h; cases h), fun e h _ => (by rw [hf e] at h; cases h)⟩
 | n + 1, l, c, hn => by
  unfold visN
  by_cases hc : hasS l c = true
  ·rw [if_pos hc]
   have hg := has_in hc
   have hdel : subS (delS l c) l = true := subS_iff.2 fun e he => ((del_has hg).1 he).1
   have hcnt : countS (delS l c) ≤ n := by have := del_count hc; omega
   have key : ∀ (T : List Cl) (m : Sol), (∀ d ∈ T, d ∈ St) → subS m (delS l c) = true → (∀ e, hasS l e = true → hasS m e = false → Reach St l c e) →
     (∀ e, e ≠ c → hasS l e = true → hasS m e = false → ∀ d ∈ St, hasS l (addC e d) = true → hasS m (addC e d) = false) →
     subS (T.foldl (fun l d => visN St n l (addC c d)) m) (delS l c) = true ∧ subS (T.foldl (fun l d => visN St n l (addC c d)) m) m = true ∧ (∀ e, hasS l e = true → hasS (T.foldl (fun l d => visN St n l (addC c d)) m) e = false → Reach St l c e) ∧
     (∀ e, e ≠ c → hasS l e = true → hasS (T.foldl (fun l d => visN St n l (addC c d)) m) e = false → ∀ d ∈ St, hasS l (addC e d) = true → hasS (T.foldl (fun l d => visN St n l (addC c d)) m) (addC e d) = false) ∧
     (∀ d ∈ T, hasS (T.foldl (fun l d => visN St n l (addC c d)) m) (addC c d) = false) := by
    intro T
    induction T with
    | nil => intro m _ h1 h2 h3; exact ⟨h1, subS_refl _, h2, h3, fun d hd => by cases hd⟩
    | cons d T ih =>
     intro m hT h1 h2 h3
     rw [List.foldl_cons]
     have hv := vis_spec St n m (addC c d) (Nat.le_trans (count_le h1) hcnt)
     have hml : subS m l = true := subS_trans h1 hdel
     have hdSt := hT d List.mem_cons_self
     obtain ⟨k1, k2, k3, k4, k5⟩ := ih (visN St n m (addC c d)) (fun e he => hT e (List.mem_cons_of_mem _ he)) (subS_trans hv.sub h1)
      (fun e he h => by
       cases hm : hasS m e with
       | false => exact h2 e he hm
       | true =>
        have hr := hv.reach e hm h
        cases hcd : hasS m (addC c d) with
        | false =>
         have := hr.first
         rw [hcd] at this; cases this
        | true => exact Reach.lift hml (Reach.step (Reach.start hc) hdSt (subS_iff.1 hml _ hcd)) hr)
      (fun e hne he h d' hd' hf => by
       cases hm : hasS m e with
       | false => exact has_sub hv.sub (h3 e hne he hm d' hd' hf)
       | true =>
        cases hmf : hasS m (addC e d') with
        | false => exact has_sub hv.sub hmf
        | true => exact hv.closed e hm h d' hd' hmf)
     refine ⟨k1, subS_trans k2 hv.sub, k3, k4, fun d' hd' => ?_⟩
     rcases List.mem_cons.1 hd' with rfl | hd'
     ·exact has_sub k2 hv.gone
     ·exact k5 d' hd'
   obtain ⟨k1, k2, k3, k4, k5⟩ := key St (delS l c) (fun _ h => h) (subS_refl _)
    (fun e he h => by
     have : e = c := Classical.byContradiction fun hne => by
      rw [not_has] at h
      exact h ((del_has hg).2 ⟨he, hne⟩)
     rw [this]; exact Reach.start hc)
    (fun e hne he h => by
     rw [not_has] at h
     exact absurd ((del_has hg).2 ⟨he, hne⟩) h)
   have hgone : hasS (St.foldl (fun l d => visN St n l (addC c d)) (delS l c)) c = false := has_sub k1 (by
    rw [not_has]; exact fun h => ((del_has hg).1 h).2 rfl)
   refine ⟨subS_trans k1 hdel, hgone, k3, fun e he h d hd hf => ?_⟩
   by_cases hec : e = c
   ·subst hec; exact k5 d hd
   ·exact k4 e hec he h d hd hf
  ·rw [if_neg hc]
   have hc' := not_has.2 hc
   exact ⟨subS_refl _, hc', fun e he h => (by rw [he] at h; cases h), fun e he h => (by rw [he] at h; cases h)⟩
/-- a part of a solid, by one of its cells -/
structure IsComp (St : List Cl) (l : Sol) (c : Cl) (K : Sol) : Prop where
 sub : subS K l = true
 has : hasS K c = true
 reach : ∀ e, hasS K e = true → Reach St l c e
 closed : ∀ e, hasS K e = true → ∀ d ∈ St, hasS l (addC e d) = true → hasS K (addC e d) = true
theorem count_512 (s : Sol) : countS s ≤ 512 := by
 unfold countS bitsS
 exact Nat.le_trans (List.length_filter_le _ _) (by rw [List.length_range]; exact Nat.le_refl _)
def partS (St : List Cl) (l : Sol) (c : Cl) : Sol := cutS l (visN St 512 l c)
theorem comp_spec {St : List Cl} {l : Sol} {c : Cl} (hc : hasS l c = true) : IsComp St l c (partS St l c) := by
 have h := vis_spec St 512 l c (count_512 l)
 refine ⟨cut_sub _ _, cut_has.2 ⟨hc, h.gone⟩, fun e he => ?_, fun e he d hd hf => ?_⟩
 ·obtain ⟨h1, h2⟩ := cut_has.1 he
  exact h.reach e h1 h2
 ·obtain ⟨h1, h2⟩ := cut_has.1 he
  exact cut_has.2 ⟨hf, h.closed e h1 h2 d hd hf⟩
theorem vis_cut {St : List Cl} {l : Sol} {c : Cl} : visN St 512 l c = cutS l (partS St l c) := by
 have h := vis_spec St 512 l c (count_512 l)
 refine subS_antisymm (subS_iff.2 fun e he => cut_has.2 ⟨subS_iff.1 h.sub e he, ?_⟩) (subS_iff.2 fun e he => ?_)
 ·rw [not_has]; intro hk
  have := (cut_has.1 hk).2
  rw [he] at this; cases this
 ·obtain ⟨h1, h2⟩ := cut_has.1 he
  cases hv : hasS (visN St 512 l c) e with
  | true => rfl
  | false => rw [not_has] at h2; exact absurd (cut_has.2 ⟨h1, hv⟩) h2
end Go.Solid
end
