import Derived.Test.YtkfimbonmnoglaaGreatDoorG05
/-
  Given contracts of functions of the program, and laws for them, one behind the other.
-/
set_option linter.unusedVariables false
set_option linter.unusedSimpArgs false
set_option linter.unusedSectionVars false
section
namespace Go.Draw
set_option maxRecDepth 100000
/-! ### whose the first cell is, cell by cell as the program looks -/
def cellG (m : List Sol) (own : Nat) (G : U) (k : Nat) : Option (Int × Int) := (atCell m own G k).map fun i => ((k : Int), i)
def planeL (z : Nat) (q : U) : List Nat := (listU q).map fun k => 64 * z + k
def cellsFrom (b : Sol) : Nat → List Nat
 | 0 => []
 | n + 1 => planeL (7 - n) (plv b (7 - n)) ++ cellsFrom b n
theorem planeL_eq (b : Sol) (z : Nat) : planeL z (plv b z) = ((List.range 64).map fun k => 64 * z + k).filter fun k => b.getLsbD k := by
 unfold planeL listU
 rw [List.filter_map]
 congr 1
 apply List.filter_congr
 intro k hk
 exact plv_bit b z k (List.mem_range.1 hk)
theorem range_512 : List.range 512 = ((List.range 64).map fun k => 64 * 0 + k) ++ (((List.range 64).map fun k => 64 * 1 + k) ++ (((List.range 64).map fun k => 64 * 2 + k) ++ (((List.range 64).map fun k => 64 * 3 + k) ++ (((List.range 64).map fun k => 64 * 4 + k) ++ (((List.range 64).map fun k => 64 * 5 + k) ++ (((List.range 64).map fun k => 64 * 6 + k) ++ (((List.range 64).map fun k => 64 * 7 + k) ++ []))))))) := by decide +kernel
theorem cells_filter (b : Sol) : (List.range 512).filter (fun k => b.getLsbD k) = cellsFrom b 8 := by
 rw [range_512]
 simp only [List.filter_append, ← planeL_eq, List.filter_nil]
 rfl
theorem findSome_filter {α β : Type} (c : α → Bool) (f : α → Option β) : ∀ l : List α, l.findSome? (fun k => if c k then f k else none) = (l.filter c).findSome? f
 | [] => rfl
 | a :: l => by
  rw [List.findSome?_cons, List.filter_cons]
  cases h : c a
  ·simp only [Bool.false_eq_true, if_false]; exact findSome_filter c f l
  ·simp only [if_true]
   rw [List.findSome?_cons, findSome_filter c f l]
theorem atM_cells (m : List Sol) (own : Nat) (G : U) (b : Sol) : atM m own G b = (cellsFrom b 8).findSome? (cellG m own G) := by
 rw [← cells_filter, ← findSome_filter]; rfl
theorem cellsFrom_succ (b : Sol) {z : Nat} (hz : z < 8) : cellsFrom b (8 - z) = planeL z (plv b z) ++ cellsFrom b (8 - (z + 1)) := by
 obtain ⟨n, hn⟩ : ∃ n, 8 - z = n + 1 := ⟨7 - z, by omega⟩
 rw [hn, show 8 - (z + 1) = n by omega, cellsFrom, show 7 - n = z by omega]
theorem planeL_zero (z : Nat) : planeL z 0 = [] := by unfold planeL; rw [listU_zero]; rfl
theorem planeL_cons (z : Nat) {q : U} (hq : q ≠ 0) : planeL z q = (64 * z + lowU q) :: planeL z (q &&& (q - 1)) := by
 unfold planeL; rw [listU_cons q hq]; rfl
/-- of the pieces from i on, the first that has a cell -/
def ownerF (m : List Sol) (own : Nat) (G : U) (k : Nat) (i : Nat) : Option Nat := ((List.range m.length).drop i).find? fun i => i != own && !G.getLsbD i && (m.getD i 0).getLsbD k
theorem ownerF_step {m : List Sol} {own : Nat} {G : U} {k i : Nat} (hi : i < m.length) : ownerF m own G k i = if i != own && !G.getLsbD i && (m.getD i 0).getLsbD k then some i else ownerF m own G k (i + 1) := by
 unfold ownerF
 have e : (List.range m.length).drop i = i :: (List.range m.length).drop (i + 1) := by
  rw [List.drop_eq_getElem_cons (by simpa using hi)]; simp
 rw [e, List.find?_cons]
 cases (i != own && !G.getLsbD i && (m.getD i 0).getLsbD k) <;> rfl
theorem ownerF_end (m : List Sol) (own : Nat) (G : U) (k : Nat) : ownerF m own G k m.length = none := by
 unfold ownerF; rw [List.drop_eq_nil_of_le (by simp)]; rfl
theorem atCell_own (m : List Sol) (own : Nat) (G : U) (k : Nat) : atCell m own G k = if (sandM m).getLsbD k then some (-1) else (ownerF m own G k 0).map Int.ofNat := rfl
end Go.Draw
end
section
namespace Go.Draw
set_option maxRecDepth 100000
/-! ### counting the bits of a small set, as the library does it -/
def popA (x : U) : U := ((x >>> 1) &&& 0x5555555555555555#64) + (x &&& 0x5555555555555555#64)
def popB (x : U) : U := ((x >>> 2) &&& 0x3333333333333333#64) + (x &&& 0x3333333333333333#64)
def popC (x : U) : U := ((x >>> 4) + x) &&& 0x0f0f0f0f0f0f0f0f#64
def popD (x : U) : U := x + (x >>> 8)
def popE (x : U) : U := x + (x >>> 16)
def popF (x : U) : U := x + (x >>> 32)
def popU (x : U) : U := popF (popE (popD (popC (popB (popA x))))) &&& 127#64
end Go.Draw
end
section
namespace Go.Solid
open Go.Draw
set_option maxRecDepth 100000
/-! cells of the grid, and solids as sets of them -/
abbrev Cl := Int × Int × Int
def in7 (n : Int) : Bool := decide (0 ≤ n) && decide (n ≤ 7)
theorem in7_iff {n : Int} : in7 n = true ↔ 0 ≤ n ∧ n ≤ 7 := by unfold in7; simp
def inG (c : Cl) : Bool := in7 c.1 && in7 c.2.1 && in7 c.2.2
theorem inG_iff {c : Cl} : inG c = true ↔ (0 ≤ c.1 ∧ c.1 ≤ 7) ∧ (0 ≤ c.2.1 ∧ c.2.1 ≤ 7) ∧ (0 ≤ c.2.2 ∧ c.2.2 ≤ 7) := by
 unfold inG
 rw [Bool.and_eq_true, Bool.and_eq_true, in7_iff, in7_iff, in7_iff, and_assoc]
def bitN (c : Cl) : Nat := (64 * c.2.2 + 8 * c.2.1 + c.1).toNat
def cellN (n : Nat) : Cl := (((n % 8 : Nat) : Int), ((n / 8 % 8 : Nat) : Int), ((n / 64 : Nat) : Int))
theorem cellN_in {n : Nat} (h : n < 512) : inG (cellN n) = true := by
 rw [inG_iff]; unfold cellN; simp only; omega
theorem bitN_cellN (n : Nat) : bitN (cellN n) = n := by
 unfold bitN cellN; simp only; omega
theorem bitN_lt {c : Cl} (h : inG c = true) : bitN c < 512 := by
 rw [inG_iff] at h; unfold bitN; omega
theorem cellN_bitN {c : Cl} (h : inG c = true) : cellN (bitN c) = c := by
 obtain ⟨x, y, z⟩ := c
 rw [inG_iff] at h
 simp only at h
 unfold cellN bitN
 simp only
 refine Prod.ext ?_ (Prod.ext ?_ ?_)
 ·show (((64 * z + 8 * y + x).toNat % 8 : Nat) : Int) = x; omega
 ·show (((64 * z + 8 * y + x).toNat / 8 % 8 : Nat) : Int) = y; omega
 ·show (((64 * z + 8 * y + x).toNat / 64 : Nat) : Int) = z; omega
theorem bitN_inj {c d : Cl} (hc : inG c = true) (hd : inG d = true) (h : bitN c = bitN d) : c = d := by
 rw [← cellN_bitN hc, ← cellN_bitN hd, h]
def hasS (s : Sol) (c : Cl) : Bool := inG c && s.getLsbD (bitN c)
theorem hasS_cellN {s : Sol} {n : Nat} (h : n < 512) : hasS s (cellN n) = s.getLsbD n := by
 unfold hasS; rw [cellN_in h, bitN_cellN, Bool.true_and]
theorem hasS_out {s : Sol} {c : Cl} (h : inG c = false) : hasS s c = false := by unfold hasS; rw [h]; rfl
theorem sol_has {s t : Sol} (h : ∀ c, inG c = true → hasS s c = hasS t c) : s = t := by
 apply BitVec.eq_of_getLsbD_eq
 intro n hn
 rw [← hasS_cellN hn, ← hasS_cellN hn]
 exact h _ (cellN_in hn)
def bitsS (s : Sol) : List Nat := (List.range 512).filter fun n => s.getLsbD n
theorem mem_bitsS {s : Sol} {n : Nat} : n ∈ bitsS s ↔ s.getLsbD n = true := by
 unfold bitsS
 rw [List.mem_filter, List.mem_range]
 exact ⟨fun h => h.2, fun h => ⟨Nat.lt_of_not_le (fun h2 => by rw [BitVec.getLsbD_of_ge _ _ h2] at h; cases h), h⟩⟩
theorem bitsS_lt {s : Sol} {n : Nat} (h : n ∈ bitsS s) : n < 512 := by
 unfold bitsS at h
 exact List.mem_range.1 (List.mem_filter.1 h).1
def cellsS (s : Sol) : List Cl := (bitsS s).map cellN
theorem mem_cellsS {s : Sol} {c : Cl} : c ∈ cellsS s ↔ hasS s c = true := by
 unfold cellsS
 rw [List.mem_map]
 constructor
 ·rintro ⟨n, hn, rfl⟩
  rw [hasS_cellN (bitsS_lt hn)]; exact mem_bitsS.1 hn
 ·intro h
  unfold hasS at h
  rw [Bool.and_eq_true] at h
  exact ⟨bitN c, mem_bitsS.2 h.2, cellN_bitN h.1⟩
theorem cellsS_in {s : Sol} {c : Cl} (h : c ∈ cellsS s) : inG c = true := by
 have := mem_cellsS.1 h
 unfold hasS at this
 rw [Bool.and_eq_true] at this
 exact this.1
theorem cellsS_zero : cellsS 0 = [] := by
 rw [List.eq_nil_iff_forall_not_mem]
 intro c h
 have := mem_cellsS.1 h
 unfold hasS at this
 simp at this
theorem cellsS_nil {s : Sol} : cellsS s = [] ↔ s = 0 := by
 constructor
 ·intro h
  apply sol_has
  intro c _
  cases h2 : hasS s c with
  | true => rw [← mem_cellsS, h] at h2; cases h2
  | false => unfold hasS; simp
 ·rintro rfl; exact cellsS_zero
def one (n : Nat) : Sol := 1#512 <<< n
theorem one_bit {n k : Nat} (hk : k < 512) : (one n).getLsbD k = decide (k = n) := by
 unfold one
 rw [BitVec.getLsbD_shiftLeft]
 by_cases h : k < n
 ·simp [h, hk]; omega
 ·by_cases e : k = n
  ·subst e; simp [hk]
  ·have : (1#512).getLsbD (k - n) = false := by
    rw [BitVec.getLsbD_one]; simp; omega
   simp [this, e]
/-- the cells of a list of numbers of bits -/
def orF (a : Sol) (l : List Nat) : Sol := l.foldl (fun a n => a ||| one n) a
def orL (l : List Nat) : Sol := orF 0 l
theorem orF_bit (l : List Nat) : ∀ (a : Sol) {k : Nat}, k < 512 → (orF a l).getLsbD k = (a.getLsbD k || decide (k ∈ l)) := by
 induction l with
 | nil => intro a k _; simp [orF]
 | cons n l ih =>
  intro a k hk
  show (orF (a ||| one n) l).getLsbD k = _
  rw [ih _ hk, BitVec.getLsbD_or, one_bit hk, Bool.or_assoc]
  congr 1
  rw [Bool.eq_iff_iff]
  simp
theorem orL_bit (l : List Nat) {k : Nat} (hk : k < 512) : (orL l).getLsbD k = decide (k ∈ l) := by
 unfold orL; rw [orF_bit l 0 hk]; simp
theorem orF_snoc (a : Sol) (l : List Nat) (n : Nat) : orF a (l ++ [n]) = orF a l ||| one n := by unfold orF; rw [List.foldl_append]; rfl
/-- what a map makes of a solid, if no cell leaves the grid -/
def imgS (f : Cl → Cl) (s : Sol) : Sol := orL ((cellsS s).map fun c => bitN (f c))
def stays (f : Cl → Cl) (s : Sol) : Bool := (cellsS s).all fun c => inG (f c)
theorem stays_iff {f : Cl → Cl} {s : Sol} : stays f s = true ↔ ∀ c, hasS s c = true → inG (f c) = true := by
 unfold stays
 rw [List.all_eq_true]
 exact ⟨fun h c hc => h c (mem_cellsS.2 hc), fun h c hc => h c (mem_cellsS.1 hc)⟩
theorem imgS_has {f : Cl → Cl} {s : Sol} (h : stays f s = true) {d : Cl} (hd : inG d = true) : hasS (imgS f s) d = true ↔ ∃ c, hasS s c = true ∧ f c = d := by
 unfold hasS imgS
 rw [hd, Bool.true_and, orL_bit _ (bitN_lt hd), decide_eq_true_eq, List.mem_map]
 constructor
 ·rintro ⟨c, hc, e⟩
  exact ⟨c, mem_cellsS.1 hc, bitN_inj (stays_iff.1 h c (mem_cellsS.1 hc)) hd e⟩
 ·rintro ⟨c, hc, rfl⟩
  exact ⟨c, mem_cellsS.2 hc, rfl⟩
theorem mem_img {f : Cl → Cl} {s : Sol} (h : stays f s = true) {d : Cl} : d ∈ cellsS (imgS f s) ↔ ∃ c, c ∈ cellsS s ∧ f c = d := by
 rw [mem_cellsS]
 constructor
 ·intro hd
  have hg : inG d = true := by unfold hasS at hd; rw [Bool.and_eq_true] at hd; exact hd.1
  obtain ⟨c, h1, h2⟩ := (imgS_has h hg).1 hd
  exact ⟨c, mem_cellsS.2 h1, h2⟩
 ·rintro ⟨c, h1, rfl⟩
  exact (imgS_has h (stays_iff.1 h c (mem_cellsS.1 h1))).2 ⟨c, mem_cellsS.1 h1, rfl⟩
theorem imgS_comp {f g : Cl → Cl} {s : Sol} (hf : stays f s = true) (hg : stays g (imgS f s) = true) : stays (fun c => g (f c)) s = true ∧ imgS (fun c => g (f c)) s = imgS g (imgS f s) := by
 have hc : stays (fun c => g (f c)) s = true := by
  rw [stays_iff] at hg ⊢
  intro c hcs
  exact hg (f c) ((imgS_has hf (stays_iff.1 hf c hcs)).2 ⟨c, hcs, rfl⟩)
 refine ⟨hc, sol_has fun d hd => ?_⟩
 rw [Bool.eq_iff_iff, imgS_has hc hd, imgS_has hg hd]
 constructor
 ·rintro ⟨c, h1, rfl⟩
  exact ⟨f c, (imgS_has hf (stays_iff.1 hf c h1)).2 ⟨c, h1, rfl⟩, rfl⟩
 ·rintro ⟨e, h1, rfl⟩
  have he : inG e = true := by unfold hasS at h1; rw [Bool.and_eq_true] at h1; exact h1.1
  obtain ⟨c, h2, rfl⟩ := (imgS_has hf he).1 h1
  exact ⟨c, h2, rfl⟩
theorem imgS_id {f : Cl → Cl} {s : Sol} (h : ∀ c, hasS s c = true → f c = c) : stays f s = true ∧ imgS f s = s := by
 have hs : stays f s = true := stays_iff.2 fun c hc => by
  rw [h c hc]; unfold hasS at hc; rw [Bool.and_eq_true] at hc; exact hc.1
 refine ⟨hs, sol_has fun d hd => ?_⟩
 rw [Bool.eq_iff_iff, imgS_has hs hd]
 constructor
 ·rintro ⟨c, h1, rfl⟩
  rw [h c h1]; exact h1
 ·intro h1
  exact ⟨d, h1, h d h1⟩
theorem imgS_congr {f g : Cl → Cl} {s : Sol} (h : ∀ c, hasS s c = true → f c = g c) : stays f s = stays g s ∧ imgS f s = imgS g s := by
 constructor
 ·unfold stays
  rw [Bool.eq_iff_iff, List.all_eq_true, List.all_eq_true]
  exact ⟨fun H c hc => by rw [← h c (mem_cellsS.1 hc)]; exact H c hc, fun H c hc => by rw [h c (mem_cellsS.1 hc)]; exact H c hc⟩
 ·unfold imgS
  congr 1
  exact List.map_congr_left fun c hc => by rw [h c (mem_cellsS.1 hc)]
end Go.Solid
end
section
namespace Go.Solid
open Go.Draw
set_option maxRecDepth 100000
/-! the turns of the grid -/
def rollC : Nat → Cl → Cl
 | 1, c => (c.1, 7 - c.2.2, c.2.1)
 | 2, c => (c.1, 7 - c.2.1, 7 - c.2.2)
 | 3, c => (c.1, c.2.2, 7 - c.2.1)
 | 4, c => (c.2.2, c.2.1, 7 - c.1)
 | 5, c => (7 - c.2.2, c.2.1, c.1)
 | _, c => c
def spinC : Nat → Cl → Cl
 | 0, c => c
 | n + 1, c => spinC n (7 - c.2.1, c.1, c.2.2)
def turnC (t : Nat) (c : Cl) : Cl := spinC (t % 4) (rollC (t / 4) c)
/-! the same as permutations of the coordinates, some of them mirrored -/
abbrev Ax := Nat × Bool
abbrev SP := Ax × Ax × Ax
def co (c : Cl) : Nat → Int
 | 0 => c.1
 | 1 => c.2.1
 | _ => c.2.2
def apA (a : Ax) (c : Cl) : Int := if a.2 then 7 - co c a.1 else co c a.1
def apS (p : SP) (c : Cl) : Cl := (apA p.1 c, apA p.2.1 c, apA p.2.2 c)
def axS (q : SP) : Nat → Ax
 | 0 => q.1
 | 1 => q.2.1
 | _ => q.2.2
def compA (a : Ax) (q : SP) : Ax := ((axS q a.1).1, a.2 != (axS q a.1).2)
def compS (p q : SP) : SP := (compA p.1 q, compA p.2.1 q, compA p.2.2 q)
theorem co_apS (q : SP) (c : Cl) : ∀ k, co (apS q c) k = apA (axS q k) c
 | 0 => rfl
 | 1 => rfl
 | _ + 2 => rfl
theorem apA_comp (a : Ax) (q : SP) (c : Cl) : apA (compA a q) c = apA a (apS q c) := by
 obtain ⟨k, f⟩ := a
 unfold apA compA
 simp only [co_apS]
 unfold apA
 cases f <;> cases (axS q k).2 <;> simp <;> omega
theorem apS_comp (p q : SP) (c : Cl) : apS (compS p q) c = apS p (apS q c) := by
 unfold apS compS
 simp only [apA_comp]
 rfl
def idS : SP := ((0, false), (1, false), (2, false))
theorem apS_id (c : Cl) : apS idS c = c := rfl
def rollS : Nat → SP
 | 1 => ((0, false), (2, true), (1, false))
 | 2 => ((0, false), (1, true), (2, true))
 | 3 => ((0, false), (2, false), (1, true))
 | 4 => ((2, false), (1, false), (0, true))
 | 5 => ((2, true), (1, false), (0, false))
 | _ => idS
theorem roll_eq (h : Nat) (c : Cl) : rollC h c = apS (rollS h) c := by
 match h with
 | 0 => rfl
 | 1 => rfl
 | 2 => rfl
 | 3 => rfl
 | 4 => rfl
 | 5 => rfl
 | n + 6 => rfl
def spinS : Nat → SP
 | 0 => idS
 | n + 1 => compS (spinS n) ((1, true), (0, false), (2, false))
theorem spin_eq : ∀ (n : Nat) (c : Cl), spinC n c = apS (spinS n) c
 | 0, c => rfl
 | n + 1, c => by
  unfold spinC spinS
  rw [spin_eq n, apS_comp]; rfl
def turnS (t : Nat) : SP := compS (spinS (t % 4)) (rollS (t / 4))
theorem turn_eq (t : Nat) (c : Cl) : turnC t c = apS (turnS t) c := by
 unfold turnC turnS
 rw [apS_comp, roll_eq, spin_eq]
/-! the group -/
def findT (p : SP) : Nat := ((List.range 24).find? fun t => turnS t == p).getD 0
def mulT (t u : Nat) : Nat := findT (compS (turnS u) (turnS t))
def invT (t : Nat) : Nat := ((List.range 24).find? fun u => mulT t u == 0).getD 0
theorem mul_all : ((List.range 24).all fun t => (List.range 24).all fun u => (decide (mulT t u < 24)) && (turnS (mulT t u) == compS (turnS u) (turnS t))) = true := by decide +kernel
theorem mul_lt {t u : Nat} (ht : t < 24) (hu : u < 24) : mulT t u < 24 := by
 have := mul_all
 simp only [List.all_eq_true, List.mem_range, Bool.and_eq_true, decide_eq_true_eq] at this
 exact (this t ht u hu).1
/-- first t, then u -/
theorem turn_mul {t u : Nat} (ht : t < 24) (hu : u < 24) (c : Cl) : turnC u (turnC t c) = turnC (mulT t u) c := by
 have := mul_all
 simp only [List.all_eq_true, List.mem_range, Bool.and_eq_true, beq_iff_eq] at this
 rw [turn_eq, turn_eq, turn_eq, (this t ht u hu).2, apS_comp]
theorem inv_all : ((List.range 24).all fun t => decide (invT t < 24) && (mulT t (invT t) == 0) && (mulT (invT t) t == 0)) = true := by decide +kernel
theorem inv_lt {t : Nat} (ht : t < 24) : invT t < 24 := by
 have := inv_all
 simp only [List.all_eq_true, List.mem_range, Bool.and_eq_true, decide_eq_true_eq] at this
 exact (this t ht).1.1
theorem turn_zero (c : Cl) : turnC 0 c = c := rfl
theorem turn_inv {t : Nat} (ht : t < 24) (c : Cl) : turnC (invT t) (turnC t c) = c := by
 have := inv_all
 simp only [List.all_eq_true, List.mem_range, Bool.and_eq_true, beq_iff_eq] at this
 rw [turn_mul ht (inv_lt ht), (this t ht).1.2]; rfl
theorem inv_turn {t : Nat} (ht : t < 24) (c : Cl) : turnC t (turnC (invT t) c) = c := by
 have := inv_all
 simp only [List.all_eq_true, List.mem_range, Bool.and_eq_true, beq_iff_eq] at this
 rw [turn_mul (inv_lt ht) ht, (this t ht).2]; rfl
/-! a turn keeps the grid -/
theorem in7_flip (n : Int) : in7 (7 - n) = in7 n := by
 rw [Bool.eq_iff_iff, in7_iff, in7_iff]; omega
theorem roll_in (h : Nat) (c : Cl) : inG (rollC h c) = inG c := by
 obtain ⟨x, y, z⟩ := c
 have key : ∀ a b d : Bool, (a && d && b) = (a && b && d) ∧ (d && b && a) = (a && b && d) := by decide
 match h with
 | 0 => rfl
 | 1 => unfold rollC inG; simp only [in7_flip]; exact (key _ _ _).1
 | 2 => unfold rollC inG; simp only [in7_flip]
 | 3 => unfold rollC inG; simp only [in7_flip]; exact (key _ _ _).1
 | 4 => unfold rollC inG; simp only [in7_flip]; exact (key _ _ _).2
 | 5 => unfold rollC inG; simp only [in7_flip]; exact (key _ _ _).2
 | n + 6 => rfl
theorem spin_in : ∀ (n : Nat) (c : Cl), inG (spinC n c) = inG c
 | 0, c => rfl
 | n + 1, c => by
  unfold spinC
  rw [spin_in n]
  unfold inG
  simp only [in7_flip]
  rw [Bool.and_comm (in7 c.2.1) (in7 c.1)]
theorem turn_in (t : Nat) (c : Cl) : inG (turnC t c) = inG c := by unfold turnC; rw [spin_in, roll_in]
/-! moves -/
def addC (c d : Cl) : Cl := (c.1 + d.1, c.2.1 + d.2.1, c.2.2 + d.2.2)
def subC (c d : Cl) : Cl := (c.1 - d.1, c.2.1 - d.2.1, c.2.2 - d.2.2)
def linA (a : Ax) (d : Cl) : Int := if a.2 then - co d a.1 else co d a.1
def linS (p : SP) (d : Cl) : Cl := (linA p.1 d, linA p.2.1 d, linA p.2.2 d)
theorem co_add (c d : Cl) : ∀ k, co (addC c d) k = co c k + co d k
 | 0 => rfl
 | 1 => rfl
 | _ + 2 => rfl
theorem apA_add (a : Ax) (c d : Cl) : apA a (addC c d) = apA a c + linA a d := by
 unfold apA linA
 rw [co_add]
 cases a.2 <;> simp <;> omega
theorem apS_add (p : SP) (c d : Cl) : apS p (addC c d) = addC (apS p c) (linS p d) := by
 unfold apS addC linS
 simp only [apA_add]
 exact Prod.ext (apA_add _ _ _) (Prod.ext (apA_add _ _ _) (apA_add _ _ _))
theorem addC_zero (c : Cl) : addC (0, 0, 0) c = c := by unfold addC; simp
theorem subC_addC (c d : Cl) : subC (addC c d) c = d := by
 unfold subC addC
 refine Prod.ext ?_ (Prod.ext ?_ ?_)
 ·show c.1 + d.1 - c.1 = d.1; omega
 ·show c.2.1 + d.2.1 - c.2.1 = d.2.1; omega
 ·show c.2.2 + d.2.2 - c.2.2 = d.2.2; omega
/-- what a turn makes of a move -/
def movT (t : Nat) (d : Cl) : Cl := linS (turnS t) d
theorem turn_add (t : Nat) (c d : Cl) : turnC t (addC c d) = addC (turnC t c) (movT t d) := by
 rw [turn_eq, turn_eq, apS_add]; rfl
theorem origin_eq (t : Nat) (d : Cl) : subC (turnC t d) (turnC t (0, 0, 0)) = movT t d := by
 have h := turn_add t (0, 0, 0) d
 rw [addC_zero] at h
 rw [h, subC_addC]
/-! a turn is told by three cells, and by one that has three numbers -/
theorem told_all : ((List.range 24).all fun t => (List.range 24).all fun u => ((turnC t (1, 0, 0) == turnC u (1, 0, 0)) && (turnC t (0, 1, 0) == turnC u (0, 1, 0)) && (turnC t (0, 0, 1) == turnC u (0, 0, 1))) == (t == u)) = true := by decide +kernel
theorem told_lin : ((List.range 24).all fun t => (List.range 24).all fun u => ((movT t (1, 0, 0) == movT u (1, 0, 0)) && (movT t (0, 1, 0) == movT u (0, 1, 0)) && (movT t (0, 0, 1) == movT u (0, 0, 1))) == (t == u)) = true := by decide +kernel
theorem told_back : ((List.range 24).all fun t => (List.range 24).all fun u => (turnC u (turnC t (0, 1, 2)) == (0, 1, 2)) == (u == invT t)) = true := by decide +kernel
end Go.Solid
end
section
namespace Go.Solid
open Go.Draw
set_option maxRecDepth 100000
/-! the least box, and solids moved by shifts of words -/
def minC (a b : Cl) : Cl := (min a.1 b.1, min a.2.1 b.2.1, min a.2.2 b.2.2)
def maxC (a b : Cl) : Cl := (max a.1 b.1, max a.2.1 b.2.1, max a.2.2 b.2.2)
theorem co_min (a b : Cl) : ∀ k, co (minC a b) k = min (co a k) (co b k)
 | 0 => rfl
 | 1 => rfl
 | _ + 2 => rfl
theorem co_max (a b : Cl) : ∀ k, co (maxC a b) k = max (co a k) (co b k)
 | 0 => rfl
 | 1 => rfl
 | _ + 2 => rfl
theorem co_ext {a b : Cl} (h0 : co a 0 = co b 0) (h1 : co a 1 = co b 1) (h2 : co a 2 = co b 2) : a = b := Prod.ext h0 (Prod.ext h1 h2)
def loF (a : Cl) (l : List Cl) : Cl := l.foldl minC a
def hiF (a : Cl) (l : List Cl) : Cl := l.foldl maxC a
theorem loF_spec (k : Nat) : ∀ (l : List Cl) (a : Cl), co (loF a l) k ≤ co a k ∧ (∀ c ∈ l, co (loF a l) k ≤ co c k) ∧ (co (loF a l) k = co a k ∨ ∃ c ∈ l, co (loF a l) k = co c k)
 | [], a => ⟨Int.le_refl _, fun c h => (by cases h), .inl rfl⟩
 | d :: l, a => by
  obtain ⟨h1, h2, h3⟩ := loF_spec k l (minC a d)
  have e : loF a (d :: l) = loF (minC a d) l := rfl
  rw [e]
  rw [co_min] at h1 h3
  refine ⟨by omega, fun c hc => ?_, ?_⟩
  ·rcases List.mem_cons.1 hc with rfl | hc
   ·omega
   ·exact h2 c hc
  ·rcases h3 with h3 | ⟨c, hc, h3⟩
   ·by_cases h : co a k ≤ co d k
    ·exact .inl (by omega)
    ·exact .inr ⟨d, List.mem_cons_self, by omega⟩
   ·exact .inr ⟨c, List.mem_cons_of_mem _ hc, h3⟩
theorem hiF_spec (k : Nat) : ∀ (l : List Cl) (a : Cl), co a k ≤ co (hiF a l) k ∧ (∀ c ∈ l, co c k ≤ co (hiF a l) k) ∧ (co (hiF a l) k = co a k ∨ ∃ c ∈ l, co (hiF a l) k = co c k)
 | [], a => ⟨Int.le_refl _, fun c h => (by cases h), .inl rfl⟩
 | d :: l, a => by
  obtain ⟨h1, h2, h3⟩ := hiF_spec k l (maxC a d)
  have e : hiF a (d :: l) = hiF (maxC a d) l := rfl
  rw [e]
  rw [co_max] at h1 h3
  refine ⟨by omega, fun c hc => ?_, ?_⟩
  ·rcases List.mem_cons.1 hc with rfl | hc
   ·omega
   ·exact h2 c hc
  ·rcases h3 with h3 | ⟨c, hc, h3⟩
   ·by_cases h : co d k ≤ co a k
    ·exact .inl (by omega)
    ·exact .inr ⟨d, List.mem_cons_self, by omega⟩
   ·exact .inr ⟨c, List.mem_cons_of_mem _ hc, h3⟩
def loS (s : Sol) : Cl := loF (7, 7, 7) (cellsS s)
def hiS (s : Sol) : Cl := hiF (0, 0, 0) (cellsS s)
theorem co_in {c : Cl} (h : inG c = true) (k : Nat) : 0 ≤ co c k ∧ co c k ≤ 7 := by
 rw [inG_iff] at h
 match k with
 | 0 => exact h.1
 | 1 => exact h.2.1
 | _ + 2 => exact h.2.2
theorem in_co {c : Cl} (h : ∀ k, 0 ≤ co c k ∧ co c k ≤ 7) : inG c = true := inG_iff.2 ⟨h 0, h 1, h 2⟩
theorem co_seven : ∀ k, co (7, 7, 7) k = 7
 | 0 => rfl
 | 1 => rfl
 | _ + 2 => rfl
theorem co_zero : ∀ k, co (0, 0, 0) k = 0
 | 0 => rfl
 | 1 => rfl
 | _ + 2 => rfl
theorem loS_le {s : Sol} {c : Cl} (h : hasS s c = true) (k : Nat) : co (loS s) k ≤ co c k := (loF_spec k _ _).2.1 c (mem_cellsS.2 h)
theorem le_hiS {s : Sol} {c : Cl} (h : hasS s c = true) (k : Nat) : co c k ≤ co (hiS s) k := (hiF_spec k _ _).2.1 c (mem_cellsS.2 h)
theorem has_some {s : Sol} (h : s ≠ 0) : ∃ c, hasS s c = true := by
 cases hc : cellsS s with
 | nil => exact absurd (cellsS_nil.1 hc) h
 | cons c l => exact ⟨c, mem_cellsS.1 (by rw [hc]; exact List.mem_cons_self)⟩
theorem has_in {s : Sol} {c : Cl} (h : hasS s c = true) : inG c = true := by
 unfold hasS at h; rw [Bool.and_eq_true] at h; exact h.1
theorem loS_at {s : Sol} (h : s ≠ 0) (k : Nat) : ∃ c, hasS s c = true ∧ co (loS s) k = co c k := by
 rcases (loF_spec k (cellsS s) (7, 7, 7)).2.2 with h1 | ⟨c, hc, h1⟩
 ·obtain ⟨c, hc⟩ := has_some h
  have h2 := loS_le hc k
  have h3 := co_in (has_in hc) k
  rw [co_seven] at h1
  refine ⟨c, hc, ?_⟩
  show co (loS s) k = _
  have : co (loS s) k = 7 := h1
  omega
 ·exact ⟨c, mem_cellsS.1 hc, h1⟩
theorem hiS_at {s : Sol} (h : s ≠ 0) (k : Nat) : ∃ c, hasS s c = true ∧ co (hiS s) k = co c k := by
 rcases (hiF_spec k (cellsS s) (0, 0, 0)).2.2 with h1 | ⟨c, hc, h1⟩
 ·obtain ⟨c, hc⟩ := has_some h
  have h2 := le_hiS hc k
  have h3 := co_in (has_in hc) k
  rw [co_zero] at h1
  refine ⟨c, hc, ?_⟩
  have : co (hiS s) k = 0 := h1
  omega
 ·exact ⟨c, mem_cellsS.1 hc, h1⟩
theorem loS_in {s : Sol} (h : s ≠ 0) : inG (loS s) = true := in_co fun k => by
 obtain ⟨c, hc, e⟩ := loS_at h k
 rw [e]; exact co_in (has_in hc) k
theorem hiS_in {s : Sol} (h : s ≠ 0) : inG (hiS s) = true := in_co fun k => by
 obtain ⟨c, hc, e⟩ := hiS_at h k
 rw [e]; exact co_in (has_in hc) k
/-- the reference starts at the first cell -/
theorem loF_first {s : Sol} {c : Cl} {l : List Cl} (h : cellsS s = c :: l) : loF c (cellsS s) = loS s := by
 have hs : s ≠ 0 := fun e => by rw [e, cellsS_zero] at h; cases h
 have key : ∀ k, co (loF c (cellsS s)) k = co (loS s) k := fun k => by
  have hc : hasS s c = true := mem_cellsS.1 (by rw [h]; exact List.mem_cons_self)
  obtain ⟨d, hd, e⟩ := loS_at hs k
  obtain ⟨h1, h2, h3⟩ := loF_spec k (cellsS s) c
  have h4 := h2 d (mem_cellsS.2 hd)
  rcases h3 with h3 | ⟨f, hf, h3⟩
  ·have := loS_le hc k; omega
  ·have := loS_le (mem_cellsS.1 hf) k; omega
 exact co_ext (key 0) (key 1) (key 2)
theorem hiF_first {s : Sol} {c : Cl} {l : List Cl} (h : cellsS s = c :: l) : hiF c (cellsS s) = hiS s := by
 have hs : s ≠ 0 := fun e => by rw [e, cellsS_zero] at h; cases h
 have key : ∀ k, co (hiF c (cellsS s)) k = co (hiS s) k := fun k => by
  have hc : hasS s c = true := mem_cellsS.1 (by rw [h]; exact List.mem_cons_self)
  obtain ⟨d, hd, e⟩ := hiS_at hs k
  obtain ⟨h1, h2, h3⟩ := hiF_spec k (cellsS s) c
  have h4 := h2 d (mem_cellsS.2 hd)
  rcases h3 with h3 | ⟨f, hf, h3⟩
  ·have := le_hiS hc k; omega
  ·have := le_hiS (mem_cellsS.1 hf) k; omega
 exact co_ext (key 0) (key 1) (key 2)
/-! moved -/
def movC (d c : Cl) : Cl := addC c d
theorem co_mov (d c : Cl) (k : Nat) : co (movC d c) k = co c k + co d k := co_add c d k
def shiftP (p : U) (k : Int) : U := if 0 ≤ k then p <<< k.toNat else p >>> (-k).toNat
theorem shiftP_bit (p : U) (k : Int) {i : Nat} (hi : i < 64) : (shiftP p k).getLsbD i = true ↔ ∃ n : Nat, n < 64 ∧ (n : Int) + k = i ∧ p.getLsbD n = true := by
 unfold shiftP
 by_cases h : 0 ≤ k
 ·rw [if_pos h, BitVec.getLsbD_shiftLeft]
  simp only [hi, decide_true, Bool.true_and, Bool.and_eq_true, Bool.not_eq_true', decide_eq_false_iff_not]
  constructor
  ·rintro ⟨h1, h2⟩
   exact ⟨i - k.toNat, by omega, by omega, h2⟩
  ·rintro ⟨n, h1, h2, h3⟩
   refine ⟨by omega, ?_⟩
   rw [show i - k.toNat = n by omega]; exact h3
 ·rw [if_neg h, BitVec.getLsbD_ushiftRight]
  constructor
  ·intro h1
   have h2 : (-k).toNat + i < 64 := Nat.lt_of_not_le fun h2 => by rw [BitVec.getLsbD_of_ge _ _ h2] at h1; cases h1
   exact ⟨(-k).toNat + i, h2, by omega, h1⟩
  ·rintro ⟨n, h1, h2, h3⟩
   rw [show (-k).toNat + i = n by omega]; exact h3
/-- the planes from lz to hz, moved -/
def liftS (s : Sol) (lz hz : Int) (d : Cl) : Sol := mkS fun j => if lz ≤ (j : Int) - d.2.2 ∧ (j : Int) - d.2.2 ≤ hz then shiftP (plv s ((j : Int) - d.2.2).toNat) (8 * d.2.1 + d.1) else 0
theorem plv_bit' (s : Sol) (z : Nat) {i : Nat} (hi : i < 64) : (plv s z).getLsbD i = s.getLsbD (64 * z + i) := by
 unfold plv; rw [BitVec.getLsbD_extractLsb']; simp [hi]
theorem mkS_bit (f : Nat → U) {z i : Nat} (hz : z < 8) (hi : i < 64) : (mkS f).getLsbD (64 * z + i) = (f z).getLsbD i := by
 rw [← plv_bit' _ _ hi, plv_mkS _ _ hz]
theorem lift_img {s : Sol} {d : Cl} (h : stays (movC d) s = true) : liftS s (loS s).2.2 (hiS s).2.2 d = imgS (movC d) s := by
 apply sol_has
 intro e he
 rw [Bool.eq_iff_iff, imgS_has h he]
 obtain ⟨x, y, z⟩ := e
 obtain ⟨dx, dy, dz⟩ := d
 have hG := inG_iff.1 he
 simp only at hG
 obtain ⟨j, rfl⟩ : ∃ j : Nat, z = j := ⟨z.toNat, by omega⟩
 obtain ⟨i, hi⟩ : ∃ i : Nat, (i : Int) = 8 * y + x := ⟨(8 * y + x).toNat, by omega⟩
 have hb : bitN (x, y, (j : Int)) = 64 * j + i := by unfold bitN; simp only; omega
 have h1 : hasS (liftS s (loS s).2.2 (hiS s).2.2 (dx, dy, dz)) (x, y, (j : Int)) = (if (loS s).2.2 ≤ (j : Int) - dz ∧ (j : Int) - dz ≤ (hiS s).2.2 then shiftP (plv s ((j : Int) - dz).toNat) (8 * dy + dx) else 0).getLsbD i := by
  unfold hasS
  rw [he, Bool.true_and, hb]
  unfold liftS
  rw [mkS_bit _ (by omega) (by omega)]
 rw [h1]
 have hst := stays_iff.1 h
 constructor
 ·intro h2
  split at h2
  ·rename_i hc
   obtain ⟨n, hn, e1, h3⟩ := (shiftP_bit _ _ (by omega)).1 h2
   have hs0 : s ≠ 0 := fun e => by
    rw [e, plv_zero] at h3; simp at h3
   have hl := inG_iff.1 (loS_in hs0)
   have hh := inG_iff.1 (hiS_in hs0)
   obtain ⟨q, hq⟩ : ∃ q : Nat, (q : Int) = (j : Int) - dz := ⟨((j : Int) - dz).toNat, by omega⟩
   rw [← hq, Int.toNat_natCast, plv_bit' _ _ hn] at h3
   have hc2 : hasS s (cellN (64 * q + n)) = true := by rw [hasS_cellN (by omega)]; exact h3
   have h4 := inG_iff.1 (hst _ hc2)
   refine ⟨_, hc2, ?_⟩
   unfold cellN movC addC at *
   simp only at *
   refine Prod.ext ?_ (Prod.ext ?_ ?_)
   ·show (((64 * q + n) % 8 : Nat) : Int) + dx = x; omega
   ·show (((64 * q + n) / 8 % 8 : Nat) : Int) + dy = y; omega
   ·show (((64 * q + n) / 64 : Nat) : Int) + dz = j; omega
  ·simp at h2
 ·rintro ⟨c, hc, e⟩
  have h5 := loS_le hc 2
  have h6 := le_hiS hc 2
  have h7 := inG_iff.1 (has_in hc)
  obtain ⟨cx, cy, cz⟩ := c
  unfold movC addC at e
  simp only [Prod.mk.injEq] at e h7
  have h5' : (loS s).2.2 ≤ cz := h5
  have h6' : cz ≤ (hiS s).2.2 := h6
  rw [if_pos ⟨by omega, by omega⟩]
  obtain ⟨n, hn⟩ : ∃ n : Nat, (n : Int) = 8 * cy + cx := ⟨(8 * cy + cx).toNat, by omega⟩
  refine (shiftP_bit _ _ (by omega)).2 ⟨n, by omega, by omega, ?_⟩
  rw [plv_bit' _ _ (by omega)]
  have hc2 := hc
  unfold hasS at hc2
  rw [Bool.and_eq_true] at hc2
  have : bitN (cx, cy, cz) = 64 * ((j : Int) - dz).toNat + n := by unfold bitN; simp only; omega
  rw [← this]; exact hc2.2
/-! moved to the corner -/
def negC (c : Cl) : Cl := (-c.1, -c.2.1, -c.2.2)
theorem co_neg (c : Cl) : ∀ k, co (negC c) k = - co c k
 | 0 => rfl
 | 1 => rfl
 | _ + 2 => rfl
def cornS (s : Sol) : Sol := if s = 0 then 0 else imgS (movC (negC (loS s))) s
theorem corn_stays {s : Sol} (h : s ≠ 0) : stays (movC (negC (loS s))) s = true := stays_iff.2 fun c hc => in_co fun k => by
 rw [co_mov, co_neg]
 have h1 := loS_le hc k
 have h2 := co_in (has_in hc) k
 have h3 := co_in (loS_in h) k
 omega
def spunS (s : Sol) (t : Nat) : Sol := imgS (turnC t) s
theorem spun_stays (s : Sol) (t : Nat) : stays (turnC t) s = true := stays_iff.2 fun c hc => by rw [turn_in]; exact has_in hc
def imageS (s : Sol) (t : Nat) : Sol := cornS (spunS s t)
end Go.Solid
end
section
namespace Go.Solid
open Go.Draw
set_option maxRecDepth 100000
/-! how many cells; parts of solids; moved and turned solids -/
def countS (s : Sol) : Nat := (bitsS s).length
theorem bitsS_nodup (s : Sol) : (bitsS s).Nodup := List.nodup_range.filter _
theorem cellsS_nodup (s : Sol) : (cellsS s).Nodup := by
 unfold cellsS
 unfold List.Nodup
 rw [List.pairwise_map]
 exact (bitsS_nodup s).imp fun {a b} h e => h (by rw [← bitN_cellN a, e, bitN_cellN])
theorem countS_cells (s : Sol) : countS s = (cellsS s).length := by unfold countS cellsS; rw [List.length_map]
theorem count_img {f : Cl → Cl} {s : Sol} (h : stays f s = true) (hi : ∀ c d, f c = f d → c = d) : countS (imgS f s) = countS s := by
 rw [countS_cells, countS_cells]
 have hp : (cellsS (imgS f s)).Perm ((cellsS s).map f) := by
  refine (List.perm_ext_iff_of_nodup (cellsS_nodup _) ?_).2 fun d => ?_
  ·unfold List.Nodup
   rw [List.pairwise_map]
   exact (cellsS_nodup s).imp fun {a b} h e => h (hi _ _ e)
  ·rw [mem_img h, List.mem_map]
 rw [hp.length_eq, List.length_map]
/-- all cells of a are cells of b -/
def subS (a b : Sol) : Bool := a &&& b == a
theorem subS_iff {a b : Sol} : subS a b = true ↔ ∀ c, hasS a c = true → hasS b c = true := by
 unfold subS
 rw [beq_iff_eq]
 constructor
 ·intro h c hc
  have hg := has_in hc
  unfold hasS at hc ⊢
  rw [hg, Bool.true_and] at hc ⊢
  rw [← h, BitVec.getLsbD_and, Bool.and_eq_true] at hc
  exact hc.2
 ·intro h
  apply sol_has
  intro c hc
  have := h c
  unfold hasS at this ⊢
  rw [hc] at this ⊢
  simp only [Bool.true_and] at this ⊢
  rw [BitVec.getLsbD_and]
  cases h1 : a.getLsbD (bitN c) with
  | false => rfl
  | true => rw [this h1]; rfl
theorem subS_refl (a : Sol) : subS a a = true := subS_iff.2 fun _ h => h
theorem subS_trans {a b c : Sol} (h : subS a b = true) (k : subS b c = true) : subS a c = true := subS_iff.2 fun x hx => subS_iff.1 k x (subS_iff.1 h x hx)
theorem subS_antisymm {a b : Sol} (h : subS a b = true) (k : subS b a = true) : a = b := by
 apply sol_has
 intro c _
 rw [Bool.eq_iff_iff]
 exact ⟨subS_iff.1 h c, subS_iff.1 k c⟩
theorem sub_bits {a b : Sol} (h : subS a b = true) : ∀ n, n ∈ bitsS a → n ∈ bitsS b := fun n hn => by
 have h1 := subS_iff.1 h (cellN n)
 rw [hasS_cellN (bitsS_lt hn), hasS_cellN (bitsS_lt hn)] at h1
 exact mem_bitsS.2 (h1 (mem_bitsS.1 hn))
theorem count_le {a b : Sol} (h : subS a b = true) : countS a ≤ countS b := (bitsS_nodup a).length_le_of_subset fun n hn => sub_bits h n hn
theorem count_eq {a b : Sol} (h : subS a b = true) (k : countS b ≤ countS a) : a = b := by
 have key : ∀ n, n ∈ bitsS b → n ∈ bitsS a := fun n hn => Classical.byContradiction fun hno => by
  have h1 : (n :: bitsS a).Nodup := List.nodup_cons.2 ⟨hno, bitsS_nodup a⟩
  have h2 := h1.length_le_of_subset (l₂ := bitsS b) fun x hx => by
   rcases List.mem_cons.1 hx with rfl | hx
   ·exact hn
   ·exact sub_bits h x hx
  rw [List.length_cons] at h2
  unfold countS at k
  omega
 apply BitVec.eq_of_getLsbD_eq
 intro n _
 rw [Bool.eq_iff_iff, ← mem_bitsS, ← mem_bitsS]
 exact ⟨sub_bits h n, key n⟩
theorem count_zero {s : Sol} : countS s = 0 ↔ s = 0 := by
 rw [countS_cells, List.length_eq_zero_iff, cellsS_nil]
/-! moves and turns of solids -/
theorem mov_inj (d : Cl) : ∀ c e, movC d c = movC d e → c = e := fun c e h => by
 have key : ∀ k, co c k = co e k := fun k => by
  have := congrArg (fun x => co x k) h
  simp only [co_mov] at this
  omega
 exact co_ext (key 0) (key 1) (key 2)
theorem turn_inj {t : Nat} (ht : t < 24) : ∀ c e, turnC t c = turnC t e → c = e := fun c e h => by
 rw [← turn_inv ht c, h, turn_inv ht]
theorem mov_zero (c : Cl) : movC (0, 0, 0) c = c := by
 have key : ∀ k, co (movC (0, 0, 0) c) k = co c k := fun k => by rw [co_mov, co_zero]; omega
 exact co_ext (key 0) (key 1) (key 2)
theorem mov_mov (d e c : Cl) : movC e (movC d c) = movC (addC d e) c := by
 have key : ∀ k, co (movC e (movC d c)) k = co (movC (addC d e) c) k := fun k => by rw [co_mov, co_mov, co_mov, co_add]; omega
 exact co_ext (key 0) (key 1) (key 2)
theorem mov_back (d c : Cl) : movC (negC d) (movC d c) = c := by
 have key : ∀ k, co (movC (negC d) (movC d c)) k = co c k := fun k => by rw [co_mov, co_mov, co_neg]; omega
 exact co_ext (key 0) (key 1) (key 2)
theorem back_mov (d c : Cl) : movC d (movC (negC d) c) = c := by
 have key : ∀ k, co (movC d (movC (negC d) c)) k = co c k := fun k => by rw [co_mov, co_mov, co_neg]; omega
 exact co_ext (key 0) (key 1) (key 2)
theorem turn_mov (t : Nat) (d c : Cl) : turnC t (movC d c) = movC (movT t d) (turnC t c) := turn_add t c d
theorem spun_zero (s : Sol) : spunS s 0 = s := (imgS_id (f := turnC 0) fun c _ => turn_zero c).2
theorem spun_mul {t u : Nat} (ht : t < 24) (hu : u < 24) (s : Sol) : spunS (spunS s t) u = spunS s (mulT t u) := by
 unfold spunS
 rw [← (imgS_comp (spun_stays s t) (spun_stays _ u)).2]
 exact (imgS_congr fun c _ => turn_mul ht hu c).2
theorem spun_inv {t : Nat} (ht : t < 24) (s : Sol) : spunS (spunS s t) (invT t) = s := by
 unfold spunS
 rw [← (imgS_comp (spun_stays s t) (spun_stays _ (invT t))).2]
 exact (imgS_id fun c _ => turn_inv ht c).2
theorem spun_count {t : Nat} (ht : t < 24) (s : Sol) : countS (spunS s t) = countS s := count_img (spun_stays s t) (turn_inj ht)
theorem img_ne {f : Cl → Cl} {s : Sol} (h : stays f s = true) (hs : s ≠ 0) : imgS f s ≠ 0 := by
 obtain ⟨c, hc⟩ := has_some hs
 intro e
 have := (mem_img h).2 ⟨c, mem_cellsS.2 hc, rfl⟩
 rw [e, cellsS_zero] at this
 cases this
theorem img_zero (f : Cl → Cl) : imgS f 0 = 0 := by unfold imgS; rw [cellsS_zero]; rfl
theorem spun_ne {s : Sol} (hs : s ≠ 0) (t : Nat) : spunS s t ≠ 0 := img_ne (spun_stays s t) hs
/-- moved solids, moved to the corner -/
theorem lo_mov {s : Sol} {d : Cl} (h : stays (movC d) s = true) (hs : s ≠ 0) : loS (imgS (movC d) s) = addC (loS s) d := by
 have hn := img_ne h hs
 have key : ∀ k, co (loS (imgS (movC d) s)) k = co (addC (loS s) d) k := fun k => by
  rw [co_add]
  obtain ⟨c, hc, e⟩ := loS_at hs k
  obtain ⟨g, hg, e2⟩ := loS_at hn k
  obtain ⟨g', hg', rfl⟩ := (imgS_has h (has_in hg)).1 hg
  have h1 := loS_le (mem_cellsS.1 ((mem_img h).2 ⟨c, mem_cellsS.2 hc, rfl⟩)) k
  have h2 := loS_le hg' k
  rw [co_mov] at h1 e2
  omega
 exact co_ext (key 0) (key 1) (key 2)
theorem hi_mov {s : Sol} {d : Cl} (h : stays (movC d) s = true) (hs : s ≠ 0) : hiS (imgS (movC d) s) = addC (hiS s) d := by
 have hn := img_ne h hs
 have key : ∀ k, co (hiS (imgS (movC d) s)) k = co (addC (hiS s) d) k := fun k => by
  rw [co_add]
  obtain ⟨c, hc, e⟩ := hiS_at hs k
  obtain ⟨g, hg, e2⟩ := hiS_at hn k
  obtain ⟨g', hg', rfl⟩ := (imgS_has h (has_in hg)).1 hg
  have h1 := le_hiS (mem_cellsS.1 ((mem_img h).2 ⟨c, mem_cellsS.2 hc, rfl⟩)) k
  have h2 := le_hiS hg' k
  rw [co_mov] at h1 e2
  omega
 exact co_ext (key 0) (key 1) (key 2)
theorem corn_zero : cornS 0 = 0 := by unfold cornS; rw [if_pos rfl]
theorem corn_mov {s : Sol} {d : Cl} (h : stays (movC d) s = true) : cornS (imgS (movC d) s) = cornS s := by
 by_cases hs : s = 0
 ·subst hs; rw [img_zero]
 ·have hn := img_ne h hs
  unfold cornS
  rw [if_neg hs, if_neg hn]
  have h2 := corn_stays hn
  rw [← (imgS_comp h h2).2, lo_mov h hs]
  refine (imgS_congr fun c _ => ?_).2
  have key : ∀ k, co (movC (negC (addC (loS s) d)) (movC d c)) k = co (movC (negC (loS s)) c) k := fun k => by
   rw [co_mov, co_mov, co_neg, co_add, co_mov, co_neg]; omega
  exact co_ext (key 0) (key 1) (key 2)
/-- where a solid stands: it is one that is moved to the corner, moved back -/
theorem corn_back {s : Sol} (hs : s ≠ 0) : stays (movC (loS s)) (cornS s) = true ∧ imgS (movC (loS s)) (cornS s) = s := by
 have h := corn_stays hs
 unfold cornS
 rw [if_neg hs]
 have h2 : stays (movC (loS s)) (imgS (movC (negC (loS s))) s) = true := stays_iff.2 fun e he => by
  obtain ⟨c, hc, rfl⟩ := (imgS_has h (has_in he)).1 he
  rw [back_mov]; exact has_in hc
 exact ⟨h2, by rw [← (imgS_comp h h2).2]; exact (imgS_id fun c _ => back_mov _ c).2⟩
theorem corn_ne {s : Sol} (hs : s ≠ 0) : cornS s ≠ 0 := by
 unfold cornS
 rw [if_neg hs]
 exact img_ne (corn_stays hs) hs
/-- a turn of what is moved to the corner is, moved to the corner, the turn -/
theorem corn_turn {s : Sol} {t : Nat} : cornS (spunS (cornS s) t) = cornS (spunS s t) := by
 by_cases hs : s = 0
 ·subst hs; rw [corn_zero]
 ·have h := corn_stays hs
  have e1 : cornS s = imgS (movC (negC (loS s))) s := by unfold cornS; rw [if_neg hs]
  have e2 : spunS (cornS s) t = imgS (movC (movT t (negC (loS s)))) (spunS s t) ∧ stays (movC (movT t (negC (loS s)))) (spunS s t) = true := by
   have h3 : stays (movC (movT t (negC (loS s)))) (spunS s t) = true := stays_iff.2 fun e he => by
    obtain ⟨c, hc, rfl⟩ := (imgS_has (spun_stays s t) (has_in he)).1 he
    rw [← turn_mov, turn_in]
    exact stays_iff.1 h c hc
   refine ⟨?_, h3⟩
   unfold spunS at h3 ⊢
   rw [e1, ← (imgS_comp h (spun_stays _ t)).2, ← (imgS_comp (spun_stays s t) h3).2]
   exact (imgS_congr fun c _ => turn_mov t _ c).2
  rw [e2.1, corn_mov e2.2]
theorem image_mul {t u : Nat} (ht : t < 24) (hu : u < 24) (s : Sol) : imageS (imageS s t) u = imageS s (mulT t u) := by
 unfold imageS
 rw [corn_turn, spun_mul ht hu]
end Go.Solid
end
