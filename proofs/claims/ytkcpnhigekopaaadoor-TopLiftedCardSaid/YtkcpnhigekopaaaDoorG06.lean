import Derived.Test.YtkcpnhigekopaaaDoorG05
/-
  Given contracts of functions of the program, and laws for them, one behind the other.
-/
set_option linter.unusedVariables false
set_option linter.unusedSimpArgs false
set_option linter.unusedSectionVars false
section
namespace Go.Draw
set_option maxRecDepth 10000
/-! ### the moves of a piece, by their number -/
def mvAt (p i : Nat) : Mv := if i = 0 then (p, 0, 0) else (p, (i - 1) / 7 + 1, (i - 1) % 7 + 1)
def upM (p i : Nat) : List Mv := (List.range i).map (mvAt p)
theorem upM_succ (p i : Nat) : upM p (i + 1) = upM p i ++ [mvAt p i] := by unfold upM; rw [List.range_succ, List.map_append]; rfl
theorem upM_all (p : Nat) : upM p 29 = movesL p := by
 unfold upM movesL
 rw [List.range_succ_eq_map, List.map_cons, List.map_map]
 congr 1
theorem upM_prefix (p : Nat) {i : Nat} (h : i ≤ 29) : upM p i <+: movesL p := by
 rw [← upM_all]
 obtain ⟨d, hd⟩ : ∃ d, 29 = i + d := ⟨29 - i, by omega⟩
 rw [hd]
 unfold upM
 rw [List.range_add, List.map_append]
 exact List.prefix_append _ _
theorem upM_length (p i : Nat) : (upM p i).length = i := by unfold upM; simp
theorem mvAt_zero (p : Nat) : mvAt p 0 = (p, 0, 0) := rfl
theorem mvAt_in (p side far : Nat) (h1 : 1 ≤ side) (h2 : 1 ≤ far) (h3 : far ≤ 7) : mvAt p (1 + (side - 1) * 7 + (far - 1)) = (p, side, far) := by
 unfold mvAt
 rw [if_neg (by omega)]
 simp only [Prod.mk.injEq, true_and]
 omega
theorem mvAt_mem (p i : Nat) (h : i < 29) : mvAt p i ∈ movesL p := by
 rw [← upM_all]; exact List.mem_map.2 ⟨i, List.mem_range.2 h, rfl⟩
theorem movesL_len (p : Nat) : (movesL p).length = 29 := by rw [← upM_all, upM_length]
/-- the first of a list, when it is met -/
theorem find_at {α : Type} (f : α → Bool) {pre : List α} {x : α} {l : List α} (hp : pre ++ [x] <+: l) (h0 : ∀ y ∈ pre, f y = false) (h1 : f x = true) : l.find? f = some x := by
 obtain ⟨t, rfl⟩ := hp
 rw [List.append_assoc, List.find?_append]
 have : pre.find? f = none := List.find?_eq_none.2 fun y hy => by rw [h0 y hy]; simp
 rw [this]
 simp [h1]
theorem find_no {α : Type} (f : α → Bool) {l : List α} (h0 : ∀ y ∈ l, f y = false) : l.find? f = none := List.find?_eq_none.2 fun y hy => by rw [h0 y hy]; simp
end Go.Draw
end
section
namespace Go.Draw
set_option maxRecDepth 10000
theorem card_add {S G : U} {p : Nat} (hS : S.getLsbD p = true) (hG : G.getLsbD p = false) : cardU (S &&& ~~~(G ||| bit p)) < cardU (S &&& ~~~G) := by
 have hp : p < 64 := BitVec.lt_of_getLsbD hS
 unfold cardU listU
 refine filter_length_lt _ _ _ (fun i _ hi => ?_) p (List.mem_range.2 hp) ?_ ?_
 ·rw [andnot_bit, or_bit _ _ _ hp] at hi
  rw [andnot_bit]
  cases hs : S.getLsbD i <;> cases hg : G.getLsbD i <;> simp_all
 ·rw [andnot_bit, or_bit _ _ _ hp]; simp
 ·rw [andnot_bit, hG, hS]; rfl
theorem sub_add {S G : U} {p : Nat} (h : Sub G S) (hS : S.getLsbD p = true) : Sub (G ||| bit p) S :=
 or_sub.2 ⟨h, fun i hi => by
  rw [bit_bit _ _ (BitVec.lt_of_getLsbD hS)] at hi
  have : i = p := by simpa using hi
  rw [this]; exact hS⟩
theorem nextM_skip (m : List Sol) (G : U) {p : Nat} {l : List Nat} (h : goesM m p G = none) : nextM m G (p :: l) = nextM m G l := by rw [nextM, h]
theorem nextM_take (m : List Sol) (G : U) {p : Nat} {l : List Nat} {x : Mv} (h : goesM m p G = some x) : nextM m G (p :: l) = some (p, x) := by rw [nextM, h]
theorem orderF_end (m : List Sol) (S : U) (n : Nat) (out : List Mv) : orderF m S (n + 1) S out = some out := by rw [orderF, if_pos rfl]
theorem orderF_go {m : List Sol} {S G : U} {n : Nat} {out : List Mv} (h : G ≠ S) {p : Nat} {x : Mv} (hn : nextM m G (listU (S &&& ~~~G)) = some (p, x)) : orderF m S (n + 1) G out = orderF m S n (G ||| bit p) (out ++ [x]) := by rw [orderF, if_neg h, hn]
theorem orderF_stop {m : List Sol} {S G : U} {n : Nat} {out : List Mv} (h : G ≠ S) (hn : nextM m G (listU (S &&& ~~~G)) = none) : orderF m S (n + 1) G out = none := by rw [orderF, if_neg h, hn]
end Go.Draw
end
section
namespace Go.Draw
set_option maxRecDepth 100000
/-! ### the chapter's examples, worked out -/
theorem exA_order : orderM mA (allU 3) = some [(1, 0, 0), (0, 0, 0), (2, 3, 1)] := by decide +kernel
theorem exA_inWay : inWayM mA (2, 3, 1) = (0b11#64, false) := by decide +kernel
theorem exA_holds : holdsM mA 0 (2, 3, 6) = some (324, 0) := by decide +kernel
theorem exA_rounds : roundsM mA = ([[1], [0], [2]], 0) := by decide +kernel
theorem exA_paths : pathsM mA 2 = [7#64] := by decide +kernel
theorem exA_needs : listU (needsU mA 2) = [0, 1] := by decide +kernel
theorem exA_list : listU (0b11#64) = [0, 1] ∧ listU 7#64 = [0, 1, 2] := by decide +kernel
theorem exR_least : leastLockM mR = some 3#64 := by decide +kernel
theorem exR_order : orderM mR (allU 2) = none := by decide +kernel
theorem exA_last : lastM mA = [2] := by decide +kernel
theorem exA_orders : ordersM mA = 1 := by decide +kernel
theorem exA_good : goodM mA = true ∧ goodM mR = true := by decide +kernel
end Go.Draw
end
section
namespace Go.Draw
set_option maxRecDepth 100000
/-! ### whose the first cell is, cell by cell as the program looks -/
def cellG (m : List Sol) (own : Nat) (G : U) (k : Nat) : Option (Int × Int) := (atCell m own G k).map fun i => ((k : Int), i)
def planeL (z : Nat) (q : U) : List Nat := (listU q).map fun k => 64 * z + k
def cellsFrom (b : Sol) : Nat → List Nat
 | 0 => []
 | n + 1 => planeL (7 - n) (plv b (7 - n)) ++ cellsFrom b n
theorem planeL_eq (b : Sol) (z : Nat) : planeL z (plv b z) = ((List.range 64).map fun k => 64 * z + k).filter fun k => b.getLsbD k := by
 unfold planeL listU
 rw [List.filter_map]
 congr 1
 apply List.filter_congr
 intro k hk
 exact plv_bit b z k (List.mem_range.1 hk)
theorem range_512 : List.range 512 = ((List.range 64).map fun k => 64 * 0 + k) ++ (((List.range 64).map fun k => 64 * 1 + k) ++ (((List.range 64).map fun k => 64 * 2 + k) ++ (((List.range 64).map fun k => 64 * 3 + k) ++ (((List.range 64).map fun k => 64 * 4 + k) ++ (((List.range 64).map fun k => 64 * 5 + k) ++ (((List.range 64).map fun k => 64 * 6 + k) ++ (((List.range 64).map fun k => 64 * 7 + k) ++ []))))))) := by decide +kernel
theorem cells_filter (b : Sol) : (List.range 512).filter (fun k => b.getLsbD k) = cellsFrom b 8 := by
 rw [range_512]
 simp only [List.filter_append, ← planeL_eq, List.filter_nil]
 rfl
theorem findSome_filter {α β : Type} (c : α → Bool) (f : α → Option β) : ∀ l : List α, l.findSome? (fun k => if c k then f k else none) = (l.filter c).findSome? f
 | [] => rfl
 | a :: l => by
  rw [List.findSome?_cons, List.filter_cons]
  cases h : c a
  ·simp only [Bool.false_eq_true, if_false]; exact findSome_filter c f l
  ·simp only [if_true]
   rw [List.findSome?_cons, findSome_filter c f l]
theorem atM_cells (m : List Sol) (own : Nat) (G : U) (b : Sol) : atM m own G b = (cellsFrom b 8).findSome? (cellG m own G) := by
 rw [← cells_filter, ← findSome_filter]; rfl
theorem cellsFrom_succ (b : Sol) {z : Nat} (hz : z < 8) : cellsFrom b (8 - z) = planeL z (plv b z) ++ cellsFrom b (8 - (z + 1)) := by
 obtain ⟨n, hn⟩ : ∃ n, 8 - z = n + 1 := ⟨7 - z, by omega⟩
 rw [hn, show 8 - (z + 1) = n by omega, cellsFrom, show 7 - n = z by omega]
theorem planeL_zero (z : Nat) : planeL z 0 = [] := by unfold planeL; rw [listU_zero]; rfl
theorem planeL_cons (z : Nat) {q : U} (hq : q ≠ 0) : planeL z q = (64 * z + lowU q) :: planeL z (q &&& (q - 1)) := by
 unfold planeL; rw [listU_cons q hq]; rfl
/-- of the pieces from i on, the first that has a cell -/
def ownerF (m : List Sol) (own : Nat) (G : U) (k : Nat) (i : Nat) : Option Nat := ((List.range m.length).drop i).find? fun i => i != own && !G.getLsbD i && (m.getD i 0).getLsbD k
theorem ownerF_step {m : List Sol} {own : Nat} {G : U} {k i : Nat} (hi : i < m.length) : ownerF m own G k i = if i != own && !G.getLsbD i && (m.getD i 0).getLsbD k then some i else ownerF m own G k (i + 1) := by
 unfold ownerF
 have e : (List.range m.length).drop i = i :: (List.range m.length).drop (i + 1) := by
  rw [List.drop_eq_getElem_cons (by simpa using hi)]; simp
 rw [e, List.find?_cons]
 cases (i != own && !G.getLsbD i && (m.getD i 0).getLsbD k) <;> rfl
theorem ownerF_end (m : List Sol) (own : Nat) (G : U) (k : Nat) : ownerF m own G k m.length = none := by
 unfold ownerF; rw [List.drop_eq_nil_of_le (by simp)]; rfl
theorem atCell_own (m : List Sol) (own : Nat) (G : U) (k : Nat) : atCell m own G k = if (sandM m).getLsbD k then some (-1) else (ownerF m own G k 0).map Int.ofNat := rfl
end Go.Draw
end
section
namespace Go.Draw
set_option maxRecDepth 100000
/-! ### counting the bits of a small set, as the library does it -/
def popA (x : U) : U := ((x >>> 1) &&& 0x5555555555555555#64) + (x &&& 0x5555555555555555#64)
def popB (x : U) : U := ((x >>> 2) &&& 0x3333333333333333#64) + (x &&& 0x3333333333333333#64)
def popC (x : U) : U := ((x >>> 4) + x) &&& 0x0f0f0f0f0f0f0f0f#64
def popD (x : U) : U := x + (x >>> 8)
def popE (x : U) : U := x + (x >>> 16)
def popF (x : U) : U := x + (x >>> 32)
def popU (x : U) : U := popF (popE (popD (popC (popB (popA x))))) &&& 127#64
theorem pop_small : ∀ n, n < 4096 → popU (BitVec.ofNat 64 n) = BitVec.ofNat 64 (cardU (BitVec.ofNat 64 n)) := by decide +kernel
theorem sub_small {A : U} {n : Nat} (hn : n ≤ 12) (h : Sub A (allU n)) : A.toNat < 4096 := by
 refine Nat.lt_of_not_le fun hc => ?_
 obtain ⟨i, hi, hb⟩ := Nat.exists_ge_and_testBit_of_ge_two_pow (n := 12) (x := A.toNat) hc
 have h1 := h i (by rw [BitVec.getLsbD]; exact hb)
 rw [allU_bit _ _ (by omega)] at h1
 simp at h1; omega
theorem pop_card {A : U} {n : Nat} (hn : n ≤ 12) (h : Sub A (allU n)) : popU A = BitVec.ofNat 64 (cardU A) := by
 have := pop_small A.toNat (sub_small hn h)
 rwa [BitVec.ofNat_toNat, BitVec.setWidth_eq] at this
end Go.Draw
end
section
namespace Go.Solid
open Go.Draw
set_option maxRecDepth 100000
/-! cells of the grid, and solids as sets of them -/
abbrev Cl := Int × Int × Int
def in7 (n : Int) : Bool := decide (0 ≤ n) && decide (n ≤ 7)
theorem in7_iff {n : Int} : in7 n = true ↔ 0 ≤ n ∧ n ≤ 7 := by unfold in7; simp
def inG (c : Cl) : Bool := in7 c.1 && in7 c.2.1 && in7 c.2.2
theorem inG_iff {c : Cl} : inG c = true ↔ (0 ≤ c.1 ∧ c.1 ≤ 7) ∧ (0 ≤ c.2.1 ∧ c.2.1 ≤ 7) ∧ (0 ≤ c.2.2 ∧ c.2.2 ≤ 7) := by
 unfold inG
 rw [Bool.and_eq_true, Bool.and_eq_true, in7_iff, in7_iff, in7_iff, and_assoc]
def bitN (c : Cl) : Nat := (64 * c.2.2 + 8 * c.2.1 + c.1).toNat
def cellN (n : Nat) : Cl := (((n % 8 : Nat) : Int), ((n / 8 % 8 : Nat) : Int), ((n / 64 : Nat) : Int))
theorem cellN_in {n : Nat} (h : n < 512) : inG (cellN n) = true := by
 rw [inG_iff]; unfold cellN; simp only; omega
theorem bitN_cellN (n : Nat) : bitN (cellN n) = n := by
 unfold bitN cellN; simp only; omega
theorem bitN_lt {c : Cl} (h : inG c = true) : bitN c < 512 := by
 rw [inG_iff] at h; unfold bitN; omega
theorem cellN_bitN {c : Cl} (h : inG c = true) : cellN (bitN c) = c := by
 obtain ⟨x, y, z⟩ := c
 rw [inG_iff] at h
 simp only at h
 unfold cellN bitN
 simp only
 refine Prod.ext ?_ (Prod.ext ?_ ?_)
 ·show (((64 * z + 8 * y + x).toNat % 8 : Nat) : Int) = x; omega
 ·show (((64 * z + 8 * y + x).toNat / 8 % 8 : Nat) : Int) = y; omega
 ·show (((64 * z + 8 * y + x).toNat / 64 : Nat) : Int) = z; omega
theorem bitN_inj {c d : Cl} (hc : inG c = true) (hd : inG d = true) (h : bitN c = bitN d) : c = d := by
 rw [← cellN_bitN hc, ← cellN_bitN hd, h]
def hasS (s : Sol) (c : Cl) : Bool := inG c && s.getLsbD (bitN c)
theorem hasS_cellN {s : Sol} {n : Nat} (h : n < 512) : hasS s (cellN n) = s.getLsbD n := by
 unfold hasS; rw [cellN_in h, bitN_cellN, Bool.true_and]
theorem hasS_out {s : Sol} {c : Cl} (h : inG c = false) : hasS s c = false := by unfold hasS; rw [h]; rfl
theorem sol_has {s t : Sol} (h : ∀ c, inG c = true → hasS s c = hasS t c) : s = t := by
 apply BitVec.eq_of_getLsbD_eq
 intro n hn
 rw [← hasS_cellN hn, ← hasS_cellN hn]
 exact h _ (cellN_in hn)
def bitsS (s : Sol) : List Nat := (List.range 512).filter fun n => s.getLsbD n
theorem mem_bitsS {s : Sol} {n : Nat} : n ∈ bitsS s ↔ s.getLsbD n = true := by
 unfold bitsS
 rw [List.mem_filter, List.mem_range]
 exact ⟨fun h => h.2, fun h => ⟨Nat.lt_of_not_le (fun h2 => by rw [BitVec.getLsbD_of_ge _ _ h2] at h; cases h), h⟩⟩
theorem bitsS_lt {s : Sol} {n : Nat} (h : n ∈ bitsS s) : n < 512 := by
 unfold bitsS at h
 exact List.mem_range.1 (List.mem_filter.1 h).1
def cellsS (s : Sol) : List Cl := (bitsS s).map cellN
theorem mem_cellsS {s : Sol} {c : Cl} : c ∈ cellsS s ↔ hasS s c = true := by
 unfold cellsS
 rw [List.mem_map]
 constructor
 ·rintro ⟨n, hn, rfl⟩
  rw [hasS_cellN (bitsS_lt hn)]; exact mem_bitsS.1 hn
 ·intro h
  unfold hasS at h
  rw [Bool.and_eq_true] at h
  exact ⟨bitN c, mem_bitsS.2 h.2, cellN_bitN h.1⟩
theorem cellsS_in {s : Sol} {c : Cl} (h : c ∈ cellsS s) : inG c = true := by
 have := mem_cellsS.1 h
 unfold hasS at this
 rw [Bool.and_eq_true] at this
 exact this.1
theorem cellsS_zero : cellsS 0 = [] := by
 rw [List.eq_nil_iff_forall_not_mem]
 intro c h
 have := mem_cellsS.1 h
 unfold hasS at this
 simp at this
theorem cellsS_nil {s : Sol} : cellsS s = [] ↔ s = 0 := by
 constructor
 ·intro h
  apply sol_has
  intro c _
  cases h2 : hasS s c with
  | true => rw [← mem_cellsS, h] at h2; cases h2
  | false => unfold hasS; simp
 ·rintro rfl; exact cellsS_zero
def one (n : Nat) : Sol := 1#512 <<< n
theorem one_bit {n k : Nat} (hk : k < 512) : (one n).getLsbD k = decide (k = n) := by
 unfold one
 rw [BitVec.getLsbD_shiftLeft]
 by_cases h : k < n
 ·simp [h, hk]; omega
 ·by_cases e : k = n
  ·subst e; simp [hk]
  ·have : (1#512).getLsbD (k - n) = false := by
    rw [BitVec.getLsbD_one]; simp; omega
   simp [this, e]
/-- the cells of a list of numbers of bits -/
def orF (a : Sol) (l : List Nat) : Sol := l.foldl (fun a n => a ||| one n) a
def orL (l : List Nat) : Sol := orF 0 l
theorem orF_bit (l : List Nat) : ∀ (a : Sol) {k : Nat}, k < 512 → (orF a l).getLsbD k = (a.getLsbD k || decide (k ∈ l)) := by
 induction l with
 | nil => intro a k _; simp [orF]
 | cons n l ih =>
  intro a k hk
  show (orF (a ||| one n) l).getLsbD k = _
  rw [ih _ hk, BitVec.getLsbD_or, one_bit hk, Bool.or_assoc]
  congr 1
  rw [Bool.eq_iff_iff]
  simp
theorem orL_bit (l : List Nat) {k : Nat} (hk : k < 512) : (orL l).getLsbD k = decide (k ∈ l) := by
 unfold orL; rw [orF_bit l 0 hk]; simp
theorem orF_snoc (a : Sol) (l : List Nat) (n : Nat) : orF a (l ++ [n]) = orF a l ||| one n := by unfold orF; rw [List.foldl_append]; rfl
/-- what a map makes of a solid, if no cell leaves the grid -/
def imgS (f : Cl → Cl) (s : Sol) : Sol := orL ((cellsS s).map fun c => bitN (f c))
def stays (f : Cl → Cl) (s : Sol) : Bool := (cellsS s).all fun c => inG (f c)
theorem stays_iff {f : Cl → Cl} {s : Sol} : stays f s = true ↔ ∀ c, hasS s c = true → inG (f c) = true := by
 unfold stays
 rw [List.all_eq_true]
 exact ⟨fun h c hc => h c (mem_cellsS.2 hc), fun h c hc => h c (mem_cellsS.1 hc)⟩
theorem imgS_has {f : Cl → Cl} {s : Sol} (h : stays f s = true) {d : Cl} (hd : inG d = true) : hasS (imgS f s) d = true ↔ ∃ c, hasS s c = true ∧ f c = d := by
 unfold hasS imgS
 rw [hd, Bool.true_and, orL_bit _ (bitN_lt hd), decide_eq_true_eq, List.mem_map]
 constructor
 ·rintro ⟨c, hc, e⟩
  exact ⟨c, mem_cellsS.1 hc, bitN_inj (stays_iff.1 h c (mem_cellsS.1 hc)) hd e⟩
 ·rintro ⟨c, hc, rfl⟩
  exact ⟨c, mem_cellsS.2 hc, rfl⟩
theorem mem_img {f : Cl → Cl} {s : Sol} (h : stays f s = true) {d : Cl} : d ∈ cellsS (imgS f s) ↔ ∃ c, c ∈ cellsS s ∧ f c = d := by
 rw [mem_cellsS]
 constructor
 ·intro hd
  have hg : inG d = true := by unfold hasS at hd; rw [Bool.and_eq_true] at hd; exact hd.1
  obtain ⟨c, h1, h2⟩ := (imgS_has h hg).1 hd
  exact ⟨c, mem_cellsS.2 h1, h2⟩
 ·rintro ⟨c, h1, rfl⟩
  exact (imgS_has h (stays_iff.1 h c (mem_cellsS.1 h1))).2 ⟨c, mem_cellsS.1 h1, rfl⟩
theorem imgS_comp {f g : Cl → Cl} {s : Sol} (hf : stays f s = true) (hg : stays g (imgS f s) = true) : stays (fun c => g (f c)) s = true ∧ imgS (fun c => g (f c)) s = imgS g (imgS f s) := by
 have hc : stays (fun c => g (f c)) s = true := by
  rw [stays_iff] at hg ⊢
  intro c hcs
  exact hg (f c) ((imgS_has hf (stays_iff.1 hf c hcs)).2 ⟨c, hcs, rfl⟩)
 refine ⟨hc, sol_has fun d hd => ?_⟩
 rw [Bool.eq_iff_iff, imgS_has hc hd, imgS_has hg hd]
 constructor
 ·rintro ⟨c, h1, rfl⟩
  exact ⟨f c, (imgS_has hf (stays_iff.1 hf c h1)).2 ⟨c, h1, rfl⟩, rfl⟩
 ·rintro ⟨e, h1, rfl⟩
  have he : inG e = true := by unfold hasS at h1; rw [Bool.and_eq_true] at h1; exact h1.1
  obtain ⟨c, h2, rfl⟩ := (imgS_has hf he).1 h1
  exact ⟨c, h2, rfl⟩
theorem imgS_id {f : Cl → Cl} {s : Sol} (h : ∀ c, hasS s c = true → f c = c) : stays f s = true ∧ imgS f s = s := by
 have hs : stays f s = true := stays_iff.2 fun c hc => by
  rw [h c hc]; unfold hasS at hc; rw [Bool.and_eq_true] at hc; exact hc.1
 refine ⟨hs, sol_has fun d hd => ?_⟩
 rw [Bool.eq_iff_iff, imgS_has hs hd]
 constructor
 ·rintro ⟨c, h1, rfl⟩
  rw [h c h1]; exact h1
 ·intro h1
  exact ⟨d, h1, h d h1⟩
theorem imgS_congr {f g : Cl → Cl} {s : Sol} (h : ∀ c, hasS s c = true → f c = g c) : stays f s = stays g s ∧ imgS f s = imgS g s := by
 constructor
 ·unfold stays
  rw [Bool.eq_iff_iff, List.all_eq_true, List.all_eq_true]
  exact ⟨fun H c hc => by rw [← h c (mem_cellsS.1 hc)]; exact H c hc, fun H c hc => by rw [h c (mem_cellsS.1 hc)]; exact H c hc⟩
 ·unfold imgS
  congr 1
  exact List.map_congr_left fun c hc => by rw [h c (mem_cellsS.1 hc)]
end Go.Solid
end
section
namespace Go.Solid
open Go.Draw
set_option maxRecDepth 100000
/-! the turns of the grid -/
def rollC : Nat → Cl → Cl
 | 1, c => (c.1, 7 - c.2.2, c.2.1)
 | 2, c => (c.1, 7 - c.2.1, 7 - c.2.2)
 | 3, c => (c.1, c.2.2, 7 - c.2.1)
 | 4, c => (c.2.2, c.2.1, 7 - c.1)
 | 5, c => (7 - c.2.2, c.2.1, c.1)
 | _, c => c
def spinC : Nat → Cl → Cl
 | 0, c => c
 | n + 1, c => spinC n (7 - c.2.1, c.1, c.2.2)
def turnC (t : Nat) (c : Cl) : Cl := spinC (t % 4) (rollC (t / 4) c)
/-! the same as permutations of the coordinates, some of them mirrored -/
abbrev Ax := Nat × Bool
abbrev SP := Ax × Ax × Ax
def co (c : Cl) : Nat → Int
 | 0 => c.1
 | 1 => c.2.1
 | _ => c.2.2
def apA (a : Ax) (c : Cl) : Int := if a.2 then 7 - co c a.1 else co c a.1
def apS (p : SP) (c : Cl) : Cl := (apA p.1 c, apA p.2.1 c, apA p.2.2 c)
def axS (q : SP) : Nat → Ax
 | 0 => q.1
 | 1 => q.2.1
 | _ => q.2.2
def compA (a : Ax) (q : SP) : Ax := ((axS q a.1).1, a.2 != (axS q a.1).2)
def compS (p q : SP) : SP := (compA p.1 q, compA p.2.1 q, compA p.2.2 q)
theorem co_apS (q : SP) (c : Cl) : ∀ k, co (apS q c) k = apA (axS q k) c
 | 0 => rfl
 | 1 => rfl
 | _ + 2 => rfl
theorem apA_comp (a : Ax) (q : SP) (c : Cl) : apA (compA a q) c = apA a (apS q c) := by
 obtain ⟨k, f⟩ := a
 unfold apA compA
 simp only [co_apS]
 unfold apA
 cases f <;> cases (axS q k).2 <;> simp <;> omega
theorem apS_comp (p q : SP) (c : Cl) : apS (compS p q) c = apS p (apS q c) := by
 unfold apS compS
 simp only [apA_comp]
 rfl
def idS : SP := ((0, false), (1, false), (2, false))
theorem apS_id (c : Cl) : apS idS c = c := rfl
def rollS : Nat → SP
 | 1 => ((0, false), (2, true), (1, false))
 | 2 => ((0, false), (1, true), (2, true))
 | 3 => ((0, false), (2, false), (1, true))
 | 4 => ((2, false), (1, false), (0, true))
 | 5 => ((2, true), (1, false), (0, false))
 | _ => idS
theorem roll_eq (h : Nat) (c : Cl) : rollC h c = apS (rollS h) c := by
 match h with
 | 0 => rfl
 | 1 => rfl
 | 2 => rfl
 | 3 => rfl
 | 4 => rfl
 | 5 => rfl
 | n + 6 => rfl
def spinS : Nat → SP
 | 0 => idS
 | n + 1 => compS (spinS n) ((1, true), (0, false), (2, false))
theorem spin_eq : ∀ (n : Nat) (c : Cl), spinC n c = apS (spinS n) c
 | 0, c => rfl
 | n + 1, c => by
  unfold spinC spinS
  rw [spin_eq n, apS_comp]; rfl
def turnS (t : Nat) : SP := compS (spinS (t % 4)) (rollS (t / 4))
theorem turn_eq (t : Nat) (c : Cl) : turnC t c = apS (turnS t) c := by
 unfold turnC turnS
 rw [apS_comp, roll_eq, spin_eq]
/-! the group -/
def findT (p : SP) : Nat := ((List.range 24).find? fun t => turnS t == p).getD 0
def mulT (t u : Nat) : Nat := findT (compS (turnS u) (turnS t))
def invT (t : Nat) : Nat := ((List.range 24).find? fun u => mulT t u == 0).getD 0
theorem mul_all : ((List.range 24).all fun t => (List.range 24).all fun u => (decide (mulT t u < 24)) && (turnS (mulT t u) == compS (turnS u) (turnS t))) = true := by decide +kernel
theorem mul_lt {t u : Nat} (ht : t < 24) (hu : u < 24) : mulT t u < 24 := by
 have := mul_all
 simp only [List.all_eq_true, List.mem_range, Bool.and_eq_true, decide_eq_true_eq] at this
 exact (this t ht u hu).1
/-- first t, then u -/
theorem turn_mul {t u : Nat} (ht : t < 24) (hu : u < 24) (c : Cl) : turnC u (turnC t c) = turnC (mulT t u) c := by
 have := mul_all
 simp only [List.all_eq_true, List.mem_range, Bool.and_eq_true, beq_iff_eq] at this
 rw [turn_eq, turn_eq, turn_eq, (this t ht u hu).2, apS_comp]
theorem inv_all : ((List.range 24).all fun t => decide (invT t < 24) && (mulT t (invT t) == 0) && (mulT (invT t) t == 0)) = true := by decide +kernel
theorem inv_lt {t : Nat} (ht : t < 24) : invT t < 24 := by
 have := inv_all
 simp only [List.all_eq_true, List.mem_range, Bool.and_eq_true, decide_eq_true_eq] at this
 exact (this t ht).1.1
theorem turn_zero (c : Cl) : turnC 0 c = c := rfl
theorem turn_inv {t : Nat} (ht : t < 24) (c : Cl) : turnC (invT t) (turnC t c) = c := by
 have := inv_all
 simp only [List.all_eq_true, List.mem_range, Bool.and_eq_true, beq_iff_eq] at this
 rw [turn_mul ht (inv_lt ht), (this t ht).1.2]; rfl
theorem inv_turn {t : Nat} (ht : t < 24) (c : Cl) : turnC t (turnC (invT t) c) = c := by
 have := inv_all
 simp only [List.all_eq_true, List.mem_range, Bool.and_eq_true, beq_iff_eq] at this
 rw [turn_mul (inv_lt ht) ht, (this t ht).2]; rfl
/-! a turn keeps the grid -/
theorem in7_flip (n : Int) : in7 (7 - n) = in7 n := by
 rw [Bool.eq_iff_iff, in7_iff, in7_iff]; omega
theorem roll_in (h : Nat) (c : Cl) : inG (rollC h c) = inG c := by
 obtain ⟨x, y, z⟩ := c
 have key : ∀ a b d : Bool, (a && d && b) = (a && b && d) ∧ (d && b && a) = (a && b && d) := by decide
 match h with
 | 0 => rfl
 | 1 => unfold rollC inG; simp only [in7_flip]; exact (key _ _ _).1
 | 2 => unfold rollC inG; simp only [in7_flip]
 | 3 => unfold rollC inG; simp only [in7_flip]; exact (key _ _ _).1
 | 4 => unfold rollC inG; simp only [in7_flip]; exact (key _ _ _).2
 | 5 => unfold rollC inG; simp only [in7_flip]; exact (key _ _ _).2
 | n + 6 => rfl
theorem spin_in : ∀ (n : Nat) (c : Cl), inG (spinC n c) = inG c
 | 0, c => rfl
 | n + 1, c => by
  unfold spinC
  rw [spin_in n]
  unfold inG
  simp only [in7_flip]
  rw [Bool.and_comm (in7 c.2.1) (in7 c.1)]
theorem turn_in (t : Nat) (c : Cl) : inG (turnC t c) = inG c := by unfold turnC; rw [spin_in, roll_in]
/-! moves -/
def addC (c d : Cl) : Cl := (c.1 + d.1, c.2.1 + d.2.1, c.2.2 + d.2.2)
def subC (c d : Cl) : Cl := (c.1 - d.1, c.2.1 - d.2.1, c.2.2 - d.2.2)
def linA (a : Ax) (d : Cl) : Int := if a.2 then - co d a.1 else co d a.1
def linS (p : SP) (d : Cl) : Cl := (linA p.1 d, linA p.2.1 d, linA p.2.2 d)
theorem co_add (c d : Cl) : ∀ k, co (addC c d) k = co c k + co d k
 | 0 => rfl
 | 1 => rfl
 | _ + 2 => rfl
theorem apA_add (a : Ax) (c d : Cl) : apA a (addC c d) = apA a c + linA a d := by
 unfold apA linA
 rw [co_add]
 cases a.2 <;> simp <;> omega
theorem apS_add (p : SP) (c d : Cl) : apS p (addC c d) = addC (apS p c) (linS p d) := by
 unfold apS addC linS
 simp only [apA_add]
 exact Prod.ext (apA_add _ _ _) (Prod.ext (apA_add _ _ _) (apA_add _ _ _))
theorem addC_zero (c : Cl) : addC (0, 0, 0) c = c := by unfold addC; simp
theorem subC_addC (c d : Cl) : subC (addC c d) c = d := by
 unfold subC addC
 refine Prod.ext ?_ (Prod.ext ?_ ?_)
 ·show c.1 + d.1 - c.1 = d.1; omega
 ·show c.2.1 + d.2.1 - c.2.1 = d.2.1; omega
 ·show c.2.2 + d.2.2 - c.2.2 = d.2.2; omega
/-- what a turn makes of a move -/
def movT (t : Nat) (d : Cl) : Cl := linS (turnS t) d
theorem turn_add (t : Nat) (c d : Cl) : turnC t (addC c d) = addC (turnC t c) (movT t d) := by
 rw [turn_eq, turn_eq, apS_add]; rfl
theorem origin_eq (t : Nat) (d : Cl) : subC (turnC t d) (turnC t (0, 0, 0)) = movT t d := by
 have h := turn_add t (0, 0, 0) d
 rw [addC_zero] at h
 rw [h, subC_addC]
/-! a turn is told by three cells, and by one that has three numbers -/
theorem told_all : ((List.range 24).all fun t => (List.range 24).all fun u => ((turnC t (1, 0, 0) == turnC u (1, 0, 0)) && (turnC t (0, 1, 0) == turnC u (0, 1, 0)) && (turnC t (0, 0, 1) == turnC u (0, 0, 1))) == (t == u)) = true := by decide +kernel
theorem told_lin : ((List.range 24).all fun t => (List.range 24).all fun u => ((movT t (1, 0, 0) == movT u (1, 0, 0)) && (movT t (0, 1, 0) == movT u (0, 1, 0)) && (movT t (0, 0, 1) == movT u (0, 0, 1))) == (t == u)) = true := by decide +kernel
theorem told_back : ((List.range 24).all fun t => (List.range 24).all fun u => (turnC u (turnC t (0, 1, 2)) == (0, 1, 2)) == (u == invT t)) = true := by decide +kernel
end Go.Solid
end
section
namespace Go.Solid
open Go.Draw
set_option maxRecDepth 100000
/-! the least box, and solids moved by shifts of words -/
def minC (a b : Cl) : Cl := (min a.1 b.1, min a.2.1 b.2.1, min a.2.2 b.2.2)
def maxC (a b : Cl) : Cl := (max a.1 b.1, max a.2.1 b.2.1, max a.2.2 b.2.2)
theorem co_min (a b : Cl) : ∀ k, co (minC a b) k = min (co a k) (co b k)
 | 0 => rfl
 | 1 => rfl
 | _ + 2 => rfl
theorem co_max (a b : Cl) : ∀ k, co (maxC a b) k = max (co a k) (co b k)
 | 0 => rfl
 | 1 => rfl
 | _ + 2 => rfl
theorem co_ext {a b : Cl} (h0 : co a 0 = co b 0) (h1 : co a 1 = co b 1) (h2 : co a 2 = co b 2) : a = b := Prod.ext h0 (Prod.ext h1 h2)
def loF (a : Cl) (l : List Cl) : Cl := l.foldl minC a
def hiF (a : Cl) (l : List Cl) : Cl := l.foldl maxC a
theorem loF_spec (k : Nat) : ∀ (l : List Cl) (a : Cl), co (loF a l) k ≤ co a k ∧ (∀ c ∈ l, co (loF a l) k ≤ co c k) ∧ (co (loF a l) k = co a k ∨ ∃ c ∈ l, co (loF a l) k = co c k)
 | [], a => ⟨Int.le_refl _, fun c h => (by cases h), .inl rfl⟩
 | d :: l, a => by
  obtain ⟨h1, h2, h3⟩ := loF_spec k l (minC a d)
  have e : loF a (d :: l) = loF (minC a d) l := rfl
  rw [e]
  rw [co_min] at h1 h3
  refine ⟨by omega, fun c hc => ?_, ?_⟩
  ·rcases List.mem_cons.1 hc with rfl | hc
   ·omega
   ·exact h2 c hc
  ·rcases h3 with h3 | ⟨c, hc, h3⟩
   ·by_cases h : co a k ≤ co d k
    ·exact .inl (by omega)
    ·exact .inr ⟨d, List.mem_cons_self, by omega⟩
   ·exact .inr ⟨c, List.mem_cons_of_mem _ hc, h3⟩
theorem hiF_spec (k : Nat) : ∀ (l : List Cl) (a : Cl), co a k ≤ co (hiF a l) k ∧ (∀ c ∈ l, co c k ≤ co (hiF a l) k) ∧ (co (hiF a l) k = co a k ∨ ∃ c ∈ l, co (hiF a l) k = co c k)
 | [], a => ⟨Int.le_refl _, fun c h => (by cases h), .inl rfl⟩
 | d :: l, a => by
  obtain ⟨h1, h2, h3⟩ := hiF_spec k l (maxC a d)
  have e : hiF a (d :: l) = hiF (maxC a d) l := rfl
  rw [e]
  rw [co_max] at h1 h3
  refine ⟨by omega, fun c hc => ?_, ?_⟩
  ·rcases List.mem_cons.1 hc with rfl | hc
   ·omega
   ·exact h2 c hc
  ·rcases h3 with h3 | ⟨c, hc, h3⟩
   ·by_cases h : co d k ≤ co a k
    ·exact .inl (by omega)
    ·exact .inr ⟨d, List.mem_cons_self, by omega⟩
   ·exact .inr ⟨c, List.mem_cons_of_mem _ hc, h3⟩
def loS (s : Sol) : Cl := loF (7, 7, 7) (cellsS s)
def hiS (s : Sol) : Cl := hiF (0, 0, 0) (cellsS s)
theorem co_in {c : Cl} (h : inG c = true) (k : Nat) : 0 ≤ co c k ∧ co c k ≤ 7 := by
 rw [inG_iff] at h
 match k with
 | 0 => exact h.1
 | 1 => exact h.2.1
 | _ + 2 => exact h.2.2
theorem in_co {c : Cl} (h : ∀ k, 0 ≤ co c k ∧ co c k ≤ 7) : inG c = true := inG_iff.2 ⟨h 0, h 1, h 2⟩
theorem co_seven : ∀ k, co (7, 7, 7) k = 7
 | 0 => rfl
 | 1 => rfl
 | _ + 2 => rfl
theorem co_zero : ∀ k, co (0, 0, 0) k = 0
 | 0 => rfl
 | 1 => rfl
 | _ + 2 => rfl
theorem loS_le {s : Sol} {c : Cl} (h : hasS s c = true) (k : Nat) : co (loS s) k ≤ co c k := (loF_spec k _ _).2.1 c (mem_cellsS.2 h)
theorem le_hiS {s : Sol} {c : Cl} (h : hasS s c = true) (k : Nat) : co c k ≤ co (hiS s) k := (hiF_spec k _ _).2.1 c (mem_cellsS.2 h)
theorem has_some {s : Sol} (h : s ≠ 0) : ∃ c, hasS s c = true := by
 cases hc : cellsS s with
 | nil => exact absurd (cellsS_nil.1 hc) h
 | cons c l => exact ⟨c, mem_cellsS.1 (by rw [hc]; exact List.mem_cons_self)⟩
theorem has_in {s : Sol} {c : Cl} (h : hasS s c = true) : inG c = true := by
 unfold hasS at h; rw [Bool.and_eq_true] at h; exact h.1
theorem loS_at {s : Sol} (h : s ≠ 0) (k : Nat) : ∃ c, hasS s c = true ∧ co (loS s) k = co c k := by
 rcases (loF_spec k (cellsS s) (7, 7, 7)).2.2 with h1 | ⟨c, hc, h1⟩
 ·obtain ⟨c, hc⟩ := has_some h
  have h2 := loS_le hc k
  have h3 := co_in (has_in hc) k
  rw [co_seven] at h1
  refine ⟨c, hc, ?_⟩
  show co (loS s) k = _
  have : co (loS s) k = 7 := h1
  omega
 ·exact ⟨c, mem_cellsS.1 hc, h1⟩
theorem hiS_at {s : Sol} (h : s ≠ 0) (k : Nat) : ∃ c, hasS s c = true ∧ co (hiS s) k = co c k := by
 rcases (hiF_spec k (cellsS s) (0, 0, 0)).2.2 with h1 | ⟨c, hc, h1⟩
 ·obtain ⟨c, hc⟩ := has_some h
  have h2 := le_hiS hc k
  have h3 := co_in (has_in hc) k
  rw [co_zero] at h1
  refine ⟨c, hc, ?_⟩
  have : co (hiS s) k = 0 := h1
  omega
 ·exact ⟨c, mem_cellsS.1 hc, h1⟩
theorem loS_in {s : Sol} (h : s ≠ 0) : inG (loS s) = true := in_co fun k => by
 obtain ⟨c, hc, e⟩ := loS_at h k
 rw [e]; exact co_in (has_in hc) k
theorem hiS_in {s : Sol} (h : s ≠ 0) : inG (hiS s) = true := in_co fun k => by
 obtain ⟨c, hc, e⟩ := hiS_at h k
 rw [e]; exact co_in (has_in hc) k
/-- the reference starts at the first cell -/
theorem loF_first {s : Sol} {c : Cl} {l : List Cl} (h : cellsS s = c :: l) : loF c (cellsS s) = loS s := by
 have hs : s ≠ 0 := fun e => by rw [e, cellsS_zero] at h; cases h
 have key : ∀ k, co (loF c (cellsS s)) k = co (loS s) k := fun k => by
  have hc : hasS s c = true := mem_cellsS.1 (by rw [h]; exact List.mem_cons_self)
  obtain ⟨d, hd, e⟩ := loS_at hs k
  obtain ⟨h1, h2, h3⟩ := loF_spec k (cellsS s) c
  have h4 := h2 d (mem_cellsS.2 hd)
  rcases h3 with h3 | ⟨f, hf, h3⟩
  ·have := loS_le hc k; omega
  ·have := loS_le (mem_cellsS.1 hf) k; omega
 exact co_ext (key 0) (key 1) (key 2)
theorem hiF_first {s : Sol} {c : Cl} {l : List Cl} (h : cellsS s = c :: l) : hiF c (cellsS s) = hiS s := by
 have hs : s ≠ 0 := fun e => by rw [e, cellsS_zero] at h; cases h
 have key : ∀ k, co (hiF c (cellsS s)) k = co (hiS s) k := fun k => by
  have hc : hasS s c = true := mem_cellsS.1 (by rw [h]; exact List.mem_cons_self)
  obtain ⟨d, hd, e⟩ := hiS_at hs k
  obtain ⟨h1, h2, h3⟩ := hiF_spec k (cellsS s) c
  have h4 := h2 d (mem_cellsS.2 hd)
  rcases h3 with h3 | ⟨f, hf, h3⟩
  ·have := le_hiS hc k; omega
  ·have := le_hiS (mem_cellsS.1 hf) k; omega
 exact co_ext (key 0) (key 1) (key 2)
/-! moved -/
def movC (d c : Cl) : Cl := addC c d
theorem co_mov (d c : Cl) (k : Nat) : co (movC d c) k = co c k + co d k := co_add c d k
def shiftP (p : U) (k : Int) : U := if 0 ≤ k then p <<< k.toNat else p >>> (-k).toNat
theorem shiftP_bit (p : U) (k : Int) {i : Nat} (hi : i < 64) : (shiftP p k).getLsbD i = true ↔ ∃ n : Nat, n < 64 ∧ (n : Int) + k = i ∧ p.getLsbD n = true := by
 unfold shiftP
 by_cases h : 0 ≤ k
 ·rw [if_pos h, BitVec.getLsbD_shiftLeft]
  simp only [hi, decide_true, Bool.true_and, Bool.and_eq_true, Bool.not_eq_true', decide_eq_false_iff_not]
  constructor
  ·rintro ⟨h1, h2⟩
   exact ⟨i - k.toNat, by omega, by omega, h2⟩
  ·rintro ⟨n, h1, h2, h3⟩
   refine ⟨by omega, ?_⟩
   rw [show i - k.toNat = n by omega]; exact h3
 ·rw [if_neg h, BitVec.getLsbD_ushiftRight]
  constructor
  ·intro h1
   have h2 : (-k).toNat + i < 64 := Nat.lt_of_not_le fun h2 => by rw [BitVec.getLsbD_of_ge _ _ h2] at h1; cases h1
   exact ⟨(-k).toNat + i, h2, by omega, h1⟩
  ·rintro ⟨n, h1, h2, h3⟩
   rw [show (-k).toNat + i = n by omega]; exact h3
/-- the planes from lz to hz, moved -/
def liftS (s : Sol) (lz hz : Int) (d : Cl) : Sol := mkS fun j => if lz ≤ (j : Int) - d.2.2 ∧ (j : Int) - d.2.2 ≤ hz then shiftP (plv s ((j : Int) - d.2.2).toNat) (8 * d.2.1 + d.1) else 0
theorem plv_bit' (s : Sol) (z : Nat) {i : Nat} (hi : i < 64) : (plv s z).getLsbD i = s.getLsbD (64 * z + i) := by
 unfold plv; rw [BitVec.getLsbD_extractLsb']; simp [hi]
theorem mkS_bit (f : Nat → U) {z i : Nat} (hz : z < 8) (hi : i < 64) : (mkS f).getLsbD (64 * z + i) = (f z).getLsbD i := by
 rw [← plv_bit' _ _ hi, plv_mkS _ _ hz]
theorem lift_img {s : Sol} {d : Cl} (h : stays (movC d) s = true) : liftS s (loS s).2.2 (hiS s).2.2 d = imgS (movC d) s := by
 apply sol_has
 intro e he
 rw [Bool.eq_iff_iff, imgS_has h he]
 obtain ⟨x, y, z⟩ := e
 obtain ⟨dx, dy, dz⟩ := d
 have hG := inG_iff.1 he
 simp only at hG
 obtain ⟨j, rfl⟩ : ∃ j : Nat, z = j := ⟨z.toNat, by omega⟩
 obtain ⟨i, hi⟩ : ∃ i : Nat, (i : Int) = 8 * y + x := ⟨(8 * y + x).toNat, by omega⟩
 have hb : bitN (x, y, (j : Int)) = 64 * j + i := by unfold bitN; simp only; omega
 have h1 : hasS (liftS s (loS s).2.2 (hiS s).2.2 (dx, dy, dz)) (x, y, (j : Int)) = (if (loS s).2.2 ≤ (j : Int) - dz ∧ (j : Int) - dz ≤ (hiS s).2.2 then shiftP (plv s ((j : Int) - dz).toNat) (8 * dy + dx) else 0).getLsbD i := by
  unfold hasS
  rw [he, Bool.true_and, hb]
  unfold liftS
  rw [mkS_bit _ (by omega) (by omega)]
 rw [h1]
 have hst := stays_iff.1 h
 constructor
 ·intro h2
  split at h2
  ·rename_i hc
   obtain ⟨n, hn, e1, h3⟩ := (shiftP_bit _ _ (by omega)).1 h2
   have hs0 : s ≠ 0 := fun e => by
    rw [e, plv_zero] at h3; simp at h3
   have hl := inG_iff.1 (loS_in hs0)
   have hh := inG_iff.1 (hiS_in hs0)
   obtain ⟨q, hq⟩ : ∃ q : Nat, (q : Int) = (j : Int) - dz := ⟨((j : Int) - dz).toNat, by omega⟩
   rw [← hq, Int.toNat_natCast, plv_bit' _ _ hn] at h3
   have hc2 : hasS s (cellN (64 * q + n)) = true := by rw [hasS_cellN (by omega)]; exact h3
   have h4 := inG_iff.1 (hst _ hc2)
   refine ⟨_, hc2, ?_⟩
   unfold cellN movC addC at *
   simp only at *
   refine Prod.ext ?_ (Prod.ext ?_ ?_)
   ·show (((64 * q + n) % 8 : Nat) : Int) + dx = x; omega
   ·show (((64 * q + n) / 8 % 8 : Nat) : Int) + dy = y; omega
   ·show (((64 * q + n) / 64 : Nat) : Int) + dz = j; omega
  ·simp at h2
 ·rintro ⟨c, hc, e⟩
  have h5 := loS_le hc 2
  have h6 := le_hiS hc 2
  have h7 := inG_iff.1 (has_in hc)
  obtain ⟨cx, cy, cz⟩ := c
  unfold movC addC at e
  simp only [Prod.mk.injEq] at e h7
  have h5' : (loS s).2.2 ≤ cz := h5
  have h6' : cz ≤ (hiS s).2.2 := h6
  rw [if_pos ⟨by omega, by omega⟩]
  obtain ⟨n, hn⟩ : ∃ n : Nat, (n : Int) = 8 * cy + cx := ⟨(8 * cy + cx).toNat, by omega⟩
  refine (shiftP_bit _ _ (by omega)).2 ⟨n, by omega, by omega, ?_⟩
  rw [plv_bit' _ _ (by omega)]
  have hc2 := hc
  unfold hasS at hc2
  rw [Bool.and_eq_true] at hc2
  have : bitN (cx, cy, cz) = 64 * ((j : Int) - dz).toNat + n := by unfold bitN; simp only; omega
  rw [← this]; exact hc2.2
/-! moved to the corner -/
def negC (c : Cl) : Cl := (-c.1, -c.2.1, -c.2.2)
theorem co_neg (c : Cl) : ∀ k, co (negC c) k = - co c k
 | 0 => rfl
 | 1 => rfl
 | _ + 2 => rfl
def cornS (s : Sol) : Sol := if s = 0 then 0 else imgS (movC (negC (loS s))) s
theorem corn_stays {s : Sol} (h : s ≠ 0) : stays (movC (negC (loS s))) s = true := stays_iff.2 fun c hc => in_co fun k => by
 rw [co_mov, co_neg]
 have h1 := loS_le hc k
 have h2 := co_in (has_in hc) k
 have h3 := co_in (loS_in h) k
 omega
def spunS (s : Sol) (t : Nat) : Sol := imgS (turnC t) s
theorem spun_stays (s : Sol) (t : Nat) : stays (turnC t) s = true := stays_iff.2 fun c hc => by rw [turn_in]; exact has_in hc
def imageS (s : Sol) (t : Nat) : Sol := cornS (spunS s t)
end Go.Solid
end
