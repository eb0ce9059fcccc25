import Derived.Test.YtccnkebkgegohaaGreatDoorHY1
import Derived.Deep.Cut
import Derived.Laws.CopyRow
import Derived.Laws.Tables
import Derived.Laws.AppendOwn
/-
  Given contracts of functions of the program, and laws for them, one behind the other.
-/
set_option linter.unusedVariables false
set_option linter.unusedSimpArgs false
set_option linter.unusedSectionVars false
section
namespace Go.Proofs.YtccnkebkgegohaaGreatDoor
open Go.RowKit Go.Rel
set_option maxRecDepth 100000
theorem hres_any {b : Sol} {l : List Sol} {M : List Ac} {E : Int} {f : Nat} {args : Array Value} {w : World} (h : Calls Tryz.prog f args w (HRes b l M E w)) : Calls Tryz.prog f args w fun e w' => ∃ B L M E, HRes B L M E w e w' := h.mono fun e w' h => ⟨_, _, _, _, h⟩
theorem Merge_any {b : Sol} {l : List Sol} {g h : List Ac} {t u : StB} (R : Runs b l g t) (R2 : Runs b l h u) (hlen : g.length + h.length ≤ 60) {v av v2 av2 : Value} (w : World) (Hv : SlS w v l) (Hav : SlA w av g) (Hv2 : SlS w v2 l) (Hav2 : SlA w av2 h) :
  Calls Tryz.prog 26 #[.agg #[.int .u64 (pl b 0), .int .u64 (pl b 1), .int .u64 (pl b 2), .int .u64 (pl b 3), .int .u64 (pl b 4), .int .u64 (pl b 5), .int .u64 (pl b 6), .int .u64 (pl b 7), v, av], .agg #[.int .u64 (pl b 0), .int .u64 (pl b 1), .int .u64 (pl b 2), .int .u64 (pl b 3), .int .u64 (pl b 4), .int .u64 (pl b 5), .int .u64 (pl b 6), .int .u64 (pl b 7), v2, av2]] w fun e w' => ∃ B L M E, HRes B L M E w e w' := by
 by_cases hf : Free2 l g h
 ·exact hres_any (Merge_j R R2 hf hlen w Hv Hav Hv2 Hav2)
 ·exact hres_any (Merge_c R R2 hf w Hv Hav Hv2 Hav2)
end Go.Proofs.YtccnkebkgegohaaGreatDoor
end
section
namespace Go.Proofs.YtccnkebkgegohaaGreatDoor
open Go.RowKit Go.Rel
set_option maxRecDepth 100000
end Go.Proofs.YtccnkebkgegohaaGreatDoor
end
section
namespace Go.Proofs.YtccnkebkgegohaaGreatDoor
open Go.RowKit Go.Rel
set_option maxRecDepth 100000
end Go.Proofs.YtccnkebkgegohaaGreatDoor
end
section
namespace Go.Proofs.YtccnkebkgegohaaGreatDoor
open Go.RowKit Go.Rel
set_option maxRecDepth 100000
def nxtE (l : List Sol) (s : StB) (a : Ac) : Int := match nextM l (upI s) a with
 | .inl e => e
 | .inr _ => 0
end Go.Proofs.YtccnkebkgegohaaGreatDoor
end
section
namespace Go.Proofs.YtccnkebkgegohaaGreatDoor
open Go.RowKit Go.Rel
set_option maxRecDepth 100000
def I8 (B : Nat) (T : Array Value) (a b : Bool) (y : Value) (W : World) : Prop := a = true → ∃ k, y = .pointer (some ⟨k, 0, none⟩) ∧ B ≤ k ∧ (b = false → Blk W k #[.int .u64 0, .int .u64 0, .int .u64 0, .int .u64 0, .int .u64 0, .int .u64 0, .int .u64 0, .int .u64 0, .int .u8 0] 37) ∧ (b = true → Blk W k T 37)
theorem I8.grow {B : Nat} {T : Array Value} {a b : Bool} {y : Value} {W W' : World} (h : I8 B T a b y W) (hb : Below W.heap.size W W') : I8 B T a b y W' := by
 intro ha
 obtain ⟨k, hy, hk, h0, h1⟩ := h ha
 exact ⟨k, hy, hk, fun e => (h0 e).grow hb, fun e => (h1 e).grow hb⟩
theorem I8.made {B : Nat} {T : Array Value} {W : World} (hB : B ≤ W.heap.size) : I8 B T true false (.pointer (some ⟨W.heap.size, 0, none⟩)) (W.alloc (.cells #[.int .u64 0, .int .u64 0, .int .u64 0, .int .u64 0, .int .u64 0, .int .u64 0, .int .u64 0, .int .u64 0, .int .u8 0] 37)) := fun _ => ⟨_, rfl, hB, fun _ => Blk.new _ _ _, fun e => by cases e⟩
end Go.Proofs.YtccnkebkgegohaaGreatDoor
end
section
namespace Go.Proofs.YtccnkebkgegohaaGreatDoor
open Go.RowKit Go.Rel
set_option maxRecDepth 100000
/-! Run, of the reference: its loop -/
def runV : (Nat × Int) ⊕ Stn → Value
 | .inl x => .tuple #[.agg #[.int .u64 0, .int .u64 0, .int .u64 0, .int .u64 0, .int .u64 0, .int .u64 0, .int .u64 0, .int .u64 0, .int .u8 0], .int .i64 x.1, .int .i64 x.2]
 | .inr s => .tuple #[.agg #[.int .u64 (pl s.1 0), .int .u64 (pl s.1 1), .int .u64 (pl s.1 2), .int .u64 (pl s.1 3), .int .u64 (pl s.1 4), .int .u64 (pl s.1 5), .int .u64 (pl s.1 6), .int .u64 (pl s.1 7), .int .u8 s.2], .int .i64 0, .int .i64 0]
end Go.Proofs.YtccnkebkgegohaaGreatDoor
end
section
namespace Go.Proofs.YtccnkebkgegohaaGreatDoor
open Go.RowKit Go.Rel
set_option maxRecDepth 100000
def runT (r : (Nat × Int) ⊕ Stn) : Array Value := match r with
 | .inl _ => #[.int .u64 0, .int .u64 0, .int .u64 0, .int .u64 0, .int .u64 0, .int .u64 0, .int .u64 0, .int .u64 0, .int .u8 0]
 | .inr s => #[.int .u64 (pl s.1 0), .int .u64 (pl s.1 1), .int .u64 (pl s.1 2), .int .u64 (pl s.1 3), .int .u64 (pl s.1 4), .int .u64 (pl s.1 5), .int .u64 (pl s.1 6), .int .u64 (pl s.1 7), .int .u8 s.2]
end Go.Proofs.YtccnkebkgegohaaGreatDoor
end
section
namespace Go.Proofs.YtccnkebkgegohaaGreatDoor
open Go.RowKit Go.Rel
set_option maxRecDepth 100000
/-- a list of acts appended to a list of acts that is our own -/
theorem app_ac {base : Nat} {v u : Value} {xs ys : List Ac} {W : World} (hown : OwnA W base v xs) (hs : SlN W u ys) (hk : xs.length + ys.length ≤ 1048576) (hbase : base ≤ W.heap.size) :
  ∃ v' w', (Builtin.append_ #[28, 28] 28 #[v, u]).run Tryz.prog W = .ok v' w' ∧ OwnA w' base v' (xs ++ ys) ∧ W.grownBy w' v.ownBlock := by
 obtain ⟨i0, hi, hz0, hz1, hz2⟩ := info_parts info46
 rcases hs.opn with ⟨rfl, rfl⟩ | ⟨p, c, rfl, hc⟩
 ·have hr := run_append_owned_none (P := Tryz.prog) (w := W) base 28 28 46 i0 10 Tryz.underlying28 hi v xs.length _ hown
  exact ⟨v, W, hr, by rw [List.append_nil]; exact hown, ⟨rfl, rfl, rfl, Nat.le_refl _, fun _ _ _ => rfl⟩⟩
 ·have e : ((xs ++ ys).map acL).flatten = (xs.map acL).flatten ++ (ys.map acL).flatten := by simp
  obtain ⟨v', w', hr, ho, hgr, _⟩ := run_append_keep W base 28 28 46 i0 (.agg #[.int .u8 0, .int .i64 0, .int .u64 0, .int .u64 0, .int .u64 0, .int .u64 0, .int .u64 0, .int .u64 0, .int .u64 0, .int .u64 0]) 10 80 Tryz.underlying28 hi hz0 hz1 hz2 rfl (by decide) v xs.length _ hown p ys.length c ((ys.map acL).flatten) (acFlat_len ys) (hc W (Below.refl _ _)) one_ac (by unfold maxLen; omega) (by omega) hbase
  refine ⟨v', w', hr, ?_, hgr⟩
  unfold OwnA
  rw [List.length_append, e]
  exact ho
end Go.Proofs.YtccnkebkgegohaaGreatDoor
end
section
namespace Go.Proofs.YtccnkebkgegohaaGreatDoor
open Go.RowKit Go.Rel
set_option maxRecDepth 100000
/-! behind, of the reference -/
theorem step_append {P : Program} {ops : Array Oper} {R : World → World → Prop} {o : Oper} {a : Act} {φ : Value → World → Prop} {W w' : World} {x y : Operand} {t : TypeId} {v v7 v' : Value}
  (hgd : o.guard = none) (ho : o.op = .call { callee := .builtin .append, args := #[x, y], argTypes := #[t, t] }) (hs : a.eval x = v) (hx : a.eval y = v7)
  (hr : (Builtin.append_ #[t, t] o.type #[v, v7]).run P W = .ok v' w') (h : R W w' ∧ φ v' w') : Rel.step P ops R o a φ W := by
 unfold Rel.step
 have hw : Region.wanted o (yielded ops a.tmps) = true := by unfold Region.wanted; rw [hgd]
 rw [if_pos hw]
 unfold execOp
 simp only [ho, resolve, invoke, builtin, Sem.run_bind, Sem.run_pure, Result.andThen_ok, List.map_toArray, List.map_cons, List.map_nil, hs, hx, hr]
 exact h
def I9 (G : Nat) (c0 : Array Value) (f : Value → Array Value) (xs ys : List Ac) (a b c d e : Bool) (x y z r : Value) (W : World) : Prop := G + 1 ≤ W.heap.size ∧ (a = true → b = false → OwnA W (G + 1) x []) ∧ (b = true → c = false → OwnA W (G + 1) y xs) ∧ (c = true → OwnA W (G + 1) z (xs ++ ys)) ∧ (d = false → Blk W G c0 30) ∧ (d = true → Blk W G (f z) 30) ∧ (e = true → r = .agg (f z))
end Go.Proofs.YtccnkebkgegohaaGreatDoor
end
section
namespace Go.Proofs.YtccnkebkgegohaaGreatDoor
open Go Go.Tra
/-! ### neighbours exchanged; projections -/
def swp (m : List Ac) (i : Nat) : List Ac := (m.set i (m.getD (i + 1) (0, 0, 0))).set (i + 1) (m.getD i (0, 0, 0))
/-- of a list only two acts, as the law keeps them -/
def prj (a b : Ac) (m : List Ac) : List Ac := m.filter fun x => !((!(x == a)) && (!(x == b)))
def freeOrSame (l : List Sol) (g h : List Ac) (a b : Ac) : Bool := !meetsB (acCells l a) (acCells l b) || (prj a b g == prj a b h)
end Go.Proofs.YtccnkebkgegohaaGreatDoor
end
section
-- mk: Trh
namespace Go.Proofs.YtccnkebkgegohaaGreatDoor
open Go Go.Tra
def atN (m : List Ac) (i : Nat) : Ac := m.getD i (0, 0, 0)
/-- the act with an index can be the first one -/
def freeL (l : List Sol) (m : List Ac) (i : Nat) : Bool := (m.take i).all fun z => !meetsB (acCells l z) (acCells l (atN m i))
end Go.Proofs.YtccnkebkgegohaaGreatDoor
end
section
namespace Go.Proofs.YtccnkebkgegohaaGreatDoor
open Go Go.Tra
/-! ### the reference's way to the least list, and to turns -/
/-- the least one so far of those that can be first -/
def bestL (l : List Sol) (m : List Ac) : Nat → Int
 | 0 => -1
 | k + 1 => if freeL l m k && (decide (bestL l m k < 0) || decide (cmpA (atN m k) (atN m (bestL l m k).toNat) < 0)) then (k : Int) else bestL l m k
def dropL (m : List Ac) (i : Nat) : List Ac := m.take i ++ m.drop (i + 1)
def normR (l : List Sol) : Nat → List Ac → List Ac
 | 0, _ => []
 | n + 1, m => atN m (bestL l m m.length).toNat :: normR l n (dropL m (bestL l m m.length).toNat)
section
variable {l : List Sol} {m : List Ac}
structure BestIs (l : List Sol) (m : List Ac) (k i : Nat) (x : Ac) (xs : List Ac) : Prop where
 lt : i < k
 fr : ∀ z ∈ m.take i, depA l z (atN m i) = false
 frs : frs (depA l) [] (m.take k) = x :: xs
 min : atN m i = minV cmpA x xs
end
/-! turns -/
def oppR (x y : Ac) : Bool := !(y.1 == 1) && !(y.1 == x.1) && (y.2.1 == x.2.1)
def scanR (l : List Sol) (x : Ac) : List Ac → Nat → Option Nat
 | [], _ => none
 | y :: ys, k => if meetsB (acCells l x) (acCells l y) then (if oppR x y then some k else none) else scanR l x ys (k + 1)
def turnRf (l : List Sol) : List Ac → Nat → Option (Nat × Nat)
 | [], _ => none
 | x :: ys, i => if x.1 = 1 then turnRf l ys (i + 1) else match scanR l x ys (i + 1) with
  | some k => some (i, k)
  | none => turnRf l ys (i + 1)
def reduceR (l : List Sol) : Nat → List Ac → List Ac
 | 0, m => m
 | n + 1, m => match turnRf l m 0 with
  | none => m
  | some (i, k) => reduceR l n (dropL (dropL m k) i)
end Go.Proofs.YtccnkebkgegohaaGreatDoor
end
section
namespace Go.Proofs.YtccnkebkgegohaaGreatDoor
open Go Go.Tra
/-! ### in how many ways the acts of a set can stand first: the numbers stay small -/
def pc (t : Nat) : Nat → Nat
 | 0 => 0
 | j + 1 => pc t j + (if t.testBit j then 1 else 0)
theorem bit_or (s j i : Nat) : (s ||| 2 ^ j).testBit i = (s.testBit i || decide (i = j)) := by
 rw [Nat.testBit_or, Nat.testBit_two_pow]
 congr 1
 rw [Bool.eq_iff_iff]; simp; exact eq_comm
theorem pc_or {s j : Nat} (hj : s.testBit j = false) : ∀ n, pc (s ||| 2 ^ j) n = pc s n + (if j < n then 1 else 0)
 | 0 => by simp [pc]
 | n + 1 => by
  unfold pc
  rw [pc_or hj n, bit_or]
  by_cases h : n = j
  ·subst h; simp [hj]
  ·by_cases h2 : j < n
   ·rw [if_pos h2, if_pos (by omega : j < n + 1)]; simp [h]; omega
   ·rw [if_neg h2, if_neg (by omega : ¬ j < n + 1)]; simp [h]
/-- how many of the sets with one act less have been seen -/
def seen (s j t : Nat) : Nat → Nat
 | 0 => 0
 | i + 1 => seen s j t i + (if t.testBit i && (decide (t - 2 ^ i < s) || (decide (t - 2 ^ i = s) && decide (i < j))) then 1 else 0)
theorem seen_le (s j t : Nat) : ∀ n, seen s j t n ≤ n
 | 0 => Nat.le_refl _
 | n + 1 => by unfold seen; have := seen_le s j t n; split <;> omega
theorem seen_next (s t : Nat) : ∀ n m, n ≤ m → seen (s + 1) 0 t n = seen s m t n
 | 0, _, _ => rfl
 | n + 1, m, h => by
  unfold seen
  rw [seen_next s t n m (by omega)]
  congr 2
  rw [eq_iff_iff]
  simp only [Bool.and_eq_true, Bool.or_eq_true, decide_eq_true_eq]
  constructor
  ·rintro ⟨h1, h2⟩; exact ⟨h1, by omega⟩
  ·rintro ⟨h1, h2⟩; exact ⟨h1, by omega⟩
theorem seen_mono (s j t : Nat) : ∀ n, seen s j t n ≤ seen s (j + 1) t n
 | 0 => Nat.le_refl _
 | n + 1 => by
  unfold seen
  have ih := seen_mono s j t n
  by_cases h : (t.testBit n && (decide (t - 2 ^ n < s) || (decide (t - 2 ^ n = s) && decide (n < j)))) = true
  ·have h' : (t.testBit n && (decide (t - 2 ^ n < s) || (decide (t - 2 ^ n = s) && decide (n < j + 1)))) = true := by
    simp only [Bool.and_eq_true, Bool.or_eq_true, decide_eq_true_eq] at h ⊢
    exact ⟨h.1, by omega⟩
   rw [if_pos h, if_pos h']; omega
  ·rw [if_neg h]; split <;> omega
theorem or_sub {s j : Nat} (hj : s.testBit j = false) : s ||| 2 ^ j = s + 2 ^ j := by
 have h2 : s / 2 ^ j % 2 = 0 := by
  rw [Nat.testBit_eq_decide_div_mod_eq] at hj
  have := of_decide_eq_false hj
  omega
 have hr : s % 2 ^ (j + 1) < 2 ^ j := by
  rw [Nat.pow_succ, Nat.mod_mul, h2, Nat.mul_zero, Nat.add_zero]
  exact Nat.mod_lt _ (Nat.two_pow_pos j)
 have hs : s = 2 ^ (j + 1) * (s / 2 ^ (j + 1)) + s % 2 ^ (j + 1) := (Nat.div_add_mod _ _).symm
 generalize s / 2 ^ (j + 1) = q at *
 generalize s % 2 ^ (j + 1) = r at *
 have h3 : 2 ^ j + r < 2 ^ (j + 1) := by rw [Nat.pow_succ]; omega
 have h4 := Nat.two_pow_add_eq_or_of_lt hr 1
 rw [Nat.mul_one] at h4
 have h5 := Nat.two_pow_add_eq_or_of_lt h3 q
 have h6 := Nat.two_pow_add_eq_or_of_lt (show r < 2 ^ (j + 1) by omega) q
 rw [hs]
 rw [h6, Nat.or_assoc, Nat.or_comm r, ← h4, ← h5, ← h6]
 omega
theorem seen_step {s j : Nat} (hj : s.testBit j = false) : ∀ n, j < n → seen s j (s ||| 2 ^ j) n + 1 ≤ seen s (j + 1) (s ||| 2 ^ j) n
 | 0, h => by omega
 | n + 1, h => by
  by_cases e : n = j
  ·subst e
   unfold seen
   have := seen_mono s n (s ||| 2 ^ n) n
   have hs : s ||| 2 ^ n - 2 ^ n = s ||| 2 ^ n - 2 ^ n := rfl
   have hsub : (s ||| 2 ^ n) - 2 ^ n = s := by rw [or_sub hj]; omega
   rw [hsub, bit_or]
   simp
   omega
  ·have ih := seen_step hj n (by omega)
   unfold seen
   by_cases h2 : ((s ||| 2 ^ j).testBit n && (decide ((s ||| 2 ^ j) - 2 ^ n < s) || (decide ((s ||| 2 ^ j) - 2 ^ n = s) && decide (n < j)))) = true
   ·have h' : ((s ||| 2 ^ j).testBit n && (decide ((s ||| 2 ^ j) - 2 ^ n < s) || (decide ((s ||| 2 ^ j) - 2 ^ n = s) && decide (n < j + 1)))) = true := by
     simp only [Bool.and_eq_true, Bool.or_eq_true, decide_eq_true_eq] at h2 ⊢
     exact ⟨h2.1, by omega⟩
    rw [if_pos h2, if_pos h']; omega
   ·rw [if_neg h2]; split <;> omega
theorem pow_one14 (k : Nat) : (1 : Int) ≤ 14 ^ k := by
 have e : (14 : Int) ^ k = ((14 ^ k : Nat) : Int) := by rw [Int.natCast_pow]; rfl
 have := Nat.pow_pos (n := k) (by decide : 0 < 14)
 rw [e]; omega
/-- what is known of the numbers when set s is at act j -/
structure Small (n s j : Nat) (f : Nat → Int) : Prop where
 zero : f 0 = 1
 nn : ∀ t, 0 ≤ f t
 le : ∀ t, t ≠ 0 → f t * 14 ≤ (seen s j t n : Int) * 14 ^ pc t n
theorem Small.le1 {n s j : Nat} {f : Nat → Int} (h : Small n s j f) (hn : n ≤ 14) (t : Nat) : f t ≤ 14 ^ pc t n := by
 by_cases e : t = 0
 ·subst e; rw [h.zero]
  exact pow_one14 _
 ·have h1 := h.le t e
  have h2 : (seen s j t n : Int) ≤ 14 := by have := seen_le s j t n; omega
  have h3 : (0 : Int) ≤ 14 ^ pc t n := Int.pow_nonneg (by decide)
  have h4 : (seen s j t n : Int) * 14 ^ pc t n ≤ 14 * 14 ^ pc t n := Int.mul_le_mul_of_nonneg_right h2 h3
  omega
theorem Small.skip {n s j : Nat} {f : Nat → Int} (h : Small n s j f) : Small n s (j + 1) f :=
 ⟨h.zero, h.nn, fun t ht => Int.le_trans (h.le t ht) (Int.mul_le_mul_of_nonneg_right (by have := seen_mono s j t n; omega) (Int.pow_nonneg (by decide)))⟩
theorem Small.next {n s : Nat} {f : Nat → Int} (h : Small n s n f) : Small n (s + 1) 0 f :=
 ⟨h.zero, h.nn, fun t ht => by rw [seen_next s t n n (Nat.le_refl _)]; exact h.le t ht⟩
theorem Small.step {n s j : Nat} {f : Nat → Int} (h : Small n s j f) (hn : n ≤ 14) (hj : j < n) (hb : s.testBit j = false) : Small n s (j + 1) (fun t => if t = s ||| 2 ^ j then f (s ||| 2 ^ j) + f s else f t) := by
 have hne : s ||| 2 ^ j ≠ 0 := by
  intro e
  have := bit_or s j j
  rw [e] at this
  simp at this
 refine ⟨by rw [if_neg (Ne.symm hne)]; exact h.zero, fun t => ?_, fun t ht => ?_⟩
 ·split
  ·exact Int.add_nonneg (h.nn _) (h.nn _)
  ·exact h.nn t
 ·by_cases e : t = s ||| 2 ^ j
  ·subst e
   rw [if_pos rfl]
   have h1 := h.le _ ht
   have h2 := h.le1 hn s
   have h3 := seen_step hb n hj
   have h4 := pc_or hb n
   rw [if_pos hj] at h4
   rw [h4, Int.pow_succ] at h1 ⊢
   have h3' : (seen s j (s ||| 2 ^ j) n : Int) + 1 ≤ seen s (j + 1) (s ||| 2 ^ j) n := by omega
   have h5 : (0 : Int) ≤ 14 ^ pc s n * 14 := Int.mul_nonneg (Int.pow_nonneg (by decide)) (by decide)
   have h6 := Int.mul_le_mul_of_nonneg_right h3' h5
   rw [Int.add_mul, Int.one_mul] at h6
   rw [Int.add_mul]
   refine Int.le_trans ?_ h6
   exact Int.add_le_add h1 (Int.mul_le_mul_of_nonneg_right h2 (by decide))
  ·rw [if_neg e]; exact h.skip.le t ht
end Go.Proofs.YtccnkebkgegohaaGreatDoor
end
section
namespace Go.Proofs.YtccnkebkgegohaaGreatDoor
open Go Go.Tra
/-! ### the reference's rests and common beginnings -/
section
variable {l : List Sol} {m g h : List Ac}
end
def firstR (l : List Sol) (x : Ac) (m : List Ac) : Option Nat := (List.range m.length).find? fun k => (atN m k == x) && freeL l m k
def restR (l : List Sol) : List Ac → List Ac → Option (List Ac)
 | [], m => some m
 | x :: g, m => match firstR l x m with
  | none => none
  | some k => restR l g (dropL m k)
section
variable {l : List Sol}
/-- the acts with which two lists can begin, by their indices -/
def sharedR (l : List Sol) (a b : List Ac) : Option (Nat × Nat) := (List.range a.length).findSome? fun i => ((List.range b.length).find? fun k => (atN a i == atN b k) && (freeL l a i && freeL l b k)).map fun k => (i, k)
def commonR (l : List Sol) : Nat → List Ac → List Ac → List Ac → List Ac × List Ac × List Ac
 | 0, c, a, b => (c, a, b)
 | n + 1, c, a, b => match sharedR l a b with
  | none => (c, a, b)
  | some (i, k) => commonR l n (c ++ [atN a i]) (dropL a i) (dropL b k)
end
end Go.Proofs.YtccnkebkgegohaaGreatDoor
end
section
namespace Go.Proofs.YtccnkebkgegohaaGreatDoor
open Go Go.Tra
/-! ### scans of the reference, by what was seen so far -/
section
variable {l : List Sol} {a b g h : List Ac}
def shP (l : List Sol) (a b : List Ac) (i k : Nat) : Bool := (atN a i == atN b k) && (freeL l a i && freeL l b k)
end
end Go.Proofs.YtccnkebkgegohaaGreatDoor
end
section
namespace Go.Tra
/-! ### steps: again and again all letters that can be first -/
section
variable {α : Type} [DecidableEq α] {D : α → α → Bool}
/-- the letters that can not be first, in their order -/
def lft (D : α → α → Bool) : List α → List α → List α
 | _, [] => []
 | pre, x :: l => if pre.all (fun z => !D z x) then lft D (pre ++ [x]) l else x :: lft D (pre ++ [x]) l
theorem lft_snoc : ∀ (pre l : List α) (y : α), lft D pre (l ++ [y]) = lft D pre l ++ (if (pre ++ l).all (fun z => !D z y) then [] else [y])
 | pre, [], y => by simp [lft]
 | pre, x :: l, y => by
  have ih := lft_snoc (pre ++ [x]) l y
  simp only [List.append_assoc, List.cons_append, List.nil_append] at ih
  simp only [List.cons_append, lft, ih]
  split <;> simp
theorem frs_lft (hr : ∀ a, D a a = true) (hs : ∀ a b, D a b = D b a) : ∀ (pre m : List α), Eqv D (frs D pre m ++ lft D pre m) m
 | pre, [] => Eqv.refl _
 | pre, x :: l => by
  have ih := frs_lft hr hs (pre ++ [x]) l
  unfold frs lft
  split
  ·exact Eqv.cons x ih
  ·have hx : ∀ y ∈ frs D (pre ++ [x]) l, D y x = false := fun y hy => by
    rw [hs]; exact ((mem_frs hr).1 hy).1 x (by simp)
   have e := Eqv.app (Eqv.pass hs hx) (Eqv.refl (lft D (pre ++ [x]) l))
   simp only [List.append_assoc, List.cons_append, List.nil_append] at e
   exact e.trans (Eqv.cons x ih)
theorem frs_pair (hr : ∀ a, D a a = true) : ∀ (pre m : List α), (frs D pre m).Pairwise fun x y => D x y = false
 | pre, [] => List.Pairwise.nil
 | pre, x :: l => by
  have ih := frs_pair hr (pre ++ [x]) l
  unfold frs
  split
  ·exact List.pairwise_cons.2 ⟨fun y hy => ((mem_frs hr).1 hy).1 x (by simp), ih⟩
  ·exact ih
theorem frs_ne {x : α} {l : List α} : frs D [] (x :: l) ≠ [] := by rw [frs_head]; simp
theorem lft_len (hr : ∀ a, D a a = true) (hs : ∀ a b, D a b = D b a) (x : α) (l : List α) : (lft D [] (x :: l)).length ≤ l.length := by
 have h := (frs_lft hr hs [] (x :: l)).len hr
 rw [List.length_append] at h
 have : 0 < (frs D [] (x :: l)).length := List.length_pos_iff.2 frs_ne
 simp only [List.length_cons] at h
 omega
def stepsL (D : α → α → Bool) (srt : List α → List α) : Nat → List α → List (List α)
 | 0, _ => []
 | _ + 1, [] => []
 | n + 1, x :: l => srt (frs D [] (x :: l)) :: stepsL D srt n (lft D [] (x :: l))
/-- a step's acts hang not together, and each of a later step hangs with one of the step ahead -/
def StepsOk (D : α → α → Bool) : List (List α) → Prop
 | [] => True
 | [s] => s.Pairwise fun x y => D x y = false
 | s :: t :: r => (s.Pairwise fun x y => D x y = false) ∧ (∀ x ∈ t, ∃ y ∈ s, D y x = true) ∧ StepsOk D (t :: r)
/-! ### what is sorted -/
theorem frs_all : ∀ (pre s : List α), (s.Pairwise fun x y => D x y = false) → (∀ z ∈ pre, ∀ y ∈ s, D z y = false) → frs D pre s = s
 | pre, [], _, _ => rfl
 | pre, x :: l, h, hp => by
  rw [List.pairwise_cons] at h
  unfold frs
  rw [if_pos (by simpa using fun z hz => hp z hz x (List.mem_cons_self ..)), frs_all _ l h.2]
  intro z hz y hy
  rcases List.mem_append.1 hz with hz | hz
  ·exact hp z hz y (List.mem_cons_of_mem _ hy)
  ·rw [List.mem_singleton.1 hz]; exact h.1 y hy
theorem minV_is {f : α → α → Int} (hc : Cmp f) {y m : α} {xs : List α} (hy : y ∈ m :: xs) (h : ∀ z ∈ m :: xs, z = y ∨ f y z < 0) : minV f m xs = y := by
 have h1 := minV_le hc m xs y hy
 have h2 := h _ (minV_mem f m xs)
 rcases h2 with h2 | h2
 ·exact h2
 ·rcases h1 with h1 | h1
  ·exact h1.symm
  ·exact absurd h2 (hc.asym h1)
/-- a sorted list of letters that hang not together is their least list -/
theorem sorted_norm (hs : ∀ a b, D a b = D b a) {f : α → α → Int} (hc : Cmp f) : ∀ {d s : List α}, d.Perm s → (d.Pairwise fun x y => ¬ f y x < 0) → (s.Pairwise fun x y => D x y = false) → norm D f s.length s = d
 | [], s, hp, _, _ => by
  have : s = [] := hp.symm.eq_nil
  subst this; rfl
 | y :: d, s, hp, hd, hi => by
  have hl : s.length = d.length + 1 := by rw [← hp.length_eq]; rfl
  rw [hl]
  unfold norm
  have e := frs_all (D := D) [] s hi (by simp)
  cases hsx : s with
  | nil => rw [hsx] at hl; simp at hl
  | cons x xs =>
   rw [hsx] at e hp hi
   rw [e]
   rw [List.pairwise_cons] at hd
   have hm : minV f x xs = y := minV_is hc (hp.mem_iff.1 (List.mem_cons_self ..)) fun z hz => by
    rcases List.mem_cons.1 (hp.mem_iff.2 hz) with h | h
    ·exact .inl h
    ·by_cases e : z = y
     ·exact .inl e
     ·exact .inr ((hc.tot e).resolve_left (hd.1 z h))
   show minV f x xs :: norm D f d.length ((x :: xs).erase (minV f x xs)) = y :: d
   rw [hm]
   have hp2 : d.Perm ((x :: xs).erase y) := by
    have := hp.erase y
    rwa [List.erase_cons_head] at this
   have ih := sorted_norm hs hc hp2 hd.2 (hi.sublist List.erase_sublist)
   rw [← hp2.length_eq] at ih
   rw [ih]
end
section
variable {α : Type} [DecidableEq α] {D : α → α → Bool} {a : Int → α} {dep : Int → Int → Bool} {left : List Int}
open Go.Proofs.YtccnkebkgegohaaGreatDoor
theorem lft_rows (h : RowOf D a dep left) : ∀ k, k ≤ left.length → ((left.take k).filter fun y => !((freeUpto dep left k).contains y)).map a = lft D [] ((left.take k).map a)
 | 0, _ => by simp [lft]
 | k + 1, hk => by
  have ih := lft_rows h k (by omega)
  have hx : left[k]? = some left[k] := by simp [show k < left.length by omega]
  have e0 : left.take (k + 1) = left.take k ++ [left[k]] := by rw [List.take_add_one, hx]; rfl
  have e : (left.take (k + 1)).map a = (left.take k).map a ++ [a left[k]] := by rw [e0, List.map_append]; rfl
  have hnd : left[k] ∉ left.take k := fun hm => by
   have := h.nodup
   rw [← List.take_append_drop (k + 1) left, e0, List.append_assoc, List.nodup_append] at this
   exact this.2.2 _ hm _ (List.mem_append_left _ (List.mem_singleton.2 rfl)) rfl
  have hsub : ∀ y ∈ freeUpto dep left k, y ∈ left.take k := by
   intro y hy
   have e2 : freeUpto dep left k = freeUpto dep (left.take k) k := by
    have : ∀ j, j ≤ k → freeUpto dep left j = freeUpto dep (left.take k) j := by
     intro j
     induction j with
     | zero => intro _; rfl
     | succ j ihj =>
      intro hj
      have hg : left.getD j 0 = (left.take k).getD j 0 := by
       rw [List.getD_eq_getElem?_getD, List.getD_eq_getElem?_getD, List.getElem?_take_of_lt (by omega)]
      rw [freeUpto, freeUpto, ihj (by omega), freeAt, freeAt, hg, List.take_take, Nat.min_eq_left (by omega : j ≤ k)]
    exact this k (Nat.le_refl _)
   rw [e2] at hy
   exact freeUpto_mem' k (by rw [List.length_take]; omega) y hy
  rw [e, lft_snoc, ← ih, e0, List.filter_append, List.map_append]
  have eg : left.getD k 0 = left[k] := by simp [show k < left.length by omega]
  have eall : ((left.take k).any fun j => dep j left[k]) = !(([] ++ (left.take k).map a).all fun z => !D z (a left[k])) := by
   rw [List.nil_append, List.all_map, List.any_eq_not_all_not]
   congr 1
   rw [Bool.eq_iff_iff, List.all_eq_true, List.all_eq_true]
   constructor
   ·intro hh x hx'; have := hh x hx'; rw [h.same x (List.mem_of_mem_take hx') _ (List.getElem_mem _)] at this; simpa using this
   ·intro hh x hx'; have := hh x hx'; rw [h.same x (List.mem_of_mem_take hx') _ (List.getElem_mem _)]; simpa using this
  have efr : freeUpto dep left (k + 1) = if (([] ++ (left.take k).map a).all fun z => !D z (a left[k])) then freeUpto dep left k ++ [left[k]] else freeUpto dep left k := by
   rw [freeUpto, freeAt, eg, eall, Bool.not_not]
  have h1 : (left.take k).filter (fun y => !((freeUpto dep left (k + 1)).contains y)) = (left.take k).filter fun y => !((freeUpto dep left k).contains y) := by
   refine List.filter_congr fun y hy => ?_
   have hyk : y ≠ left[k] := fun e => hnd (by rw [← e]; exact hy)
   rw [efr]
   split
   ·simp [hyk]
   ·rfl
  rw [h1]
  congr 1
  rw [efr]
  split
  ·simp
  ·have : left[k] ∉ freeUpto dep left k := fun hm => hnd (hsub _ hm)
   simp [this]
theorem lft_row (h : RowOf D a dep left) : (left.filter fun y => !((freeUpto dep left left.length).contains y)).map a = lft D [] (left.map a) := by
 have := lft_rows h left.length (Nat.le_refl _)
 rwa [List.take_length] at this
end
end Go.Tra
end
section
namespace Go.Proofs.YtccnkebkgegohaaGreatDoor
open Go Go.Tra
/-! ### steps of acts -/
section
variable {l : List Sol} {m : List Ac}
/-- a history's steps -/
def stpL (l : List Sol) (m : List Ac) : List (List Ac) := stepsL (depA l) (nrm l) m.length m
theorem stepsL_fuel {α : Type} [DecidableEq α] {D : α → α → Bool} (hr : ∀ a, D a a = true) (hs : ∀ a b, D a b = D b a) {srt : List α → List α} : ∀ (n : Nat) {m : List α}, m.length ≤ n → stepsL D srt n m = stepsL D srt m.length m
 | 0, m, h => by
  have : m = [] := List.eq_nil_of_length_eq_zero (by omega)
  subst this; rfl
 | n + 1, [], _ => rfl
 | n + 1, x :: k, h => by
  have h1 := lft_len hr hs x k
  simp only [List.length_cons] at h ⊢
  rw [stepsL, stepsL, stepsL_fuel hr hs n (by omega), stepsL_fuel hr hs k.length h1]
theorem stpL_cons (h : m ≠ []) : stpL l m = nrm l (frs (depA l) [] m) :: stpL l (lft (depA l) [] m) := by
 cases m with
 | nil => exact absurd rfl h
 | cons x k =>
  unfold stpL
  rw [List.length_cons, stepsL, stepsL_fuel (depA_refl l) (depA_symm l) k.length (lft_len (depA_refl l) (depA_symm l) x k)]
theorem stpL_nil : stpL l [] = [] := rfl
theorem nrm_sorted {d s : List Ac} (hp : d.Perm s) (hd : d.Pairwise fun x y => ¬ cmpA y x < 0) (hi : s.Pairwise fun x y => depA l x y = false) : nrm l s = d := sorted_norm (depA_symm l) cmpA_ok hp hd hi
/-- one step of the program, on its rows -/
theorem step_row {acts : List Ac} {left : List Int} (h : RowOf (depA l) (atA acts) (depI (cellsOf l acts)) left) : (freeUpto (depI (cellsOf l acts)) left left.length).map (atA acts) = frs (depA l) [] (left.map (atA acts)) ∧ (left.filter fun y => !((freeUpto (depI (cellsOf l acts)) left left.length).contains y)).map (atA acts) = lft (depA l) [] (left.map (atA acts)) ∧ RowOf (depA l) (atA acts) (depI (cellsOf l acts)) (left.filter fun y => !((freeUpto (depI (cellsOf l acts)) left left.length).contains y)) :=
 ⟨frs_row h, lft_row h, h.filter _⟩
end
end Go.Proofs.YtccnkebkgegohaaGreatDoor
end
section
namespace Go.Proofs.YtccnkebkgegohaaGreatDoor
open Go
/-! a struct stored into a list in place -/
def spl (cur : Array Value) (o : Nat) (vs : List Value) : Array Value := (cur.toList.take o ++ vs ++ cur.toList.drop (o + vs.length)).toArray
theorem spl_size {cur : Array Value} {o : Nat} {vs : List Value} (h : o + vs.length ≤ cur.size) : (spl cur o vs).size = cur.size := by
 unfold spl; simp; omega
theorem run_storeVar_at {P : Program} (w : World) (g of : Nat) (t ty : TypeId) (cur cells : Array Value) (hg : w.heap[g]? = some (.cells cur t (0, 0))) (hi : (P.info? ty).map (·.size) = some cells.size)
  (hfit : of + cells.size ≤ cur.size) (h1 : cells.all (·.oneCell') = true) : (storeVar ty ⟨g, of, none⟩ (.agg cells)).run P w = .ok () (w.setRow g (spl cur of cells.toList)) := by
 have := run_storeCells_at (P := P) g of t cells.toList 0 cur w hg (by simpa using hfit) (fun v hv => (Array.all_eq_true_iff_forall_mem.1 h1) v (by simpa using hv))
 cases hq : P.info? ty with
 | none => simp [hq] at hi
 | some i =>
  have hs : cells.size = i.size := by simp [hq] at hi; omega
  simp only [Nat.add_zero] at this
  simp [storeVar, sizeOf, typeInfo, hq, Value.cells, hs, this, spl]
theorem wpList_store_at {P : Program} {ops : Array Oper} {rest : List Oper} {o : Oper} {a : Act} {w : World} {Q : Exit → Act → World → Prop} (hgd : o.guard = none) (ty : TypeId) (x y : Operand) (ho : o.op = .store ty x y)
  (g of : Nat) (cells : Array Value) (hx : a.eval x = .pointer (some ⟨g, of, none⟩)) (hy : a.eval y = .agg cells)
  (t : TypeId) (cur : Array Value) (hg : w.heap[g]? = some (.cells cur t (0, 0))) (hi : (P.info? ty).map (·.size) = some cells.size)
  (hfit : of + cells.size ≤ cur.size) (h1 : cells.all (·.oneCell') = true)
  (h : wpList P ops Q rest (a.put o.dst undef) (w.setRow g (spl cur of cells.toList))) : wpList P ops Q (o :: rest) a w :=
 wpList_plain hgd fun _ hK => by
  unfold Oper.wp execOp
  simp only [ho, hx, hy, Instr.storeAt, Instr.sureAddr, Sem.run_bind, Sem.run_pure, Result.andThen_ok, run_storeVar_at w g of t ty cur cells hg hi hfit h1]
  exact hK _ _ h
/-- rows of k cells, one of them set -/
theorem flat_set {k : Nat} {α : Type} (row : α → List Value) (hk : ∀ a, (row a).length = k) (x : α) : ∀ (m : List α) (i : Nat), i < m.length → ((m.set i x).map row).flatten = (m.map row).flatten.take (i * k) ++ row x ++ (m.map row).flatten.drop (i * k + k)
 | y :: m, 0, _ => by
  have h : (row y).length = k := hk y
  simp only [List.set_cons_zero, List.map_cons, List.flatten_cons, Nat.zero_mul, List.take_zero, List.nil_append, Nat.zero_add]
  rw [← h, List.drop_left]
 | y :: m, i + 1, h => by
  have hy : (row y).length = k := hk y
  have ih := flat_set row hk x m i (by simpa using h)
  simp only [List.set_cons_succ, List.map_cons, List.flatten_cons, ih]
  have e1 : (i + 1) * k = (row y).length + i * k := by rw [hy, Nat.add_mul, Nat.one_mul, Nat.add_comm]
  rw [e1, List.take_length_add_append, Nat.add_assoc, List.drop_length_add_append]
  simp
theorem flat_len10 {k : Nat} {α : Type} (row : α → List Value) (hk : ∀ a, (row a).length = k) : ∀ m : List α, ((m.map row).flatten).length = m.length * k
 | [] => by simp
 | y :: m => by simp [flat_len10 row hk m, hk y, Nat.add_mul]; omega
/-- a block whose first cells are the rows of a list, one row stored -/
theorem spl_take {k : Nat} {α : Type} (row : α → List Value) (hk : ∀ a, (row a).length = k) {m : List α} {cur : Array Value} {i : Nat} (hi : i < m.length) (hc : m.length * k ≤ cur.size) (ht : cur.toList.take (m.length * k) = (m.map row).flatten) (x : α) :
  (spl cur (i * k) (row x)).toList.take (m.length * k) = ((m.set i x).map row).flatten := by
 rw [flat_set row hk x m i hi, ← ht]
 have hik : i * k + k ≤ m.length * k := by
  have := Nat.mul_le_mul_right k (show i + 1 ≤ m.length from hi)
  rwa [Nat.add_mul, Nat.one_mul] at this
 unfold spl
 simp only [hk]
 rw [List.take_take, Nat.min_eq_left (by omega), List.drop_take]
 have hP : (cur.toList.take (i * k) ++ row x).length = i * k + k := by
  rw [List.length_append, List.length_take, Array.length_toList, hk]; omega
 have hN : m.length * k = (cur.toList.take (i * k) ++ row x).length + (m.length * k - (i * k + k)) := by rw [hP]; omega
 show (cur.toList.take (i * k) ++ row x ++ cur.toList.drop (i * k + k)).take (m.length * k) = _
 generalize hM : m.length * k - (i * k + k) = M at *
 rw [hN, List.take_length_add_append]
end Go.Proofs.YtccnkebkgegohaaGreatDoor
end
