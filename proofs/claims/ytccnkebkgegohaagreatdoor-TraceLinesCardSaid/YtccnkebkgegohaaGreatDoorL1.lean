import Derived.Test.YtccnkebkgegohaaGreatDoorL0
import Derived.Test.YtccnkebkgegohaaGreatDoorProg
import Derived.WalkKit
import Derived.WalkLawsBesides
import Derived.WalkSpells
import Derived.StillTailTactics
import Derived.Deep.QuietTactic
import Derived.BigQuiet
import Derived.Outline
import Derived.Recover
import Derived.Laws.BitsLemmas
import Derived.Lib.Hide
import Derived.Laws.EntriesVeiled
import Derived.OwnWalk
import Derived.Maps.AppendAt
import Derived.Maps.OwnSet
import Derived.Maps.Views
import Derived.DeepKeys4
import Derived.Deep.Cut
import Derived.Laws.IdiomStrings
import Derived.Laws.Strings
import Derived.Lib.SplitLaws
import Derived.Lib.ConvBytes
import Derived.Defers
import Derived.Laws.Pointers
import Derived.Lib.ReplaceLaws
/-
  Given contracts of functions of the program, and laws for them, one behind the other.
-/
set_option linter.unusedVariables false
set_option linter.unusedSimpArgs false
set_option linter.unusedSectionVars false
section
section
namespace Go.Draw
abbrev Sol := BitVec 512
abbrev U := BitVec 64
def plv (s : Sol) (k : Nat) : U := s.extractLsb' (64 * k) 64
def mkS (f : Nat → U) : Sol := (f 0).setWidth 512 ||| (f 1).setWidth 512 <<< 64 ||| (f 2).setWidth 512 <<< 128 ||| (f 3).setWidth 512 <<< 192 ||| (f 4).setWidth 512 <<< 256 ||| (f 5).setWidth 512 <<< 320 ||| (f 6).setWidth 512 <<< 384 ||| (f 7).setWidth 512 <<< 448
theorem sol_ext {s t : Sol} (h : ∀ k, k < 8 → plv s k = plv t k) : s = t := by
 apply BitVec.eq_of_getLsbD_eq
 intro i hi
 have := congrArg (fun v => v.getLsbD (i % 64)) (h (i / 64) (by omega))
 simp only [plv, BitVec.getLsbD_extractLsb'] at this
 have e : 64 * (i / 64) + i % 64 = i := by omega
 rw [e] at this
 simpa [show i % 64 < 64 by omega] using this
theorem plane_bit (x : U) (j k i : Nat) (hj : j < 8) (hk : k < 8) (hi : i < 64) : (x.setWidth 512 <<< (64 * j)).getLsbD (64 * k + i) = (decide (j = k) && x.getLsbD i) := by
 simp only [BitVec.getLsbD_shiftLeft, BitVec.getLsbD_setWidth]
 have h1 : 64 * k + i < 512 := by omega
 by_cases e : j = k
 ·subst e
  simp [h1, show i < 512 by omega]
 ·by_cases h : j < k
  ·have : x.getLsbD (64 * k + i - 64 * j) = false := BitVec.getLsbD_of_ge _ _ (by omega)
   simp [e, this]
  ·have : 64 * k + i < 64 * j := by omega
   simp [e, this]
theorem plv_mkS (f : Nat → U) (k : Nat) (hk : k < 8) : plv (mkS f) k = f k := by
 apply BitVec.eq_of_getLsbD_eq; intro i hi
 have h0 : (f 0).setWidth 512 = (f 0).setWidth 512 <<< (64 * 0) := by simp
 unfold mkS
 rw [h0]
 simp only [plv, BitVec.getLsbD_extractLsb', BitVec.getLsbD_or, hi, decide_true, Bool.true_and]
 rw [plane_bit _ 0 k i (by omega) hk hi, plane_bit _ 1 k i (by omega) hk hi, plane_bit _ 2 k i (by omega) hk hi, plane_bit _ 3 k i (by omega) hk hi, plane_bit _ 4 k i (by omega) hk hi, plane_bit _ 5 k i (by omega) hk hi, plane_bit _ 6 k i (by omega) hk hi, plane_bit _ 7 k i (by omega) hk hi]
 obtain rfl | rfl | rfl | rfl | rfl | rfl | rfl | rfl : k = 0 ∨ k = 1 ∨ k = 2 ∨ k = 3 ∨ k = 4 ∨ k = 5 ∨ k = 6 ∨ k = 7 := by omega
 all_goals simp
theorem plv_zero (k : Nat) : plv 0 k = 0 := by
 apply BitVec.eq_of_getLsbD_eq; intro i hi; simp [plv]
def rowS (z a b : Nat) : Sol := mkS fun k => if k = z then BitVec.ofNat 64 (2 ^ (b + 1) - 2 ^ a) else 0
end Go.Draw
end
section
namespace Go.Draw
set_option maxRecDepth 10000
theorem mkS_bit (f : Nat → U) (k i : Nat) (hk : k < 8) (hi : i < 64) : (mkS f).getLsbD (64 * k + i) = (f k).getLsbD i := by
 have := congrArg (fun v => v.getLsbD i) (plv_mkS f k hk)
 simp only [plv, BitVec.getLsbD_extractLsb', hi, decide_true, Bool.true_and] at this
 exact this
def has (s : Sol) (x y z : Int) : Bool := decide (0 ≤ x ∧ x ≤ 7 ∧ 0 ≤ y ∧ y ≤ 7 ∧ 0 ≤ z ∧ z ≤ 7) && s.getLsbD (64 * z + 8 * y + x).toNat
end Go.Draw
end
section
namespace Go.Draw
set_option maxRecDepth 10000
def Sub (G G' : U) : Prop := ∀ i, G.getLsbD i = true → G'.getLsbD i = true
section
variable (can : Nat → U → Bool)
variable {can}
end
end Go.Draw
end
section
namespace Go.Draw
set_option maxRecDepth 10000
def tzTab : List Nat := [0, 1, 56, 2, 57, 49, 28, 3, 61, 58, 42, 50, 38, 29, 17, 4, 62, 47, 59, 36, 45, 43, 51, 22, 53, 39, 33, 30, 24, 18, 12, 5, 63, 55, 48, 27, 60, 41, 37, 16, 46, 35, 44, 21, 52, 32, 23, 11, 54, 26, 40, 15, 34, 20, 31, 10, 25, 14, 19, 9, 13, 8, 7, 6]
end Go.Draw
end
section
namespace Go.Draw
set_option maxRecDepth 10000
theorem sub_zero (S : U) : Sub 0 S := fun i hi => by simp at hi
end Go.Draw
end
section
namespace Go.Solid
open Go.Draw
set_option maxRecDepth 100000
abbrev Cl := Int × Int × Int
def bitN (c : Cl) : Nat := (64 * c.2.2 + 8 * c.2.1 + c.1).toNat
def cellN (n : Nat) : Cl := (((n % 8 : Nat) : Int), ((n / 8 % 8 : Nat) : Int), ((n / 64 : Nat) : Int))
def bitsS (s : Sol) : List Nat := (List.range 512).filter fun n => s.getLsbD n
def cellsS (s : Sol) : List Cl := (bitsS s).map cellN
def one (n : Nat) : Sol := 1#512 <<< n
/-- the cells of a list of numbers of bits -/
def orF (a : Sol) (l : List Nat) : Sol := l.foldl (fun a n => a ||| one n) a
def orL (l : List Nat) : Sol := orF 0 l
/-- what a map makes of a solid, if no cell leaves the grid -/
def imgS (f : Cl → Cl) (s : Sol) : Sol := orL ((cellsS s).map fun c => bitN (f c))
end Go.Solid
end
section
namespace Go.Solid
open Go.Draw
set_option maxRecDepth 100000
def rollC : Nat → Cl → Cl
 | 1, c => (c.1, 7 - c.2.2, c.2.1)
 | 2, c => (c.1, 7 - c.2.1, 7 - c.2.2)
 | 3, c => (c.1, c.2.2, 7 - c.2.1)
 | 4, c => (c.2.2, c.2.1, 7 - c.1)
 | 5, c => (7 - c.2.2, c.2.1, c.1)
 | _, c => c
def spinC : Nat → Cl → Cl
 | 0, c => c
 | n + 1, c => spinC n (7 - c.2.1, c.1, c.2.2)
def turnC (t : Nat) (c : Cl) : Cl := spinC (t % 4) (rollC (t / 4) c)
abbrev Ax := Nat × Bool
def co (c : Cl) : Nat → Int
 | 0 => c.1
 | 1 => c.2.1
 | _ => c.2.2
def subC (c d : Cl) : Cl := (c.1 - d.1, c.2.1 - d.2.1, c.2.2 - d.2.2)
end Go.Solid
end
section
namespace Go.Solid
open Go.Draw
set_option maxRecDepth 100000
def maxC (a b : Cl) : Cl := (max a.1 b.1, max a.2.1 b.2.1, max a.2.2 b.2.2)
def hiF (a : Cl) (l : List Cl) : Cl := l.foldl maxC a
def hiS (s : Sol) : Cl := hiF (0, 0, 0) (cellsS s)
theorem plv_bit' (s : Sol) (z : Nat) {i : Nat} (hi : i < 64) : (plv s z).getLsbD i = s.getLsbD (64 * z + i) := by
 unfold plv; rw [BitVec.getLsbD_extractLsb']; simp [hi]
theorem mkS_bit (f : Nat → U) {z i : Nat} (hz : z < 8) (hi : i < 64) : (mkS f).getLsbD (64 * z + i) = (f z).getLsbD i := by
 rw [← plv_bit' _ _ hi, plv_mkS _ _ hz]
def spunS (s : Sol) (t : Nat) : Sol := imgS (turnC t) s
end Go.Solid
end
section
namespace Go.Solid
open Go.Draw
set_option maxRecDepth 100000
abbrev Ch := Cl → Bool
def bx (S : Ch) (x y z : Int) : Bool := S (x + 1, y, z) ^^ S (x - 1, y, z)
def bY (S : Ch) (x y z : Int) : Bool := S (x, y + 1, z) ^^ S (x, y - 1, z)
def bz (S : Ch) (x y z : Int) : Bool := S (x, y, z + 1) ^^ S (x, y, z - 1)
/-- the boundary of a chain at a point -/
def bnd (S : Ch) : Ch := fun q => ((if q.1 % 2 = 0 then bx S q.1 q.2.1 q.2.2 else false) ^^ (if q.2.1 % 2 = 0 then bY S q.1 q.2.1 q.2.2 else false)) ^^ (if q.2.2 % 2 = 0 then bz S q.1 q.2.1 q.2.2 else false)
theorem x4 (a b c d : Bool) : ((a ^^ b) ^^ (c ^^ d)) = ((a ^^ c) ^^ (b ^^ d)) := by cases a <;> cases b <;> cases c <;> cases d <;> rfl
def edgeP (q : Cl) : Bool := (decide (q.1 % 2 = 1) && decide (q.2.1 % 2 = 0) && decide (q.2.2 % 2 = 0)) || (decide (q.1 % 2 = 0) && decide (q.2.1 % 2 = 1) && decide (q.2.2 % 2 = 0)) || (decide (q.1 % 2 = 0) && decide (q.2.1 % 2 = 0) && decide (q.2.2 % 2 = 1))
def Boxed (S : Ch) : Prop := ∀ p, S p = true → ∀ k, 0 ≤ co p k ∧ co p k ≤ 16
def wN (S : Ch) (a b : Int) : Nat → Bool
 | 0 => false
 | n + 1 => wN S a b n ^^ S (2 * a + 1, 2 * b + 1, 2 * (n : Int))
theorem boxed_no {S : Ch} (h : Boxed S) {p : Cl} (k : Nat) (hk : co p k < 0 ∨ 16 < co p k) : S p = false := by
 cases e : S p with
 | false => rfl
 | true => have := h p e k; omega
def Closed (S : Ch) : Prop := ∀ q, edgeP q = true → bnd S q = false
theorem x_of (a b c d : Bool) : ((a ^^ b) ^^ (c ^^ d)) = false → c = ((a ^^ b) ^^ d) := by cases a <;> cases b <;> cases c <;> cases d <;> decide
theorem wx (S : Ch) (hB : Boxed S) (hC : Closed S) (a b : Int) : ∀ n : Nat, (wN S (a - 1) b n ^^ wN S a b n) = S (2 * a, 2 * b + 1, 2 * (n : Int) - 1)
 | 0 => by
  rw [boxed_no hB 2 (p := (2 * a, 2 * b + 1, 2 * ((0 : Nat) : Int) - 1)) (Or.inl (by show 2 * ((0 : Nat) : Int) - 1 < 0; omega))]
  rfl
 | n + 1 => by
  have ih := wx S hB hC a b n
  have h := hC (2 * a, 2 * b + 1, 2 * (n : Int)) (by unfold edgeP; simp only [show (2 * a) % 2 = 0 by omega, show (2 * b + 1) % 2 = 1 by omega, show (2 * (n : Int)) % 2 = 0 by omega]; decide)
  unfold bnd bx bY bz at h
  simp only [show (2 * a) % 2 = 0 by omega, show ¬ (2 * b + 1) % 2 = 0 by omega, show (2 * (n : Int)) % 2 = 0 by omega, if_true, if_false, Bool.xor_false] at h
  have e1 : wN S (a - 1) b (n + 1) = (wN S (a - 1) b n ^^ S (2 * a - 1, 2 * b + 1, 2 * (n : Int))) := by
   show (wN S (a - 1) b n ^^ S (2 * (a - 1) + 1, 2 * b + 1, 2 * (n : Int))) = _
   rw [show 2 * (a - 1) + 1 = 2 * a - 1 by omega]
  have e2 : wN S a b (n + 1) = (wN S a b n ^^ S (2 * a + 1, 2 * b + 1, 2 * (n : Int))) := rfl
  rw [e1, e2, x4, ih, show 2 * ((n + 1 : Nat) : Int) - 1 = 2 * (n : Int) + 1 by omega, x_of _ _ _ _ h]
  cases S (2 * a, 2 * b + 1, 2 * (n : Int) - 1) <;> cases S (2 * a - 1, 2 * b + 1, 2 * (n : Int)) <;> cases S (2 * a + 1, 2 * b + 1, 2 * (n : Int)) <;> rfl
end Go.Solid
end
section
namespace Go.Solid
open Go.Draw
set_option maxRecDepth 100000
def hR (b : Sol) (t : Nat) : Cl := subC (7, 7, 7) (hiS (spunS b t))
end Go.Solid
end
section
namespace Go.Rel
open Go.RowKit
variable {P : Program}
theorem run_allL (w : World) (g : Nat → Option Bool × Unit → Sem (ForInStep (Option Bool × Unit))) (b : Nat → Bool) (l : List Nat)
  (h : ∀ i ∈ l, (g i (none, ())).run P w = .ok (if b i then ForInStep.yield (none, ()) else ForInStep.done (some false, ())) w) :
  ((forIn l (none, ()) g : Sem (Option Bool × Unit)).run P w) = .ok (if l.all b then (none, ()) else (some false, ())) w := by
 induction l with
 | nil => rfl
 | cons i l ih =>
  simp only [List.forIn_cons, Sem.run_bind, h i (by simp), Result.andThen_ok, List.all_cons]
  rcases Bool.eq_false_or_eq_true (b i) with hb | hb
  ·simpa [hb] using ih (fun j hj => h j (by simp [hj]))
  ·simp [hb]
theorem run_equalIn_arrayL (w : World) (d : Nat) (t e : TypeId) (len n : Nat) (xs ys : Array Value) (b : Nat → Bool) (ht : P.underlying t = some (.array len e)) (hn : (sizeOf e).run P w = .ok n w)
   (h : ∀ i, i < len → (do Op.equalIn d e (← part e xs (i * n)) (← part e ys (i * n)) : Sem Bool).run P w = .ok (b i) w) :
   (Op.equalIn (d+1) t (.agg xs) (.agg ys)).run P w = .ok ((List.range len).all b) w := by
  simp only [Op.equalIn, Sem.run_bind, run_underlying ht, Result.andThen_ok, hn]
  simp only [Std.Legacy.Range.forIn_eq_forIn_range', Std.Legacy.Range.size, Nat.sub_zero, Nat.add_sub_cancel, Nat.div_one, ← List.range_eq_range']
  rw [run_allL w _ b (List.range len) (fun i hi => ?_)]
  · cases (List.range len).all b <;> rfl
  · have h1 := h i (List.mem_range.1 hi)
    simp only [Sem.run_bind] at h1 ⊢
    generalize (part e xs (i * n)).run P w = r1 at h1 ⊢
    cases r1 with
    | halt x w' => cases h1
    | ok x w1 =>
      simp only [Result.andThen_ok] at h1 ⊢
      generalize (part e ys (i * n)).run P w1 = r2 at h1 ⊢
      cases r2 with
      | halt x w' => cases h1
      | ok y w2 =>
        simp only [Result.andThen_ok] at h1 ⊢
        rw [h1]
        simp only [Result.andThen_ok]
        rcases Bool.eq_false_or_eq_true (b i) with hb | hb <;> simp [hb]
end Go.Rel
namespace Go.Proofs.YtccnkebkgegohaaGreatDoor.Ln
open Go.RowKit Go.Draw
def pl (s : Sol) (k : Nat) : Int := ((plv s k).toNat : Int)
theorem pl_eq {s t : Sol} {k : Nat} : pl s k = pl t k ↔ plv s k = plv t k := by
 unfold pl; rw [Int.ofNat_inj, BitVec.toNat_inj]
theorem pl_zero (k : Nat) : pl 0 k = 0 := by unfold pl; rw [plv_zero]; rfl
attribute [irreducible] pl
/-- a solid as the value that the model has -/
abbrev solL (s : Sol) : List Value := [.int .u64 (pl s 0), .int .u64 (pl s 1), .int .u64 (pl s 2), .int .u64 (pl s 3), .int .u64 (pl s 4), .int .u64 (pl s 5), .int .u64 (pl s 6), .int .u64 (pl s 7)]
abbrev solV (s : Sol) : Value := .agg #[.int .u64 (pl s 0), .int .u64 (pl s 1), .int .u64 (pl s 2), .int .u64 (pl s 3), .int .u64 (pl s 4), .int .u64 (pl s 5), .int .u64 (pl s 6), .int .u64 (pl s 7)]
theorem sol_eq_iff (a b : Sol) : a = b ↔ (pl a 0 = pl b 0 ∧ pl a 1 = pl b 1 ∧ pl a 2 = pl b 2 ∧ pl a 3 = pl b 3 ∧ pl a 4 = pl b 4 ∧ pl a 5 = pl b 5 ∧ pl a 6 = pl b 6 ∧ pl a 7 = pl b 7) := by
 constructor
 ·rintro rfl; simp
 ·rintro ⟨h0, h1, h2, h3, h4, h5, h6, h7⟩
  refine sol_ext fun k hk => pl_eq.1 ?_
  obtain rfl | rfl | rfl | rfl | rfl | rfl | rfl | rfl : k = 0 ∨ k = 1 ∨ k = 2 ∨ k = 3 ∨ k = 4 ∨ k = 5 ∨ k = 6 ∨ k = 7 := by omega
  ·exact h0
  ·exact h1
  ·exact h2
  ·exact h3
  ·exact h4
  ·exact h5
  ·exact h6
  ·exact h7
theorem eqArr (ty : TypeId) (hty : Tryz.prog.underlying ty = some (.array 8 22)) (d : Nat) (a0 a1 a2 a3 a4 a5 a6 a7 b0 b1 b2 b3 b4 b5 b6 b7 : Int) (w : World) :
  (Op.equalIn (d+2) ty (.agg #[.int .u64 a0, .int .u64 a1, .int .u64 a2, .int .u64 a3, .int .u64 a4, .int .u64 a5, .int .u64 a6, .int .u64 a7]) (.agg #[.int .u64 b0, .int .u64 b1, .int .u64 b2, .int .u64 b3, .int .u64 b4, .int .u64 b5, .int .u64 b6, .int .u64 b7])).run Tryz.prog w = 
   .ok (a0 == b0 && (a1 == b1 && (a2 == b2 && (a3 == b3 && (a4 == b4 && (a5 == b5 && (a6 == b6 && a7 == b7))))))) w := by
  rw [Go.Rel.run_equalIn_arrayL w (d+1) ty 22 8 1 _ _ (fun i => match i with | 0 => a0 == b0 | 1 => a1 == b1 | 2 => a2 == b2 | 3 => a3 == b3 | 4 => a4 == b4 | 5 => a5 == b5 | 6 => a6 == b6 | _ => a7 == b7) hty (by kernel_rfl)]
  · simp [List.range, List.range.loop]
  · intro i hi
    have e : ∀ x y : Int, (Op.equalIn (d+1) 22 (.int .u64 x) (.int .u64 y)).run Tryz.prog w = .ok (x == y) w := fun x y => run_equalIn_int w d 22 .u64 .u64 x y (by kernel_rfl)
    obtain rfl | rfl | rfl | rfl | rfl | rfl | rfl | rfl : i = 0 ∨ i = 1 ∨ i = 2 ∨ i = 3 ∨ i = 4 ∨ i = 5 ∨ i = 6 ∨ i = 7 := by omega
    · exact Eq.trans (b := (Op.equalIn (d+1) 22 (.int .u64 a0) (.int .u64 b0)).run Tryz.prog w) (by kernel_rfl) (e a0 b0)
    · exact Eq.trans (b := (Op.equalIn (d+1) 22 (.int .u64 a1) (.int .u64 b1)).run Tryz.prog w) (by kernel_rfl) (e a1 b1)
    · exact Eq.trans (b := (Op.equalIn (d+1) 22 (.int .u64 a2) (.int .u64 b2)).run Tryz.prog w) (by kernel_rfl) (e a2 b2)
    · exact Eq.trans (b := (Op.equalIn (d+1) 22 (.int .u64 a3) (.int .u64 b3)).run Tryz.prog w) (by kernel_rfl) (e a3 b3)
    · exact Eq.trans (b := (Op.equalIn (d+1) 22 (.int .u64 a4) (.int .u64 b4)).run Tryz.prog w) (by kernel_rfl) (e a4 b4)
    · exact Eq.trans (b := (Op.equalIn (d+1) 22 (.int .u64 a5) (.int .u64 b5)).run Tryz.prog w) (by kernel_rfl) (e a5 b5)
    · exact Eq.trans (b := (Op.equalIn (d+1) 22 (.int .u64 a6) (.int .u64 b6)).run Tryz.prog w) (by kernel_rfl) (e a6 b6)
    · exact Eq.trans (b := (Op.equalIn (d+1) 22 (.int .u64 a7) (.int .u64 b7)).run Tryz.prog w) (by kernel_rfl) (e a7 b7)
theorem beq_pl (a b : Sol) : (pl a 0 == pl b 0 && (pl a 1 == pl b 1 && (pl a 2 == pl b 2 && (pl a 3 == pl b 3 && (pl a 4 == pl b 4 && (pl a 5 == pl b 5 && (pl a 6 == pl b 6 && pl a 7 == pl b 7))))))) = (a == b) := by
 rw [Bool.eq_iff_iff]
 simp only [Bool.and_eq_true, beq_iff_eq, sol_eq_iff a b]
@[go_sem] theorem eqSol (d : Nat) (a b : Sol) (w : World) : (Op.equalIn (d+2) 24 (solV a) (solV b)).run Tryz.prog w = .ok (a == b) w := by
 rw [eqArr 24 (by kernel_rfl), beq_pl]
@[go_sem] theorem eqSol0 (d : Nat) (a : Sol) (w : World) : (Op.equalIn (d+2) 24 (solV a) (.agg #[.int .u64 0, .int .u64 0, .int .u64 0, .int .u64 0, .int .u64 0, .int .u64 0, .int .u64 0, .int .u64 0])).run Tryz.prog w = .ok (a == 0#512) w := by
 have := eqSol d a 0 w
 simp only [solV, pl_zero] at this
 exact this
end Go.Proofs.YtccnkebkgegohaaGreatDoor.Ln
namespace Go.Proofs.YtccnkebkgegohaaGreatDoor.Ln
open Go.RowKit Go.Draw
theorem bel_refl (w : World) : Below w.heap.size w w := Below.refl _ _
theorem bel_alloc {w0 w : World} (h : Below w0.heap.size w0 w) (o : Obj) : Below w0.heap.size w0 (w.alloc o) := h.alloc h.size o
theorem bel_drew {w0 w : World} (h : Below w0.heap.size w0 w) : Below w0.heap.size w0 w.drew := h.drew
theorem bel_drewN {w0 w : World} (h : Below w0.heap.size w0 w) (n : Nat) : Below w0.heap.size w0 (w.drewN n) := below_drewN h n
theorem bel_trans {a b c : World} (h : Below a.heap.size a b) (k : Below b.heap.size b c) : Below a.heap.size a c := h.trans (k.mono h.size)
end Go.Proofs.YtccnkebkgegohaaGreatDoor.Ln
namespace Go.Rel
open Go.RowKit
variable {P : Program} {ops : Array Oper} {R : World → World → Prop} {w0 : World} {Q : Act → World → Prop}

end Go.Rel
namespace Go.Proofs.YtccnkebkgegohaaGreatDoor.Ln
open Go.RowKit Go.Draw
/-- from ⟨b, off⟩ on lie the cells of the rows xs, k cells each -/
def Cells (w : World) (b off k : Nat) (xs : List (List Value)) : Prop :=
 b < w.heap.size ∧ ∀ (i j : Nat) (u : Value), (xs[i]?).bind (·[j]?) = some u → w.cell? ⟨b, off + i * k + j, none⟩ = some u
def Sl (w : World) (k : Nat) (v : Value) (xs : List (List Value)) : Prop :=
 ∃ a c, v = .slice a xs.length c ∧ xs.length ≤ c ∧ c ≤ 9223372036854775807 ∧ (xs = [] ∨ ∃ b off, a = some ⟨b, off, none⟩ ∧ Cells w b off k xs)
theorem Cells.mono {w w' : World} {b off k : Nat} {xs : List (List Value)} (h : Cells w b off k xs) {B : Nat} (hb : Below B w w') (hB : b < B) : Cells w' b off k xs :=
 ⟨Nat.lt_of_lt_of_le h.1 hb.size, fun i j u hu => (hb.cell (p := ⟨b, _, none⟩) hB).trans (h.2 i j u hu)⟩
theorem Sl.mono {w w' : World} {k : Nat} {v : Value} {xs : List (List Value)} (h : Sl w k v xs) (hb : Below w.heap.size w w') : Sl w' k v xs := by
 obtain ⟨a, c, hv, hc, hm, h | ⟨b, off, ha, hcs⟩⟩ := h
 ·exact ⟨a, c, hv, hc, hm, .inl h⟩
 ·exact ⟨a, c, hv, hc, hm, .inr ⟨b, off, ha, hcs.mono hb hcs.1⟩⟩
theorem Sl.cases {w : World} {k : Nat} {v : Value} {xs : List (List Value)} (h : Sl w k v xs) :
  (xs = [] ∧ ∃ a c, v = .slice a 0 c ∧ c ≤ 9223372036854775807) ∨ (∃ b off c, v = .slice (some ⟨b, off, none⟩) xs.length c ∧ xs.length ≤ c ∧ c ≤ 9223372036854775807 ∧ 0 < xs.length ∧ Cells w b off k xs) := by
 obtain ⟨a, c, hv, hc, hm, h | ⟨b, off, ha, hcs⟩⟩ := h
 ·subst h; exact .inl ⟨rfl, a, c, hv, hm⟩
 ·by_cases hx : xs = []
  ·subst hx; exact .inl ⟨rfl, a, c, hv, hm⟩
  ·subst ha
   exact .inr ⟨b, off, c, hv, hc, hm, List.length_pos_iff.2 hx, hcs⟩
abbrev SlS (w : World) (v : Value) (l : List Sol) : Prop := Sl w 8 v (l.map solL)
end Go.Proofs.YtccnkebkgegohaaGreatDoor.Ln
namespace Go.Proofs.YtccnkebkgegohaaGreatDoor.Ln
theorem ret_bool {a b : Bool} (h : a = b) : Ending.returned (.bool a) = .returned (.bool b) := by rw [h]
end Go.Proofs.YtccnkebkgegohaaGreatDoor.Ln
end
section
namespace Go.Proofs.YtccnkebkgegohaaGreatDoor.Ln
open Go.RowKit Go.Rel Go.Draw
set_option maxRecDepth 100000
def Blk (w : World) (b : Nat) (c : Array Value) (t : TypeId) : Prop := w.heap[b]? = some (.cells c t (0, 0))
theorem Blk.cell {w : World} {b : Nat} {c : Array Value} {t : TypeId} (h : Blk w b c t) (o : Nat) : w.cell? ⟨b, o, none⟩ = c[o]? := by
 unfold Blk at h; simp [World.cell?, h]
theorem Blk.free {w : World} {b : Nat} {c : Array Value} {t : TypeId} (h : Blk w b c t) (o : Nat) : w.frozen? ⟨b, o, none⟩ = false := by
 unfold Blk at h; simp [World.frozen?, h]
theorem Blk.lt {w : World} {b : Nat} {c : Array Value} {t : TypeId} (h : Blk w b c t) : b < w.heap.size := (Array.getElem?_eq_some_iff.1 h).1
theorem Blk.set {w : World} {b : Nat} {c : Array Value} {t : TypeId} (h : Blk w b c t) (o : Nat) (v : Value) : Blk (w.setCell ⟨b, o, none⟩ v) b (c.setIfInBounds o v) t := by
 unfold Blk at *
 simp [World.setCell, Array.getElem?_modify, h]
theorem Blk.other {w : World} {b : Nat} {c : Array Value} {t : TypeId} (h : Blk w b c t) {a : Addr} (hne : a.block ≠ b) (v : Value) : Blk (w.setCell a v) b c t :=
 (Below.heap_setCell w a v b (Ne.symm hne)).trans h
theorem Blk.below {w w' : World} {b : Nat} {c : Array Value} {t : TypeId} (h : Blk w b c t) {B : Nat} (hb : Below B w w') (hlt : b < B) : Blk w' b c t := (hb.block b hlt).trans h
theorem Blk.grow {w w' : World} {b : Nat} {c : Array Value} {t : TypeId} (h : Blk w b c t) (hb : Below w.heap.size w w') : Blk w' b c t := h.below hb h.lt
theorem Blk.alloc {w : World} {b : Nat} {c : Array Value} {t : TypeId} (h : Blk w b c t) (o : Obj) : Blk (w.alloc o) b c t := (Below.heap_alloc w o b h.lt).trans h
theorem Blk.drew {w : World} {b : Nat} {c : Array Value} {t : TypeId} (h : Blk w b c t) : Blk w.drew b c t := h
theorem Blk.new (w : World) (c : Array Value) (t : TypeId) : Blk (w.alloc (.cells c t)) w.heap.size c t := by
 unfold Blk; show (w.heap.push _)[w.heap.size]? = _; simp
theorem setRow_setCell (w : World) (g i : Nat) (cs : Array Value) (v : Value) : (w.setRow g cs).setCell ⟨g, i, none⟩ v = w.setRow g (cs.setIfInBounds i v) := by
 unfold World.setCell World.setRow
 congr 1
 apply Array.ext
 ·simp
 ·intro k h1 h2
  simp only [Array.getElem_modify]
  split
  ·cases w.heap[k]'(by simpa using h1) <;> rfl
  ·rfl
theorem setRow_setCell_other (w : World) (g k i : Nat) (cs : Array Value) (v : Value) (h : k ≠ g) : (w.setRow g cs).setCell ⟨k, i, none⟩ v = (w.setCell ⟨k, i, none⟩ v).setRow g cs := by
 unfold World.setCell World.setRow
 congr 1
 apply Array.ext
 ·simp
 ·intro j h1 h2
  simp only [Array.getElem_modify]
  by_cases e1 : g = j
  ·by_cases e2 : k = j
   ·exact absurd (e2.trans e1.symm) h
   ·simp [e1, e2]
  ·simp [e1]
theorem cell_row_other (w : World) (g k i : Nat) (cs : Array Value) (h : k ≠ g) : (w.setRow g cs).cell? ⟨k, i, none⟩ = w.cell? ⟨k, i, none⟩ := cell_setRow_other w g cs ⟨k, i, none⟩ h
theorem frozen_row_other (w : World) (g k i : Nat) (cs : Array Value) (h : k ≠ g) : (w.setRow g cs).frozen? ⟨k, i, none⟩ = w.frozen? ⟨k, i, none⟩ := by
 simp [World.frozen?, setRow_other w g k cs h]
theorem row_drew (w : World) (g : Nat) (cs : Array Value) : w.drew.setRow g cs = (w.setRow g cs).drew := rfl
attribute [go_sem] setRow_setCell setRow_setCell_other cell_row_other frozen_row_other row_drew
/-- there is a row of cells at g, none of them frozen -/
def Row (w : World) (g : Nat) : Prop := ∃ c t, Blk w g c t
theorem cell_row_at (w : World) (g i : Nat) (cs : Array Value) (h : Row w g) : (w.setRow g cs).cell? ⟨g, i, none⟩ = cs[i]? := by
 obtain ⟨c, t, h⟩ := h; exact cell_setRow_same w g i c cs t (0, 0) h
theorem frozen_row_at (w : World) (g i : Nat) (cs : Array Value) (h : Row w g) : (w.setRow g cs).frozen? ⟨g, i, none⟩ = false := by
 obtain ⟨c, t, h⟩ := h; exact frozen_of_row _ g i cs t (setRow_heap w g c cs t (0, 0) h)
theorem row_setRow (w : World) (g k : Nat) (cs : Array Value) : Row (w.setRow k cs) g = Row w g := by
 by_cases e : g = k
 ·subst e
  refine propext ⟨fun ⟨c, t, h⟩ => ?_, fun ⟨c, t, h⟩ => ⟨_, _, setRow_heap w g c cs t (0, 0) h⟩⟩
  unfold Blk World.setRow at h
  simp only [Array.getElem?_modify] at h
  cases hh : w.heap[g]? with
  | none => rw [hh] at h; simp at h
  | some o =>
   rw [hh] at h
   cases o with
   | cells c' t' fr => simp at h; exact ⟨c', t', by unfold Blk; rw [hh]; simp [h]⟩
   | _ => simp at h
 ·refine propext ⟨fun ⟨c, t, h⟩ => ⟨c, t, ?_⟩, fun ⟨c, t, h⟩ => ⟨c, t, ?_⟩⟩
  ·unfold Blk at *; rwa [setRow_other w k g cs e] at h
  ·unfold Blk at *; rwa [setRow_other w k g cs e]
attribute [go_sem] cell_row_at frozen_row_at row_setRow
theorem Blk.row {w : World} {b : Nat} {c : Array Value} {t : TypeId} (h : Blk w b c t) : Row w b := ⟨c, t, h⟩
theorem Blk.rw {w : World} {b : Nat} {c : Array Value} {t : TypeId} (h : Blk w b c t) : w.setRow b c = w := setRow_self w b c t (0, 0) h
theorem Blk.rowS {w : World} {b : Nat} {c : Array Value} {t : TypeId} (h : Blk w b c t) (cs : Array Value) : Blk (w.setRow b cs) b cs t := setRow_heap w b c cs t (0, 0) h
theorem Blk.at {w : World} {n : Nat} (c : Array Value) (t : TypeId) (h : n = w.heap.size) : Blk (w.alloc (.cells c t)) n c t := by subst h; exact Blk.new w c t
theorem add1_ne (x : Nat) : (x + 1 = x) = False := by simp
theorem add2_ne (x : Nat) : (x + 1 + 1 = x) = False := eq_false (by omega)
theorem add3_ne (x : Nat) : (x + 1 + 1 + 1 = x) = False := eq_false (by omega)
theorem add4_ne (x : Nat) : (x + 1 + 1 + 1 + 1 = x) = False := eq_false (by omega)
theorem ne_add1 (x : Nat) : (x = x + 1) = False := by simp
theorem ne_add2 (x : Nat) : (x = x + 1 + 1) = False := eq_false (by omega)
theorem ne_add3 (x : Nat) : (x = x + 1 + 1 + 1) = False := eq_false (by omega)
theorem ne_add4 (x : Nat) : (x = x + 1 + 1 + 1 + 1) = False := eq_false (by omega)
attribute [go_sem] add1_ne add2_ne add3_ne add4_ne ne_add1 ne_add2 ne_add3 ne_add4
theorem Blk.rowO {w : World} {b : Nat} {c : Array Value} {t : TypeId} (h : Blk w b c t) {g : Nat} (cs : Array Value) (hne : b ≠ g) : Blk (w.setRow g cs) b c t := (setRow_other w g b cs hne).trans h
theorem bel_row {w0 w : World} (h : Below w0.heap.size w0 w) {g : Nat} (hg : w0.heap.size ≤ g) (cs : Array Value) : Below w0.heap.size w0 (w.setRow g cs) :=
 ⟨h.os, h.tape, h.output, by rw [setRow_size]; exact h.size, fun k hk => (setRow_other w g k cs (by omega)).trans (h.block k hk)⟩
theorem blw_row {B : Nat} {w0 w : World} (h : Below B w0 w) {g : Nat} (hg : B ≤ g) (cs : Array Value) : Below B w0 (w.setRow g cs) :=
 ⟨h.os, h.tape, h.output, by rw [setRow_size]; exact h.size, fun k hk => (setRow_other w g k cs (by omega)).trans (h.block k hk)⟩
theorem bel_set {w0 w : World} (h : Below w0.heap.size w0 w) {p : Addr} (hp : w0.heap.size ≤ p.block) (u : Value) : Below w0.heap.size w0 (w.setCell p u) := h.setCell hp u
@[irreducible] def Veil (p : Prop) : Prop := p
theorem Veil.out {p : Prop} (h : Veil p) : p := by unfold Veil at h; exact h
theorem Veil.on {p : Prop} (h : p) : Veil p := by unfold Veil; exact h
theorem Sl.out {w : World} {k : Nat} {v : Value} {xs : List (List Value)} (h : Sl w k v xs) : ∃ a n c, v = .slice a n c ∧ n = xs.length ∧ n ≤ c ∧ c ≤ 9223372036854775807 := by
 obtain ⟨a, c, hv, hc, hm, _⟩ := h
 exact ⟨a, xs.length, c, hv, rfl, hc, hm⟩
end Go.Proofs.YtccnkebkgegohaaGreatDoor.Ln
end
section
namespace Go.Proofs.YtccnkebkgegohaaGreatDoor.Ln
open Go.RowKit Go.Rel Go.Draw
set_option maxRecDepth 100000
end Go.Proofs.YtccnkebkgegohaaGreatDoor.Ln
end
section
namespace Go.Proofs.YtccnkebkgegohaaGreatDoor.Ln
open Go.RowKit Go.Rel Go.Draw
set_option maxRecDepth 100000
def uI (p : U) : Int := (p.toNat : Int)
theorem pl_uI (s : Sol) (k : Nat) : pl s k = uI (plv s k) := by unfold pl; rfl
attribute [irreducible] uI
end Go.Proofs.YtccnkebkgegohaaGreatDoor.Ln
end
section
namespace Go.Proofs.YtccnkebkgegohaaGreatDoor.Ln
open Go.RowKit Go.Rel Go.Draw
set_option maxRecDepth 100000
theorem infoSolid : (Tryz.prog.info? 24).map (fun i => (i.zero, i.size, i.bytes)) = some (some (.agg #[.int .u64 0, .int .u64 0, .int .u64 0, .int .u64 0, .int .u64 0, .int .u64 0, .int .u64 0, .int .u64 0]), 8, 64) := by kernel_rfl
theorem own_sl {w : World} {base : Nat} {e : TypeId} {size : Nat} {v : Value} {xs : List Value} {ls : List (List Value)} (hs : ∀ r ∈ ls, r.length = size) (hx : ls.flatten = xs) (h : w.ownsRow base e size v ls.length xs) : Sl w size v ls := by
 rcases h.2 with ⟨rfl, h0⟩ | ⟨g, cap, cur, rfl, hb, hg, hnc, hcm, hcs, htake⟩
 ·have : ls = [] := List.eq_nil_of_length_eq_zero h0
  subst this
  exact ⟨none, 0, rfl, Nat.le_refl _, by omega, .inl rfl⟩
 ·refine ⟨some ⟨g, 0, none⟩, cap, rfl, hnc, by unfold maxLen at hcm; omega, .inr ⟨g, 0, rfl, (Array.getElem?_eq_some_iff.1 hg).1, fun i j u hu => ?_⟩⟩
  rw [Nat.zero_add, cell_of_row w g _ cur e (0, 0) hg]
  have key : ∀ (ls : List (List Value)) (i j : Nat) (u : Value), (∀ r ∈ ls, r.length = size) → (ls[i]?).bind (·[j]?) = some u → (ls.flatten)[i * size + j]? = some u := by
   intro ls
   induction ls with
   | nil => intro i j u _ h; simp at h
   | cons r rest ih =>
    intro i j u hr h
    have hrl : r.length = size := hr r (by simp)
    cases i with
    | zero =>
     have h' : r[j]? = some u := by simpa using h
     have hj : j < r.length := (List.getElem?_eq_some_iff.1 h').1
     simp only [List.flatten_cons, Nat.zero_mul, Nat.zero_add]
     rw [List.getElem?_append_left hj]; exact h'
    | succ i =>
     have h' : (rest[i]?).bind (·[j]?) = some u := by simpa using h
     have := ih i j u (fun r' h' => hr r' (by simp [h'])) h'
     simp only [List.flatten_cons]
     rw [List.getElem?_append_right (by rw [hrl, Nat.add_mul]; omega), hrl, show (i + 1) * size + j - size = i * size + j by rw [Nat.add_mul]; omega]
     exact this
  have h1 := key ls i j u hs hu
  rw [hx, ← htake, List.getElem?_take] at h1
  split at h1
  ·rw [← Array.getElem?_toList]; exact h1
  ·cases h1
theorem hmf (fn : Fn) (first cap : Array Value) (w : World) : (Instr.makeFunc fn first cap).run Tryz.prog w = .ok (.func fn first cap) w := rfl
end Go.Proofs.YtccnkebkgegohaaGreatDoor.Ln
end
section
namespace Go.Proofs.YtccnkebkgegohaaGreatDoor.Ln
open Go.RowKit Go.Rel Go.Draw
set_option maxRecDepth 100000
/-- the table of TrailingZeros64 lies where the program laid it -/
def Tab (w : World) : Prop := ∀ k, k < 64 → w.cell? ⟨5, k, none⟩ = some (.int .u8 (tzTab.getD k 0 : Nat))
theorem Tab.lt {w : World} (h : Tab w) : 5 < w.heap.size := block_lt_of_cell (h 0 (by omega))
theorem Tab.mono {w w' : World} (h : Tab w) {B : Nat} (hb : Below B w w') (hB : 5 < B) : Tab w' := fun k hk => (hb.cell (p := ⟨5, k, none⟩) hB).trans (h k hk)
theorem Tab.grow {w w' : World} (h : Tab w) (hb : Below w.heap.size w w') : Tab w' := h.mono hb h.lt
end Go.Proofs.YtccnkebkgegohaaGreatDoor.Ln
end
section
namespace Go.Proofs.YtccnkebkgegohaaGreatDoor.Ln
open Go.RowKit Go.Rel Go.Draw
set_option maxRecDepth 100000
theorem gb_set {w w' : World} {g : Nat} (h : w.grownBy w' (some g)) (p : Addr) (hp : p.block = g) (v : Value) : w.grownBy (w'.setCell p v) (some g) :=
 h.trans ⟨rfl, rfl, rfl, by simp [World.setCell], fun k _ hk => Below.heap_setCell _ _ _ k (fun e => hk (by rw [e, hp]))⟩
theorem gb_below {w w' w2 : World} {r : Option Nat} (h : w.grownBy w' r) (hb : Below w'.heap.size w' w2) : w.grownBy w2 r :=
 h.trans ⟨hb.os, hb.tape, hb.output, hb.size, fun k hk _ => hb.block k hk⟩
theorem gb_refl (w : World) (r : Option Nat) : w.grownBy w r := ⟨rfl, rfl, rfl, Nat.le_refl _, fun _ _ _ => rfl⟩
theorem Blk.gb {w w' : World} {b : Nat} {c : Array Value} {t : TypeId} {r : Option Nat} (h : Blk w b c t) (hg : w.grownBy w' r) (hne : some b ≠ r) : Blk w' b c t := (hg.block b h.lt hne).trans h
/-- eight words by their numbers -/
abbrev mixA (f : Nat → Int) : Array Value := #[.int .u64 (f 0), .int .u64 (f 1), .int .u64 (f 2), .int .u64 (f 3), .int .u64 (f 4), .int .u64 (f 5), .int .u64 (f 6), .int .u64 (f 7)]
theorem mixA_get (f : Nat → Int) {k : Nat} (hk : k < 8) : (mixA f)[k]? = some (.int .u64 (f k)) := by
 obtain rfl | rfl | rfl | rfl | rfl | rfl | rfl | rfl : k = 0 ∨ k = 1 ∨ k = 2 ∨ k = 3 ∨ k = 4 ∨ k = 5 ∨ k = 6 ∨ k = 7 := by omega
 all_goals rfl
theorem getS (s : Sol) {Z : Nat} (hZ : Z < 8) (h : Z < ([.int .u64 (pl s 0), .int .u64 (pl s 1), .int .u64 (pl s 2), .int .u64 (pl s 3), .int .u64 (pl s 4), .int .u64 (pl s 5), .int .u64 (pl s 6), .int .u64 (pl s 7)] : List Value).length) : ([.int .u64 (pl s 0), .int .u64 (pl s 1), .int .u64 (pl s 2), .int .u64 (pl s 3), .int .u64 (pl s 4), .int .u64 (pl s 5), .int .u64 (pl s 6), .int .u64 (pl s 7)] : List Value)[Z]'h = .int .u64 (pl s Z) := by
 obtain rfl | rfl | rfl | rfl | rfl | rfl | rfl | rfl : Z = 0 ∨ Z = 1 ∨ Z = 2 ∨ Z = 3 ∨ Z = 4 ∨ Z = 5 ∨ Z = 6 ∨ Z = 7 := by omega
 all_goals rfl
end Go.Proofs.YtccnkebkgegohaaGreatDoor.Ln
end
section
namespace Go.Proofs.YtccnkebkgegohaaGreatDoor.Ln
open Go.RowKit Go.Rel Go.Draw Go.Solid
set_option maxRecDepth 100000

theorem idxS0 (a0 a1 a2 a3 a4 a5 a6 a7 : Int) (w : World) : (Instr.index 24 (.agg #[.int .u64 a0, .int .u64 a1, .int .u64 a2, .int .u64 a3, .int .u64 a4, .int .u64 a5, .int .u64 a6, .int .u64 a7]) (.int .i64 0)).run Tryz.prog w = .ok (.int .u64 a0) w := by kernel_rfl
theorem idxS1 (a0 a1 a2 a3 a4 a5 a6 a7 : Int) (w : World) : (Instr.index 24 (.agg #[.int .u64 a0, .int .u64 a1, .int .u64 a2, .int .u64 a3, .int .u64 a4, .int .u64 a5, .int .u64 a6, .int .u64 a7]) (.int .i64 1)).run Tryz.prog w = .ok (.int .u64 a1) w := by kernel_rfl
theorem idxS2 (a0 a1 a2 a3 a4 a5 a6 a7 : Int) (w : World) : (Instr.index 24 (.agg #[.int .u64 a0, .int .u64 a1, .int .u64 a2, .int .u64 a3, .int .u64 a4, .int .u64 a5, .int .u64 a6, .int .u64 a7]) (.int .i64 2)).run Tryz.prog w = .ok (.int .u64 a2) w := by kernel_rfl
theorem idxS3 (a0 a1 a2 a3 a4 a5 a6 a7 : Int) (w : World) : (Instr.index 24 (.agg #[.int .u64 a0, .int .u64 a1, .int .u64 a2, .int .u64 a3, .int .u64 a4, .int .u64 a5, .int .u64 a6, .int .u64 a7]) (.int .i64 3)).run Tryz.prog w = .ok (.int .u64 a3) w := by kernel_rfl
theorem idxS4 (a0 a1 a2 a3 a4 a5 a6 a7 : Int) (w : World) : (Instr.index 24 (.agg #[.int .u64 a0, .int .u64 a1, .int .u64 a2, .int .u64 a3, .int .u64 a4, .int .u64 a5, .int .u64 a6, .int .u64 a7]) (.int .i64 4)).run Tryz.prog w = .ok (.int .u64 a4) w := by kernel_rfl
theorem idxS5 (a0 a1 a2 a3 a4 a5 a6 a7 : Int) (w : World) : (Instr.index 24 (.agg #[.int .u64 a0, .int .u64 a1, .int .u64 a2, .int .u64 a3, .int .u64 a4, .int .u64 a5, .int .u64 a6, .int .u64 a7]) (.int .i64 5)).run Tryz.prog w = .ok (.int .u64 a5) w := by kernel_rfl
theorem idxS6 (a0 a1 a2 a3 a4 a5 a6 a7 : Int) (w : World) : (Instr.index 24 (.agg #[.int .u64 a0, .int .u64 a1, .int .u64 a2, .int .u64 a3, .int .u64 a4, .int .u64 a5, .int .u64 a6, .int .u64 a7]) (.int .i64 6)).run Tryz.prog w = .ok (.int .u64 a6) w := by kernel_rfl
theorem idxS7 (a0 a1 a2 a3 a4 a5 a6 a7 : Int) (w : World) : (Instr.index 24 (.agg #[.int .u64 a0, .int .u64 a1, .int .u64 a2, .int .u64 a3, .int .u64 a4, .int .u64 a5, .int .u64 a6, .int .u64 a7]) (.int .i64 7)).run Tryz.prog w = .ok (.int .u64 a7) w := by kernel_rfl
theorem idxS (s : Sol) {k : Nat} (h : k < 8) (w : World) : (Instr.index 24 (.agg #[.int .u64 (pl s 0), .int .u64 (pl s 1), .int .u64 (pl s 2), .int .u64 (pl s 3), .int .u64 (pl s 4), .int .u64 (pl s 5), .int .u64 (pl s 6), .int .u64 (pl s 7)]) (.int .i64 (k : Int))).run Tryz.prog w = .ok (.int .u64 (uI (plv s k))) w := by
 rw [← pl_uI]
 obtain rfl | rfl | rfl | rfl | rfl | rfl | rfl | rfl : k = 0 ∨ k = 1 ∨ k = 2 ∨ k = 3 ∨ k = 4 ∨ k = 5 ∨ k = 6 ∨ k = 7 := by omega
 ·exact idxS0 _ _ _ _ _ _ _ _ w
 ·exact idxS1 _ _ _ _ _ _ _ _ w
 ·exact idxS2 _ _ _ _ _ _ _ _ w
 ·exact idxS3 _ _ _ _ _ _ _ _ w
 ·exact idxS4 _ _ _ _ _ _ _ _ w
 ·exact idxS5 _ _ _ _ _ _ _ _ w
 ·exact idxS6 _ _ _ _ _ _ _ _ w
 ·exact idxS7 _ _ _ _ _ _ _ _ w
end Go.Proofs.YtccnkebkgegohaaGreatDoor.Ln
end
section
namespace Go.Proofs.YtccnkebkgegohaaGreatDoor.Ln
open Go.RowKit Go.Rel Go.Draw Go.Solid
set_option maxRecDepth 100000
theorem getZ (T : Sol) {Z : Nat} (hZ : Z < 8) : (#[.int .u64 (pl T 0), .int .u64 (pl T 1), .int .u64 (pl T 2), .int .u64 (pl T 3), .int .u64 (pl T 4), .int .u64 (pl T 5), .int .u64 (pl T 6), .int .u64 (pl T 7)] : Array Value)[Z]? = some (.int .u64 (pl T Z)) := mixA_get (fun i => pl T i) hZ
end Go.Proofs.YtccnkebkgegohaaGreatDoor.Ln
end
section
namespace Go.Proofs.YtccnkebkgegohaaGreatDoor.Ln
open Go.RowKit Go.Rel Go.Draw Go.Solid
set_option maxRecDepth 100000

theorem own_gb {W W' : World} {base : Nat} {e : TypeId} {size : Nat} {v : Value} {n : Nat} {xs : List Value} (h : W.ownsRow base e size v n xs) (hb : Below W.heap.size W W') : W'.ownsRow base e size v n xs :=
 h.kept (row := none) (gb_below (gb_refl W none) hb) (by cases v.ownBlock with | none => exact .inl rfl | some g => exact .inr (fun e => by cases e))

end Go.Proofs.YtccnkebkgegohaaGreatDoor.Ln
end
section
namespace Go.Proofs.YtccnkebkgegohaaGreatDoor.Ln
open Go.RowKit Go.Rel Go.Draw Go.Solid
set_option maxRecDepth 100000
def sliceLen : Value → Nat
 | .slice _ n _ => n
 | _ => 0
theorem pow2_16 (w : World) : Calls Tryz.prog 243 #[.int .i64 16] w fun e w' => e = .returned (.bool true) ∧ w' = w := by
 go_enter Tryz.func243, Tryz.ntmps243
 go_wp2_with fail
 go_ret
 exact ⟨rfl, rfl⟩
theorem tz64_16 (w : World) (hT : w.cell? ⟨5, 15, none⟩ = some (.int .u8 4)) : Calls Tryz.prog 255 #[.int .u64 16] w fun e w' => e = .returned (.int .i64 4) ∧ w' = w := by
 have e1 : IntKind.u64.wrap (-16) = 18446744073709551600 := by kernel_rfl
 have e2 : bits .and .u64 16 18446744073709551600 = 16 := by kernel_rfl
 have e3 : IntKind.u64.wrap (16 * 285870213051353865) = 4573923408821661840 := by kernel_rfl
 go_enter Tryz.func255, Tryz.ntmps255
 go_wp2_with fail
 go_ret
 exact ⟨rfl, rfl⟩
theorem tz_16 (w : World) (hT : w.cell? ⟨5, 15, none⟩ = some (.int .u8 4)) : Calls Tryz.prog 244 #[.int .u64 16] w fun e w' => e = .returned (.int .i64 4) ∧ w' = w := by
 have H := Lib.hid (tz64_16 w hT)
 clear hT
 go_enter Tryz.func244, Tryz.ntmps244
 go_wp2_with fail
 refine H.out.mono ?_
 rintro e w' ⟨rfl, rfl⟩
 go_wp2_with fail
 go_ret
 exact ⟨rfl, rfl⟩
def hexD (d : Nat) : UInt8 := if d < 10 then UInt8.ofNat (48 + d) else UInt8.ofNat (87 + d)
/-- the digits of a number below 16 ^ n -/
def hexN : Nat → Nat → List UInt8
 | 0, u => [hexD (u % 16)]
 | n + 1, u => if u < 16 then [hexD u] else hexN n (u / 16) ++ [hexD (u % 16)]
def hexS (u : Nat) : List UInt8 := hexN 16 u
theorem hexN_more : ∀ (n u : Nat), u < 16 ^ (n + 1) → hexN (n + 1) u = hexN n u
 | 0, u, h => by
  have : u < 16 := by simpa using h
  simp [hexN, this, Nat.mod_eq_of_lt this]
 | n + 1, u, h => by
  have h' : u / 16 < 16 ^ (n + 1) := by rw [Nat.div_lt_iff_lt_mul (by decide)]; rw [Nat.pow_succ] at h; exact h
  rw [hexN]
  split
  ·next h1 => rw [hexN, if_pos h1]
  ·next h1 =>
   rw [hexN_more n _ h', hexN.eq_2, if_neg h1]
theorem hexN_len : ∀ (n u : Nat), (hexN n u).length ≤ n + 1
 | 0, u => by simp [hexN]
 | n + 1, u => by
  unfold hexN
  split
  ·simp
  ·have := hexN_len n (u / 16)
   simp; omega
theorem hexS_step {u : Nat} (h : 16 ≤ u) (hu : u < 18446744073709551616) : hexS u = hexS (u / 16) ++ [hexD (u % 16)] := by
 unfold hexS
 have h' : u / 16 < 16 ^ (15 + 1) := by
  have : (16 : Nat) ^ (15 + 1) = 18446744073709551616 := by decide
  omega
 rw [hexN, if_neg (by omega), hexN_more 15 _ h']
theorem hexS_small {u : Nat} (h : u < 16) : hexS u = [hexD u] := by
 unfold hexS; rw [hexN, if_pos h]
abbrev digitsS : ByteArray := ⟨#[48, 49, 50, 51, 52, 53, 54, 55, 56, 57, 97, 98, 99, 100, 101, 102, 103, 104, 105, 106, 107, 108, 109, 110, 111, 112, 113, 114, 115, 116, 117, 118, 119, 120, 121, 122]⟩
theorem digit_run (r : Nat) (hr : r < 16) (W : World) : (Instr.index 9 (.string digitsS) (.int .u64 r)).run Tryz.prog W = .ok (.int .u8 ((hexD r).toNat : Int)) W := by
 obtain rfl | rfl | rfl | rfl | rfl | rfl | rfl | rfl | rfl | rfl | rfl | rfl | rfl | rfl | rfl | rfl : r = 0 ∨ r = 1 ∨ r = 2 ∨ r = 3 ∨ r = 4 ∨ r = 5 ∨ r = 6 ∨ r = 7 ∨ r = 8 ∨ r = 9 ∨ r = 10 ∨ r = 11 ∨ r = 12 ∨ r = 13 ∨ r = 14 ∨ r = 15 := by omega
 all_goals kernel_rfl
theorem and15 (q : Nat) : bits .and .u64 (q : Int) 15 = ((q % 16 : Nat) : Int) := by
 show IntKind.u64.wrap ((BitVec.ofInt 64 (q : Int) &&& BitVec.ofInt 64 15).toNat : Int) = _
 rw [BitVec.ofInt_natCast]
 have e : (BitVec.ofNat 64 q &&& BitVec.ofInt 64 15).toNat = q % 16 := by
  rw [BitVec.toNat_and]
  have : (BitVec.ofInt 64 15).toNat = 2 ^ 4 - 1 := by decide
  rw [this, Nat.and_two_pow_sub_one_eq_mod, BitVec.toNat_ofNat]
  omega
 rw [e]
 exact IntWalk.u64_in _ (by omega)
theorem zero275 : (Tryz.zeroCells275).size = 65 := by kernel_rfl
/-- the last cells of the array hold these bytes -/
def Tail (cu : Array Value) (L : List UInt8) : Prop := cu.size = 65 ∧ L.length ≤ 65 ∧ ∀ j (h : j < L.length), cu[65 - L.length + j]? = some (.int .u8 ((L[j]).toNat : Int))
theorem Tail.cons {cu : Array Value} {L : List UInt8} (h : Tail cu L) (hl : L.length < 65) (b : UInt8) {i : Nat} (hi : i + L.length + 1 = 65) : Tail (cu.setIfInBounds i (.int .u8 (b.toNat : Int))) (b :: L) := by
 obtain ⟨h1, h2, h3⟩ := h
 refine ⟨by simpa using h1, by simp; omega, fun j hj => ?_⟩
 simp only [List.length_cons] at hj ⊢
 rw [Array.getElem?_setIfInBounds]
 rcases j with _ | j
 ·rw [if_pos (by omega), if_pos (by omega)]; rfl
 ·rw [if_neg (by omega)]
  have := h3 j (by omega)
  rw [show 65 - (L.length + 1) + (j + 1) = 65 - L.length + j by omega, this]
  rfl
set_option maxHeartbeats 8000000 in
theorem formatBits_hex (u : Nat) (hu : u < 18446744073709551616) (w : World) (hT : w.cell? ⟨5, 15, none⟩ = some (.int .u8 4)) :
  Calls Tryz.prog 227 #[.slice none 0 0, .int .u64 u, .int .i64 16, .bool false, .bool false] w fun e w' => e = .returned (.tuple #[.slice none 0 0, .string ⟨(hexS u).toArray⟩]) ∧ Below w.heap.size w w' := by
 have hlen := hexN_len 16 u
 have HLEN : Hid ((hexS u).length ≤ 17) := Lib.hid hlen
 have HU := Lib.hid hu
 have l5 := block_lt_of_cell hT
 have HT : Hid (∀ W, Below w.heap.size w W → Calls Tryz.prog 244 #[.int .u64 16] W fun e w' => e = .returned (.int .i64 4) ∧ w' = W) := Lib.hid fun W hb => tz_16 W ((hb.cell (p := ⟨5, 15, none⟩) l5).trans hT)
 generalize hs : hexS u = S at *
 have HS := Lib.hid hs
 clear hlen hT hs hu l5
 go_enter Tryz.func227, Tryz.ntmps227
 go_wp2_with fail
 obtain ⟨w0, hw0⟩ : ∃ w0 : World, w0 = w.alloc (.cells Tryz.zeroCells275 275) := ⟨_, rfl⟩
 have hB0 : Below w.heap.size w w0 := by subst hw0; exact bel_alloc (bel_refl _) _
 have hk0 : Blk w0 w.heap.size Tryz.zeroCells275 275 := by subst hw0; exact Blk.new _ _ _
 rw [← hw0]
 clear hw0
 have HK := Lib.hid (And.intro hB0 hk0); clear hB0 hk0
 refine (pow2_16 w0).mono ?_
 rintro e w' ⟨rfl, rfl⟩
 go_wp2_with fail
 refine (HT.out w' HK.out.1).mono ?_
 rintro e w1 ⟨rfl, rfl⟩
 go_wp2_with fail
 go_loopw [1, 13] (fun x y wr => ∃ (q i : Nat) (L : List UInt8) (cu : Array Value), x = .int .u64 q ∧ y = .int .i64 i ∧ Hid (S = hexS q ++ L) ∧ i + L.length = 65 ∧ q < 18446744073709551616 ∧ Hid (Tail cu L) ∧ Blk wr w.heap.size cu 275 ∧ Below w.heap.size w wr) (fun x _ _ => (intOf x).toNat)
 case atStart => exact ⟨u, 65, [], _, rfl, rfl, Lib.hid (by simp [HS.out]), rfl, HU.out, Lib.hid ⟨zero275, by simp, fun j hj => by simp at hj⟩, HK.out.2, HK.out.1⟩
 case round =>
  obtain ⟨q, i, L, cu, rfl, rfl, hSL, hi, hq, hTl, hB, hbel⟩ := hrel
  have hL17 : L.length ≤ 16 := by
   have h1 := HLEN.out
   rw [hSL.out, List.length_append] at h1
   have h2 : 0 < (hexS q).length := by
    by_cases h16 : q < 16
    ·rw [hexS_small h16]; simp
    ·rw [hexS_step (by omega) hq]; simp
   omega
  obtain ⟨i', rfl⟩ : ∃ i', i = i' + 1 := ⟨i - 1, by omega⟩
  have hcell : wr.cell? ⟨w.heap.size, i', none⟩ = some (cu[i']'(by have := hTl.out.1; omega)) := by
   rw [hB.cell]; simp
  have hfree := hB.free i'
  have hlt := hB.lt
  generalize cu[i']'_ = cv at hcell
  have hi65 : i' < 65 := by omega
  by_cases h16 : 16 ≤ q
  ·have hand := and15 q
   have hix := digit_run (q % 16) (by omega)
   have HST := Lib.hid (hexS_step h16 hq)
   have HH := Lib.hid (And.intro hB (And.intro hbel hi))
   have hq16 : (q : Int) / 16 = ((q / 16 : Nat) : Int) := by omega
   have HQ := Lib.hid hq16; clear hq16
   generalize hr : q % 16 = r at *
   clear hr hB hbel hi
   go_wp2_with fail
   go_roundw
   case rel => exact ⟨q / 16, i', hexD r :: L, cu.setIfInBounds i' (.int .u8 ((hexD r).toNat : Int)), by rw [HQ.out], rfl, Lib.hid (by rw [hSL.out, HST.out]; simp), by have := HH.out.2.2; simp; omega, by omega, Lib.hid (hTl.out.cons (by omega) _ (by have := HH.out.2.2; omega)), HH.out.1.set i' _, HH.out.2.1.setCell (by simp) _⟩
   case measure => simp [intOf]; omega
  ·have hq16 : q < 16 := by omega
   have hix := digit_run q hq16
   have HFS : Hid (S = hexD q :: L) := Lib.hid (by rw [hSL.out, hexS_small hq16]; rfl)
   have HH := Lib.hid (And.intro hB (And.intro hbel hi))
   clear hB hbel hi
   go_upto_region 30 with (fail)
   obtain ⟨w2, hw2⟩ : ∃ w2 : World, w2 = wr.setCell ⟨w.heap.size, i', none⟩ (.int .u8 ((hexD q).toNat : Int)) := ⟨_, rfl⟩
   have hB2 : Below w.heap.size w w2 := by subst hw2; exact HH.out.2.1.setCell (by simp) _
   have hk2 : Blk w2 w.heap.size (cu.setIfInBounds i' (.int .u8 ((hexD q).toNat : Int))) 275 := by subst hw2; exact HH.out.1.set i' _
   rw [← hw2]
   have hT2 := hTl.out.cons (by omega) (hexD q) (show i' + L.length + 1 = 65 by have := HH.out.2.2; omega)
   have hcv := run_convert_bytes_back (P := Tryz.prog) w2 72 9 5 ⟨w.heap.size, i', none⟩ (65 - i') (hexD q :: L) Tryz.underlying72 Tryz.underlying5 Tryz.underlying9 (fun j hj => by
    rw [Addr.add_lit, hk2.cell]
    have h3 := hT2.2.2 j hj
    rw [← h3]
    congr 1
    have := HH.out.2.2
    simp only [List.length_cons]
    omega)
   have hle : (hexD q :: L).length = 65 - i' := by have := HH.out.2.2; simp; omega
   rw [hle] at hcv
   have hal : Tryz.prog.arrayLen 275 = 65 := by kernel_rfl
   have hse : ∀ W, (sizeOf (Tryz.prog.elem 275)).run Tryz.prog W = .ok 1 W := fun W => by kernel_rfl
   have hsa : (Instr.sliceAt 275 (.pointer (some ⟨w.heap.size, 0, none⟩)) (some (.int .i64 i')) none none).run Tryz.prog w2 = .ok (.slice (some ⟨w.heap.size, i', none⟩) (65 - i') (65 - i')) w2 := by
    rw [run_sliceAt_array_l w2 275 ⟨w.heap.size, 0, none⟩ (by kernel_rfl) .i64 i' (by omega) (by rw [hal]; omega), hse, hal]
    simp only [Result.andThen_ok, slicedAt]
    rw [if_neg (by have := HH.out.2.2; simp; omega), Addr.add_lit]
    simp
   clear hal hse
   have HB2 := Lib.hid hB2
   clear hw2 hT2 hk2 hB2 hcell hfree hlt hle hL17
   go_wp2_with fail
   refine bodyPost_ret (v := .tuple #[.slice none 0 0, .string ⟨(hexD q :: L).toArray⟩]) (by simp [results, Tryz.results227, go_sem]) rfl ⟨by rw [HFS.out], HB2.out⟩
theorem FormatUintI (u : Nat) (hu : u < 18446744073709551616) (w : World) (hT : w.cell? ⟨5, 15, none⟩ = some (.int .u8 4)) :
  Calls Tryz.prog 205 #[.int .u64 u, .int .i64 16] w fun e w' => e = .returned (.string ⟨(hexS u).toArray⟩) ∧ Below w.heap.size w w' := by
 have H := Lib.hid (formatBits_hex u hu w hT)
 clear hT hu
 go_enter Tryz.func205, Tryz.ntmps205
 go_wp2_with fail
 refine H.out.mono ?_
 rintro e w1 ⟨rfl, hb⟩
 go_wp2_with fail
 go_ret
 exact ⟨rfl, hb⟩
set_option maxHeartbeats 2000000 in
theorem FormatUint16 (u : Nat) (hu : u < 18446744073709551616) (w : World) (hT : w.cell? ⟨5, 15, none⟩ = some (.int .u8 4)) :
  Calls Tryz.prog 172 #[.int .u64 u, .int .i64 16] w fun e w' => e = .returned (.string ⟨(hexS u).toArray⟩) ∧ Below w.heap.size w w' := by
 have H := Lib.hid (FormatUintI u hu w hT)
 clear hT hu
 go_enter Tryz.func172, Tryz.ntmps172
 go_wp2_with fail
 refine H.out.mono ?_
 rintro e w1 ⟨rfl, hb⟩
 go_wp2_with fail
 go_ret
 exact ⟨rfl, hb⟩
/-- the planes, as numbers -/
def plN (s : Sol) (k : Nat) : Nat := (plv s k).toNat
theorem plN_lt (s : Sol) (k : Nat) : plN s k < 18446744073709551616 := by unfold plN; have := (plv s k).isLt; omega
theorem pl_plN (s : Sol) (k : Nat) : pl s k = ((plN s k : Nat) : Int) := by unfold pl plN; rfl
def hexV (s : Sol) (k : Nat) : Value := .string ⟨(hexS (plN s k)).toArray⟩
theorem infoStr : (Tryz.prog.info? 9).map (fun i => (i.zero, i.size, i.bytes)) = some (some (.string ⟨#[]⟩), 1, 16) := by kernel_rfl
theorem range_snoc {α : Type} (f : Nat → α) (k : Nat) : (List.range (k + 1)).map f = (List.range k).map f ++ [f k] := by rw [List.range_succ, List.map_append]; rfl
end Go.Proofs.YtccnkebkgegohaaGreatDoor.Ln
end
section
namespace Go.Proofs.YtccnkebkgegohaaGreatDoor.Ln
open Go.RowKit Go.Rel Go.Draw Go.Solid
set_option maxRecDepth 100000

theorem Cells.row {W : World} {b off k : Nat} {xs : List (List Value)} (h : Cells W b off k xs) {g : Nat} (hne : b ≠ g) (cs : Array Value) : Cells (W.setRow g cs) b off k xs :=
 ⟨by rw [setRow_size]; exact h.1, fun i j u hu => (cell_row_other _ _ _ _ _ hne).trans (h.2 i j u hu)⟩
end Go.Proofs.YtccnkebkgegohaaGreatDoor.Ln
end
section
namespace Go.Proofs.YtccnkebkgegohaaGreatDoor.Ln
open Go.RowKit Go.Rel Go.Draw Go.Solid
set_option maxRecDepth 100000
theorem zero_sols : (#[.int .u64 (pl (0 : Sol) 0), .int .u64 (pl (0 : Sol) 1), .int .u64 (pl (0 : Sol) 2), .int .u64 (pl (0 : Sol) 3), .int .u64 (pl (0 : Sol) 4), .int .u64 (pl (0 : Sol) 5), .int .u64 (pl (0 : Sol) 6), .int .u64 (pl (0 : Sol) 7)] : Array Value) = #[.int .u64 0, .int .u64 0, .int .u64 0, .int .u64 0, .int .u64 0, .int .u64 0, .int .u64 0, .int .u64 0] := by
 have h : ∀ i, i < 8 → pl (0 : Sol) i = 0 := fun i hi => by
  obtain rfl | rfl | rfl | rfl | rfl | rfl | rfl | rfl : i = 0 ∨ i = 1 ∨ i = 2 ∨ i = 3 ∨ i = 4 ∨ i = 5 ∨ i = 6 ∨ i = 7 := by omega
  all_goals decide +kernel
 rw [h 0 (by decide), h 1 (by decide), h 2 (by decide), h 3 (by decide), h 4 (by decide), h 5 (by decide), h 6 (by decide), h 7 (by decide)]
theorem zero_solV : solV (0 : Sol) = .agg #[.int .u64 0, .int .u64 0, .int .u64 0, .int .u64 0, .int .u64 0, .int .u64 0, .int .u64 0, .int .u64 0] := congrArg Value.agg zero_sols
attribute [local irreducible] turnC
end Go.Proofs.YtccnkebkgegohaaGreatDoor.Ln
end
section
namespace Go.Proofs.YtccnkebkgegohaaGreatDoor.Ln
open Go.RowKit Go.Rel Go.Draw Go.Solid
set_option maxRecDepth 100000
abbrev hexT : ByteArray := ⟨#[48, 49, 50, 51, 52, 53, 54, 55, 56, 57, 97, 98, 99, 100, 101, 102]⟩
theorem hex_cut (u : Nat) : hexT.extract (u % 16) (u % 16 + 1) = ⟨#[hexD (u % 16)]⟩ := by
 have h : ∀ r : Fin 16, hexT.extract r.val (r.val + 1) = ⟨#[hexD r.val]⟩ := by decide +kernel
 exact h ⟨u % 16, Nat.mod_lt _ (by decide)⟩
theorem bytes_app (l m : List UInt8) : (⟨l.toArray⟩ : ByteArray) ++ ⟨m.toArray⟩ = ⟨(l ++ m).toArray⟩ := by
 apply ByteArray.ext
 simp
set_option maxHeartbeats 4000000 in
theorem refHex_small {u : Nat} (h : u < 16) (w : World) : Calls Tryz.prog 175 #[.int .u64 u] w fun e w' => e = .returned (.string ⟨(hexS u).toArray⟩) ∧ Below w.heap.size w w' := by
 rw [hexS_small h]
 have hc := hex_cut u
 have HC : Hid (hexT.extract (u % 16) (u % 16 + 1) = ⟨[hexD u].toArray⟩) := Lib.hid (by rw [hc, Nat.mod_eq_of_lt h])
 clear hc
 go_enter Tryz.func175, Tryz.ntmps175
 go_wp2_with fail
 go_ret
 exact ⟨by rw [← HC.out]; rfl, Below.refl _ _⟩
set_option maxHeartbeats 4000000 in
theorem refHex_n : ∀ (n u : Nat), u < 16 ^ (n + 1) → u < 18446744073709551616 → ∀ w : World, Calls Tryz.prog 175 #[.int .u64 u] w fun e w' => e = .returned (.string ⟨(hexS u).toArray⟩) ∧ Below w.heap.size w w' := by
 intro n
 induction n with
 | zero => intro u h _ w; exact refHex_small (by simpa using h) w
 | succ n ih =>
  intro u h h64 w
  by_cases hs : u < 16
  ·exact refHex_small hs w
  ·have h1 : u / 16 < 16 ^ (n + 1) := by rw [Nat.pow_succ] at h; omega
   have H := Lib.hid (ih (u / 16) h1 (by omega) w)
   have hq : ((u / 16 : Nat) : Int) = (u : Int) / 16 := by omega
   rw [hq] at H
   rw [hexS_step (by omega) h64]
   have hc := hex_cut u
   obtain ⟨B, hB⟩ : ∃ B : ByteArray, B = ⟨(hexS (u / 16)).toArray⟩ := ⟨_, rfl⟩
   rw [← hB] at H
   have HC : Hid (B ++ hexT.extract (u % 16) (u % 16 + 1) = ⟨(hexS (u / 16) ++ [hexD (u % 16)]).toArray⟩) := Lib.hid (by rw [hc, hB]; exact bytes_app _ _)
   have hu : ¬ (u : Int) < 16 := by omega
   have hw : IntKind.u64.wrap ((u : Int) / 16) = (u : Int) / 16 := IntWalk.u64_in _ ⟨by omega, by omega⟩
   have hbs : B.size ≤ 17 := by rw [hB]; exact hexN_len 16 (u / 16)
   have hsz : ¬ 9223372036854775807 < B.size + (min (u % 16 + 1) 16 - u % 16) := by omega
   clear hc hq hB h1 h h64 hs ih hbs
   go_enter Tryz.func175, Tryz.ntmps175
   go_wp2_with fail
   refine H.out.mono ?_
   rintro e w1 ⟨rfl, hb⟩
   have HB := Lib.hid hb
   clear hb
   go_wp2_with fail
   go_ret
   exact ⟨by rw [← HC.out]; rfl, HB.out⟩
theorem refHex_spec {u : Nat} (h : u < 18446744073709551616) (w : World) : Calls Tryz.prog 175 #[.int .u64 u] w fun e w' => e = .returned (.string ⟨(hexS u).toArray⟩) ∧ Below w.heap.size w w' := refHex_n 15 u (by omega) h w
end Go.Proofs.YtccnkebkgegohaaGreatDoor.Ln
end
section
namespace Go.Proofs.YtccnkebkgegohaaGreatDoor.Ln
open Go.RowKit Go.Rel Go.Draw Go.Solid
set_option maxRecDepth 100000
def lastP (s : Sol) : Nat → Nat
 | 0 => 0
 | k + 1 => if plN s k = 0 then lastP s k else k
theorem lastP_lt (s : Sol) : ∀ k, lastP s k ≤ k
 | 0 => Nat.le_refl _
 | k + 1 => by
  have := lastP_lt s k
  unfold lastP
  split <;> omega
theorem lastP_seven (s : Sol) : lastP s 8 ≤ 7 := by
 have := lastP_lt s 7
 unfold lastP
 split <;> omega
/-- the text of the planes up to one -/
def wrP (s : Sol) : Nat → List UInt8
 | 0 => hexS (plN s 0)
 | k + 1 => wrP s k ++ 46 :: hexS (plN s (k + 1))
theorem wrP_len (s : Sol) : ∀ k, (wrP s k).length ≤ 18 * (k + 1)
 | 0 => by have := hexN_len 16 (plN s 0); show (hexN 16 (plN s 0)).length ≤ _; omega
 | k + 1 => by
  have ih := wrP_len s k
  have := hexN_len 16 (plN s (k + 1))
  unfold wrP
  rw [List.length_append, List.length_cons]
  show _ + ((hexN 16 (plN s (k + 1))).length + 1) ≤ _
  omega
def wrS (s : Sol) : List UInt8 := wrP s (lastP s 8)
theorem bytes_dot (l m : List UInt8) : ((⟨l.toArray⟩ : ByteArray) ++ ⟨#[46]⟩) ++ ⟨m.toArray⟩ = ⟨(l ++ 46 :: m).toArray⟩ := by
 have e : (⟨#[46]⟩ : ByteArray) = ⟨[(46 : UInt8)].toArray⟩ := rfl
 rw [e, bytes_app, bytes_app, List.append_assoc]
 rfl
theorem hexS_len (u : Nat) : (hexS u).length ≤ 17 := hexN_len 16 u
attribute [local irreducible] wrP lastP hexS plN
set_option maxHeartbeats 8000000 in
theorem refWrite_spec (s : Sol) (w : World) : Calls Tryz.prog 134 #[solV s] w fun e w' => e = .returned (.string ⟨(wrS s).toArray⟩) ∧ Below w.heap.size w w' := by
 have HHx := Lib.hid fun k W => refHex_spec (plN_lt s k) W
 have HS : Hid (∀ k, lastP s (k + 1) = if plN s k = 0 then lastP s k else k) := Lib.hid fun k => by conv => lhs; unfold lastP
 have HP : Hid (∀ k, wrP s (k + 1) = wrP s k ++ 46 :: hexS (plN s (k + 1))) := Lib.hid fun k => by conv => lhs; unfold wrP
 have HP0 : Hid (wrP s 0 = hexS (plN s 0)) := Lib.hid (by unfold wrP; rfl)
 have HL0 : Hid (lastP s 0 = 0) := Lib.hid (by unfold lastP; rfl)
 have HL7 := Lib.hid (lastP_seven s)
 have HLN := Lib.hid fun k => wrP_len s k
 obtain ⟨R, hR⟩ : ∃ R, R = wrS s := ⟨_, rfl⟩
 rw [← hR]
 have HR : Hid (R = wrP s (lastP s 8)) := Lib.hid (by rw [hR]; rfl)
 clear hR
 go_enter Tryz.func134, Tryz.ntmps134
 go_wp2_with fail
 obtain ⟨W0, hW0⟩ : ∃ W0, W0 = w.alloc (.cells #[.int .u64 (pl s 0), .int .u64 (pl s 1), .int .u64 (pl s 2), .int .u64 (pl s 3), .int .u64 (pl s 4), .int .u64 (pl s 5), .int .u64 (pl s 6), .int .u64 (pl s 7)] 24) := ⟨_, rfl⟩
 have HB : Hid (Blk W0 w.heap.size #[.int .u64 (pl s 0), .int .u64 (pl s 1), .int .u64 (pl s 2), .int .u64 (pl s 3), .int .u64 (pl s 4), .int .u64 (pl s 5), .int .u64 (pl s 6), .int .u64 (pl s 7)] 24 ∧ Below w.heap.size w W0) := Lib.hid (by rw [hW0]; exact ⟨Blk.new _ _ _, (by repeat (first | with_reducible exact bel_refl _ | with_reducible assumption | with_reducible refine bel_drewN ?_ _ | with_reducible refine bel_drew ?_ | with_reducible refine bel_alloc ?_ _ | with_reducible refine bel_row ?_ ?_ _ | with_reducible refine bel_set ?_ ?_ _ | refine bel_trans ?_ (by with_reducible assumption) | (simp; done) | (simp; omega)))⟩)
 rw [← hW0]
 clear hW0
 go_loopw [3, 4] (fun lv zv wx => ∃ k : Nat, k ≤ 8 ∧ zv = .int .i64 k ∧ lv = .int .i64 (lastP s k : Nat) ∧ Hid (Blk wx w.heap.size #[.int .u64 (pl s 0), .int .u64 (pl s 1), .int .u64 (pl s 2), .int .u64 (pl s 3), .int .u64 (pl s 4), .int .u64 (pl s 5), .int .u64 (pl s 6), .int .u64 (pl s 7)] 24 ∧ Below w.heap.size w wx)) (fun _ zv _ => 8 - (intOf zv).toNat)
 case atStart => exact ⟨0, by omega, rfl, by rw [HL0.out]; rfl, HB⟩
 case round =>
  clear HB
  obtain ⟨k, hk, rfl, rfl, HM⟩ := hrel
  by_cases hk8 : k < 8
  ·have cz : wr.cell? ⟨w.heap.size, k, none⟩ = some (.int .u64 ((plN s k : Nat) : Int)) := by rw [HM.out.1.cell, ← pl_plN]; exact getZ s hk8
   have lz := HM.out.1.lt
   have hkI : (k : Int) < 8 := by omega
   have hst := HS.out k
   obtain ⟨u, hu⟩ : ∃ u, u = plN s k := ⟨_, rfl⟩
   rw [← hu] at cz hst
   have HST := Lib.hid hst
   clear hst hu
   by_cases h0 : u = 0
   ·have HV : Hid (lastP s (k + 1) = lastP s k) := Lib.hid (by rw [HST.out, if_pos h0])
    have h0i : (u : Int) = 0 := by omega
    go_wp2_with fail
    go_roundw
    case rel => exact ⟨k + 1, by omega, by go_num, by rw [HV.out], HM⟩
    case measure => simp [intOf]; omega
   ·have HV : Hid (lastP s (k + 1) = k) := Lib.hid (by rw [HST.out, if_neg h0])
    have h0i : ¬ (u : Int) = 0 := by omega
    go_wp2_with fail
    go_roundw
    case rel => exact ⟨k + 1, by omega, by go_num, by rw [HV.out], HM⟩
    case measure => simp [intOf]; omega
  ·obtain rfl : k = 8 := by omega
   have c0 : wr.cell? ⟨w.heap.size, 0, none⟩ = some (.int .u64 ((plN s 0 : Nat) : Int)) := by rw [HM.out.1.cell, ← pl_plN]; exact getZ s (by omega)
   have lz := HM.out.1.lt
   have HH0 := Lib.hid fun W => HHx.out 0 W
   obtain ⟨n, hn⟩ : ∃ n, n = lastP s 8 := ⟨_, rfl⟩
   rw [← hn] at HR HL7 ⊢
   clear hn
   go_wp2_with fail
   clear c0 lz
   refine (HH0.out _).mono ?_
   rintro e w2 ⟨rfl, hb⟩
   have HM2 := Lib.hid (And.intro (HM.out.1.grow hb) (bel_trans HM.out.2 hb))
   clear hb HM
   have hl7 := HL7.out
   go_wp2_with fail
   go_loopw [5, 6] (fun ov zv wx => ∃ k : Nat, k ≤ n ∧ zv = .int .i64 ((k : Int) + 1) ∧ ov = .string ⟨(wrP s k).toArray⟩ ∧ Hid (Blk wx w.heap.size #[.int .u64 (pl s 0), .int .u64 (pl s 1), .int .u64 (pl s 2), .int .u64 (pl s 3), .int .u64 (pl s 4), .int .u64 (pl s 5), .int .u64 (pl s 6), .int .u64 (pl s 7)] 24 ∧ Below w.heap.size w wx)) (fun _ zv _ => 9 - (intOf zv).toNat)
   case atStart => exact ⟨0, by omega, rfl, by rw [HP0.out], HM2⟩
   case round =>
    clear HM2
    obtain ⟨k, hk, rfl, rfl, HM⟩ := hrel
    by_cases hkn : k + 1 ≤ n
    ·have cz : wr.cell? ⟨w.heap.size, k + 1, none⟩ = some (.int .u64 ((plN s (k + 1) : Nat) : Int)) := by rw [HM.out.1.cell, ← pl_plN]; exact getZ s (by omega)
     have lz := HM.out.1.lt
     have hkI : (k : Int) + 1 ≤ (n : Int) := by omega
     have hk8 : (k : Int) + 1 < 8 := by omega
     have hk0 : (0 : Int) ≤ (k : Int) + 1 := by omega
     have hkt : ((k : Int) + 1).toNat = k + 1 := by omega
     have HHk := Lib.hid fun W => HHx.out (k + 1) W
     have hln := HLN.out k
     have hlx := hexS_len (plN s (k + 1))
     have HPk := Lib.hid (HP.out k)
     obtain ⟨A, hA⟩ : ∃ A : ByteArray, A = ⟨(wrP s k).toArray⟩ := ⟨_, rfl⟩
     obtain ⟨C, hC⟩ : ∃ C : ByteArray, C = ⟨(hexS (plN s (k + 1))).toArray⟩ := ⟨_, rfl⟩
     have has : A.size ≤ 144 := by rw [hA]; show (wrP s k).length ≤ 144; omega
     have hcs : C.size ≤ 17 := by rw [hC]; exact hlx
     have HAC : Hid (A ++ ⟨#[46]⟩ ++ C = ⟨(wrP s (k + 1)).toArray⟩) := Lib.hid (by rw [hA, hC, bytes_dot, HPk.out])
     rw [← hC] at HHk
     rw [← hA]
     clear hln hlx hA hC
     go_wp2_with fail
     clear cz lz
     refine (HHk.out _).mono ?_
     rintro e w4 ⟨rfl, hb⟩
     have HM4 := Lib.hid (And.intro (HM.out.1.grow hb) (bel_trans HM.out.2 hb))
     have hwz : wrap64 ((k : Int) + 1 + 1) = (k : Int) + 1 + 1 := IntWalk.wrap64_in _ ⟨by omega, by omega⟩
     clear hb HM
     go_wp2_with fail
     go_roundw
     case rel => exact ⟨k + 1, by omega, by first | rfl | go_num | (simp; done), by rw [← HAC.out], HM4⟩
     case measure => simp [intOf]; omega
    ·obtain rfl : k = n := by omega
     have hkI : ¬ (k : Int) + 1 ≤ (k : Int) := by omega
     go_wp2_with fail
     go_ret
     exact ⟨by rw [HR.out]; rfl, HM.out.2⟩
end Go.Proofs.YtccnkebkgegohaaGreatDoor.Ln
end
section
namespace Go.Proofs.YtccnkebkgegohaaGreatDoor.Ln
open Go.RowKit Go.Rel Go.Draw Go.Solid
set_option maxRecDepth 100000
theorem joinTail_snoc (sep : List UInt8) (r : List (List UInt8)) (y : List UInt8) : Lib.joinTail sep (r ++ [y]) = Lib.joinTail sep r ++ (sep ++ y) := by
 unfold Lib.joinTail
 rw [List.map_append, List.flatten_append]
 simp
theorem join_wrP (s : Sol) : ∀ k, Lib.join ((List.range (k + 1)).map fun j => hexS (plN s j)) [46] = wrP s k
 | 0 => by rw [show List.range (0 + 1) = [0] from rfl, List.map_singleton, Lib.join_one]; rfl
 | k + 1 => by
  have ih := join_wrP s k
  have e : wrP s (k + 1) = wrP s k ++ 46 :: hexS (plN s (k + 1)) := rfl
  rw [e, ← ih, List.range_succ, List.map_append, List.map_singleton]
  cases hr : (List.range (k + 1)).map fun j => hexS (plN s j) with
  | nil => simp at hr
  | cons x r => rw [List.cons_append, Lib.join_cons, Lib.join_cons, joinTail_snoc, List.append_assoc]; rfl
theorem hex_zero {u : Nat} (h : u ≠ 0) (hu : u < 18446744073709551616) : ((⟨(hexS u).toArray⟩ : ByteArray).toList == [48]) = false := by
 rw [beq_eq_false_iff_ne, ByteArray.toList_eq]
 intro e2
 replace e2 : hexS u = [48] := e2
 by_cases hs : u < 16
 ·rw [hexS_small hs] at e2
  have h3 : ∀ r : Fin 16, r.val ≠ 0 → hexD r.val ≠ 48 := by decide +kernel
  exact h3 ⟨u, hs⟩ h (List.cons.inj e2).1
 ·rw [hexS_step (by omega) hu] at e2
  have h4 := congrArg List.length e2
  have h5 : 0 < (hexS (u / 16)).length := by
   by_cases h6 : u / 16 < 16
   ·rw [hexS_small h6]; simp
   ·rw [hexS_step (by omega) (by omega)]; simp
  simp only [List.length_append, List.length_cons, List.length_nil] at h4
  omega
theorem join_planes (s : Sol) {g cap m : Nat} {W : World} (h1 : m + 1 ≤ cap) (h2 : m < 8) (h3 : g < W.heap.size) (h4 : ∀ j, j < 8 → W.cell? ⟨g, j, none⟩ = some (hexV s j)) :
  Calls Tryz.prog 173 #[.slice (some ⟨g, 0, none⟩) (m + 1) cap, .string ⟨#[46]⟩] W fun e w' => e = .returned (.string ⟨(wrP s m).toArray⟩) ∧ Below W.heap.size W w' := by
 obtain ⟨xs, hxs⟩ : ∃ xs : List ByteArray, xs = (List.range (m + 1)).map fun j => (⟨(hexS (plN s j)).toArray⟩ : ByteArray) := ⟨_, rfl⟩
 have hlen : xs.length = m + 1 := by rw [hxs]; simp
 have hmap : xs.map (·.data.toList) = (List.range (m + 1)).map fun j => hexS (plN s j) := by
  rw [hxs, List.map_map]
  exact List.map_congr_left fun j _ => by simp
 have hj : Lib.join (xs.map (·.data.toList)) (⟨#[46]⟩ : ByteArray).data.toList = wrP s m := by rw [hmap]; exact join_wrP s m
 have H := Tryz.strings_Join g 0 cap xs ⟨#[46]⟩ W (fun j x hx => by
  rw [hxs, List.getElem?_map] at hx
  have hjm : j < m + 1 := by
   refine Nat.lt_of_not_le fun hle => ?_
   rw [List.getElem?_eq_none (by simpa using hle)] at hx
   cases hx
  rw [List.getElem?_range hjm] at hx
  cases hx
  rw [Nat.zero_add]
  exact h4 j (by omega)) h3 (by omega) (by omega) (by rw [hj]; have := wrP_len s m; omega)
 rw [hj, hlen] at H
 exact H
theorem hexS_zero : hexS 0 = [48] := rfl
attribute [local irreducible] wrP lastP hexS plN
set_option maxHeartbeats 8000000 in
theorem solidWrite_n (s : Sol) (w : World) (hT : w.cell? ⟨5, 15, none⟩ = some (.int .u8 4)) :
  Calls Tryz.prog 132 #[.agg #[.int .u64 (pl s 0), .int .u64 (pl s 1), .int .u64 (pl s 2), .int .u64 (pl s 3), .int .u64 (pl s 4), .int .u64 (pl s 5), .int .u64 (pl s 6), .int .u64 (pl s 7)]] w fun e w' => e = .returned (.string ⟨(wrS s).toArray⟩) ∧ Below w.heap.size w w' := by
 have l5 := block_lt_of_cell hT
 have HF : Hid (∀ k W, Below w.heap.size w W → Calls Tryz.prog 172 #[.int .u64 (pl s k), .int .i64 16] W fun e w' => e = .returned (hexV s k) ∧ Below W.heap.size W w') := Lib.hid fun k W hb => by
  rw [pl_plN]; exact FormatUint16 _ (plN_lt s k) W ((hb.cell (p := ⟨5, 15, none⟩) l5).trans hT)
 have HIX : Hid (∀ k : Nat, k < 8 → ∀ W, (Instr.index 24 (.agg #[.int .u64 (pl s 0), .int .u64 (pl s 1), .int .u64 (pl s 2), .int .u64 (pl s 3), .int .u64 (pl s 4), .int .u64 (pl s 5), .int .u64 (pl s 6), .int .u64 (pl s 7)]) (.int .i64 (k : Int))).run Tryz.prog W = .ok (.int .u64 (pl s k)) W) := Lib.hid (fun k hk W => (idxS s hk W).trans (by rw [pl_uI s k]))
 obtain ⟨i9, hi, hz0, hz1, hz2⟩ := info_parts infoStr
 have HI9 := Lib.hid (And.intro hi (And.intro hz0 (And.intro hz1 hz2))); clear hi hz0 hz1 hz2
 have HZ : Hid (∀ k, plN s k = 0 → hexV s k = .string ⟨#[48]⟩) := Lib.hid fun k h1 => by unfold hexV; rw [h1, hexS_zero]
 have HZN : Hid (∀ k, plN s k ≠ 0 → ∃ b : ByteArray, hexV s k = .string b ∧ (b.toList == [48]) = false) := Lib.hid fun k h1 => ⟨_, rfl, hex_zero h1 (plN_lt s k)⟩
 have HSP : Hid (∀ k, lastP s (k + 1) = if plN s k = 0 then lastP s k else k) := Lib.hid fun k => by conv => lhs; unfold lastP
 have HR : Hid (wrS s = wrP s (lastP s 8)) := Lib.hid rfl
 have HJN : Hid (∀ (g cap m : Nat) (W : World), m + 1 ≤ cap → m < 8 → g < W.heap.size → (∀ j, j < 8 → W.cell? ⟨g, j, none⟩ = some (hexV s j)) → Calls Tryz.prog 173 #[.slice (some ⟨g, 0, none⟩) (m + 1) cap, .string ⟨#[46]⟩] W fun e w' => e = .returned (.string ⟨(wrP s m).toArray⟩) ∧ Below W.heap.size W w') := Lib.hid fun g cap m W h1 h2 h3 h4 => join_planes s h1 h2 h3 h4
 have hv : ∀ k, ∃ b, hexV s k = .string b := fun k => ⟨_, rfl⟩
 have HVV := Lib.hid hv
 clear hT l5 hv
 obtain ⟨hx, hhx⟩ : ∃ hx, hx = hexV s := ⟨_, rfl⟩
 rw [← hhx] at HF HZ HZN HVV HJN
 clear hhx
 go_enter Tryz.func132, Tryz.ntmps132
 go_wp2_with fail
 go_loopw [3, 7] (fun u y wr => ∃ k : Nat, k ≤ 8 ∧ y = .int .i64 k ∧ Hid (wr.ownsRow w.heap.size 9 1 u k ((List.range k).map hx)) ∧ Below w.heap.size w wr) (fun _ y _ => 8 - (intOf y).toNat)
 case atStart => exact ⟨0, by omega, rfl, Lib.hid (World.ownsRow_nil _ _ _ _), (by repeat (first | with_reducible exact bel_refl _ | with_reducible assumption | with_reducible refine bel_drewN ?_ _ | with_reducible refine bel_drew ?_ | with_reducible refine bel_alloc ?_ _ | with_reducible refine bel_row ?_ ?_ _ | with_reducible refine bel_set ?_ ?_ _ | refine bel_trans ?_ (by with_reducible assumption) | (simp; done) | (simp; omega)))⟩
 case round =>
  obtain ⟨k, hk, rfl, hO, hbel⟩ := hrel
  by_cases hlt : k < 8
  ·have hix := HIX.out k hlt
   go_wp2_with fail
   refine (HF.out k wr hbel).mono ?_
   rintro e w1 ⟨rfl, hb1⟩
   have hbel1 : Below w.heap.size w w1 := bel_trans hbel hb1
   have HO1 := Lib.hid (own_gb hO.out hb1)
   have hsz := hbel1.size
   clear hb1 hbel
   obtain ⟨bs, hbs⟩ := HVV.out k
   have HBS := Lib.hid hbs
   rw [hbs]
   clear hbs
   go_wp2_with (first
    | (at_builtin; refine wpList_append_own _ rfl _ _ 163 rfl w.heap.size 9 i9 (.string ⟨#[]⟩) 1 16 Tryz.underlying163 HI9.out.1 HI9.out.2.1 HI9.out.2.2.1 HI9.out.2.2.2 rfl (by decide) _ _ _ rfl (HO1.out.alloc _) ⟨w1.heap.size, 0, none⟩ 1 1 [.string bs] rfl rfl (cell_one_new _ _ _) (fun x hx => by simp at hx; subst hx; rfl) (by unfold maxLen; omega) (by omega) (by simp; omega) ?_; intro v' w3 hown' hgrow3 hnil3))
   have hB3 : Below w.heap.size w w3 := (bel_alloc hbel1 _).grown hgrow3 (by simp; omega) (fun j hj => by have := (HO1.out.lt j hj).1; omega)
   have HO3 := Lib.hid (And.intro hown' hB3); clear hown' hgrow3 hnil3 hB3
   go_wp2_with fail
   go_roundw
   case rel => exact ⟨k + 1, by omega, by go_num, Lib.hid (by rw [range_snoc, HBS.out]; exact HO3.out.1), HO3.out.2⟩
   case measure => simp [intOf]; omega
  ·have hk8 : k = 8 := by omega
   subst hk8
   have ho := hO.out
   refine Veil.out ?_
   obtain ⟨g, cap, cur, rfl, hcap, hcm, hcell⟩ : ∃ g cap cur, u3 = .slice (some ⟨g, 0, none⟩) 8 cap ∧ 8 ≤ cap ∧ cap ≤ 9223372036854775807 ∧ (Blk wr g cur 9 ∧ ∀ j, j < 8 → wr.cell? ⟨g, j, none⟩ = some (hx j)) := by
    rcases ho.2 with ⟨_, h0⟩ | ⟨g, cap, cur, e, hb, hg, hnc, hcm, hcs, ht⟩
    ·omega
    ·refine ⟨g, cap, cur, e, hnc, by unfold maxLen at hcm; omega, hg, fun j hj => ?_⟩
     rw [Blk.cell hg]
     have h1 : ((List.range 8).map hx)[j]? = some (hx j) := by simp [hj]
     rw [← ht, List.getElem?_take, if_pos (by omega)] at h1
     simpa using h1
   refine Veil.on ?_
   have lg := hcell.1.lt
   have HC := Lib.hid hcell.2
   have HB := Lib.hid hbel
   clear ho hO hcell hbel hlt hk
   go_wp2_with fail
   have HCP := Lib.hid hcap
   go_loopw [3] (fun u wr => ∃ m : Nat, 1 ≤ m ∧ m ≤ 8 ∧ u = .slice (some ⟨g, 0, none⟩) m cap ∧ lastP s m = lastP s 8 ∧ Below w.heap.size w wr ∧ g < wr.heap.size ∧ Hid (∀ j, j < 8 → wr.cell? ⟨g, j, none⟩ = some (hx j))) (fun u _ => sliceLen u)
   case atStart => exact ⟨8, by omega, by omega, rfl, rfl, HB.out, lg, HC⟩
   case round =>
    obtain ⟨m, h1, h8, rfl, hlast, hbel, lg, hC⟩ := hrel
    have HLS := Lib.hid hlast
    clear hlast
    obtain ⟨m', rfl⟩ : ∃ m', m = m' + 1 := ⟨m - 1, by omega⟩
    have hcp := HCP.out
    by_cases hm : m' = 0
    ·subst hm
     have HJ := Lib.hid (HJN.out g cap 0 wr (by omega) (by omega) lg hC.out)
     have HW : Hid (wrS s = wrP s 0) := Lib.hid (by
      rw [HR.out, ← HLS.out, HSP.out 0]
      split
      ·unfold lastP; rfl
      ·rfl)
     have HBB := Lib.hid hbel
     clear hbel
     go_wp2_with fail
     refine HJ.out.mono ?_
     rintro e w3 ⟨rfl, hb3⟩
     have HB3 := Lib.hid (bel_trans HBB.out hb3)
     clear hb3
     go_wp2_with fail
     go_ret
     exact ⟨by rw [HW.out]; rfl, HB3.out⟩
    ·obtain ⟨k, rfl⟩ : ∃ k, m' = k + 1 := ⟨m' - 1, by omega⟩
     have hst := HSP.out (k + 1)
     by_cases h0 : plN s (k + 1) = 0
     ·have c0 := hC.out (k + 1) (by omega)
      rw [HZ.out (k + 1) h0] at c0
      rw [if_pos h0] at hst
      have HL2 := Lib.hid (hst.symm.trans HLS.out)
      have HBB := Lib.hid hbel
      clear hbel hm h0 hst
      go_wp2_with fail
      go_roundw
      case rel => ((repeat apply Exists.intro); exact ⟨⟨k + 1, by omega, by omega, rfl, HL2.out, HBB.out, lg, hC⟩, rfl⟩)
      case measure => simp [sliceLen]
     ·have c0 := hC.out (k + 1) (by omega)
      obtain ⟨b, hb, hb2⟩ := HZN.out (k + 1) h0
      rw [hb] at c0
      rw [if_neg h0] at hst
      have HW : Hid (wrS s = wrP s (k + 1)) := Lib.hid (by rw [HR.out, ← HLS.out, hst])
      have HJ := Lib.hid (HJN.out g cap (k + 1) wr (by omega) (by omega) lg hC.out)
      have HBB := Lib.hid hbel
      clear hbel hm h0 hst hb
      go_wp2_with fail
      refine HJ.out.mono ?_
      rintro e w3 ⟨rfl, hb3⟩
      have HB3 := Lib.hid (bel_trans HBB.out hb3)
      clear hb3
      go_wp2_with fail
      go_ret
      exact ⟨by rw [HW.out]; rfl, HB3.out⟩
end Go.Proofs.YtccnkebkgegohaaGreatDoor.Ln
end
section
namespace Go.Proofs.YtccnkebkgegohaaGreatDoor.Ln
open Go.RowKit Go.Rel Go.Draw Go.Solid
set_option maxRecDepth 100000
theorem plv_mkS (f : Nat → U) {k : Nat} (hk : k < 8) : plv (mkS f) k = f k := by
 apply BitVec.eq_of_getLsbD_eq
 intro i hi
 rw [plv_bit' _ _ hi, mkS_bit _ hk hi]
/-- a digit, as the reference reads it -/
def digV (c : UInt8) : Nat × Bool := if 48 ≤ c.toNat ∧ c.toNat ≤ 57 then (c.toNat - 48, true) else ((c.toNat + 159) % 256 + 10, decide (97 ≤ c.toNat ∧ c.toNat ≤ 102))
theorem digV_hex : ∀ r : Fin 16, digV (hexD r.val) = (r.val, true) ∧ hexD r.val ≠ 46 := by decide +kernel
def setP (s : Sol) (z v : Nat) : Sol := mkS fun k => if k = z then BitVec.ofNat 64 v else plv s k
theorem plN_setP (s : Sol) {z k : Nat} (v : Nat) (hk : k < 8) (hv : v < 18446744073709551616) : plN (setP s z v) k = if k = z then v else plN s k := by
 unfold plN setP
 rw [plv_mkS _ hk]
 split
 ·rw [BitVec.toNat_ofNat]; omega
 ·rfl
theorem sol_planes {a b : Sol} (h : ∀ k, k < 8 → plN a k = plN b k) : a = b := sol_ext fun k hk => BitVec.eq_of_toNat_eq (h k hk)
/-- a byte read -/
def rdB : Option (Nat × Sol) → UInt8 → Option (Nat × Sol)
 | none, _ => none
 | some (z, s), c => if c = 46 then some (z + 1, s) else if (digV c).2 = false ∨ 7 < z ∨ 1152921504606846976 ≤ plN s z then none else some (z, setP s z (16 * plN s z + (digV c).1))
def rdF (l : List UInt8) : Option (Nat × Sol) := l.foldl rdB (some (0, 0))
theorem rdB_none : ∀ l : List UInt8, l.foldl rdB none = none
 | [] => rfl
 | c :: l => by rw [List.foldl_cons]; exact rdB_none l
theorem rdB_dig {z : Nat} {s : Sol} {r : Nat} (hr : r < 16) (hz : z < 8) (h : plN s z < 1152921504606846976) : rdB (some (z, s)) (hexD r) = some (z, setP s z (16 * plN s z + r)) := by
 obtain ⟨h1, h2⟩ := digV_hex ⟨r, hr⟩
 simp only at h1 h2
 show (if hexD r = 46 then some (z + 1, s) else if (digV (hexD r)).2 = false ∨ 7 < z ∨ 1152921504606846976 ≤ plN s z then none else some (z, setP s z (16 * plN s z + (digV (hexD r)).1))) = _
 rw [if_neg h2, h1, if_neg]
 rintro (h3 | h3 | h3)
 ·cases h3
 ·omega
 ·omega
/-- a number read into an empty plane -/
theorem rd_hex (z : Nat) (hz : z < 8) : ∀ (n u : Nat) (s : Sol), u < 16 ^ (n + 1) → u < 18446744073709551616 → plN s z = 0 → (hexS u).foldl rdB (some (z, s)) = some (z, setP s z u) := by
 intro n
 induction n with
 | zero =>
  intro u s h _ h0
  have hu : u < 16 := by simpa using h
  rw [hexS_small hu, List.foldl_cons, List.foldl_nil, rdB_dig hu hz (by rw [h0]; decide), h0]
  simp
 | succ n ih =>
  intro u s h h64 h0
  by_cases hs : u < 16
  ·rw [hexS_small hs, List.foldl_cons, List.foldl_nil, rdB_dig hs hz (by rw [h0]; decide), h0]
   simp
  ·have h1 : u / 16 < 16 ^ (n + 1) := by rw [Nat.pow_succ] at h; omega
   have e1 : plN (setP s z (u / 16)) z = u / 16 := by rw [plN_setP s _ hz (by omega), if_pos rfl]
   rw [hexS_step (by omega) h64, List.foldl_append, ih (u / 16) s h1 (by omega) h0, List.foldl_cons, List.foldl_nil, rdB_dig (Nat.mod_lt _ (by decide)) hz (by rw [e1]; omega), e1]
   refine congrArg some (Prod.ext rfl (sol_planes fun k hk => ?_))
   show plN (setP (setP s z (u / 16)) z (16 * (u / 16) + u % 16)) k = plN (setP s z u) k
   rw [plN_setP _ _ hk (by omega), plN_setP _ _ hk h64, plN_setP _ _ hk (by omega)]
   split
   ·omega
   ·rfl
/-- the planes up to one -/
def upP (s : Sol) (k : Nat) : Sol := mkS fun j => if j ≤ k then plv s j else 0
theorem plN_upP (s : Sol) (k : Nat) {j : Nat} (hj : j < 8) : plN (upP s k) j = if j ≤ k then plN s j else 0 := by
 unfold plN upP
 rw [plv_mkS _ hj]
 split <;> rfl
theorem plN_zero (k : Nat) : plN (0 : Sol) k = 0 := by
 unfold plN plv
 simp
theorem rd_planes (s : Sol) : ∀ k, k < 8 → rdF (wrP s k) = some (k, upP s k) := by
 intro k
 induction k with
 | zero =>
  intro _
  show (hexS (plN s 0)).foldl rdB (some (0, 0)) = _
  rw [rd_hex 0 (by decide) 15 (plN s 0) 0 (by have := plN_lt s 0; omega) (plN_lt s 0) (plN_zero 0)]
  refine congrArg some (Prod.ext rfl (sol_planes fun j hj => ?_))
  show plN (setP 0 0 (plN s 0)) j = plN (upP s 0) j
  rw [plN_setP _ _ hj (plN_lt s 0), plN_upP s 0 hj, plN_zero]
  by_cases h : j = 0
  ·subst h; simp
  ·rw [if_neg h, if_neg (by omega)]
 | succ k ih =>
  intro hk
  have e : wrP s (k + 1) = wrP s k ++ 46 :: hexS (plN s (k + 1)) := rfl
  have e2 : rdF (wrP s k ++ 46 :: hexS (plN s (k + 1))) = (hexS (plN s (k + 1))).foldl rdB (some (k + 1, upP s k)) := by
   unfold rdF
   rw [List.foldl_append, List.foldl_cons]
   have h1 : (wrP s k).foldl rdB (some (0, 0)) = some (k, upP s k) := ih (by omega)
   rw [h1]
   rfl
  rw [e, e2, rd_hex (k + 1) hk 15 (plN s (k + 1)) (upP s k) (by have := plN_lt s (k + 1); omega) (plN_lt s (k + 1)) (by rw [plN_upP s k hk, if_neg (by omega)])]
  refine congrArg some (Prod.ext rfl (sol_planes fun j hj => ?_))
  show plN (setP (upP s k) (k + 1) (plN s (k + 1))) j = plN (upP s (k + 1)) j
  rw [plN_setP _ _ hj (plN_lt s (k + 1)), plN_upP s k hj, plN_upP s (k + 1) hj]
  by_cases h : j = k + 1
  ·subst h; rw [if_pos rfl, if_pos (Nat.le_refl _)]
  ·by_cases h2 : j ≤ k
   ·rw [if_neg h, if_pos h2, if_pos (by omega)]
   ·rw [if_neg h, if_neg h2, if_neg (by omega)]
theorem lastP_zero (s : Sol) : ∀ (m j : Nat), lastP s m < j → j < m → plN s j = 0
 | 0, j, _, h => by omega
 | m + 1, j, h1, h2 => by
  unfold lastP at h1
  split at h1
  ·rename_i h0
   by_cases e : j = m
   ·rw [e]; exact h0
   ·exact lastP_zero s m j h1 (by omega)
  ·omega
/-- what is written is read -/
theorem rd_wr (s : Sol) : rdF (wrS s) = some (lastP s 8, s) := by
 have h := lastP_seven s
 unfold wrS
 rw [rd_planes s _ (by omega)]
 refine congrArg some (Prod.ext rfl (sol_planes fun j hj => ?_))
 show plN (upP s (lastP s 8)) j = plN s j
 rw [plN_upP s _ hj]
 by_cases h2 : j ≤ lastP s 8
 ·rw [if_pos h2]
 ·rw [if_neg h2, lastP_zero s 8 j (by omega) hj]
theorem wrS_inj {a b : Sol} (h : wrS a = wrS b) : a = b := by
 have h1 := rd_wr a
 rw [h, rd_wr b] at h1
 exact (congrArg Prod.snd (Option.some.inj h1)).symm
theorem wrS_len (s : Sol) : (wrS s).length ≤ 144 := by
 have h1 := wrP_len s (lastP s 8)
 have h2 := lastP_seven s
 unfold wrS
 omega
/-- what Read answers -/
def readM (l : List UInt8) : Sol × Int := if l.length ≤ 150 then (match rdF l with
 | some (_, s) => if wrS s = l then (s, 0) else (0, 4)
 | none => (0, 4)) else (0, 4)
theorem readM_wr (s : Sol) : readM (wrS s) = (s, 0) := by
 have h := wrS_len s
 unfold readM
 rw [if_pos (by omega), rd_wr s]
 exact if_pos rfl
theorem readM_no {l : List UInt8} (h : ∀ s, wrS s ≠ l) : readM l = (0, 4) := by
 unfold readM
 split
 ·split
  ·rename_i s _
   rw [if_neg (h s)]
  ·rfl
 ·rfl
end Go.Proofs.YtccnkebkgegohaaGreatDoor.Ln
end
section
namespace Go.Proofs.YtccnkebkgegohaaGreatDoor.Ln
open Go.RowKit Go.Rel Go.Draw Go.Solid
set_option maxRecDepth 100000
set_option maxHeartbeats 8000000 in
theorem refDigit_spec (n : Nat) (hn : n < 256) (w : World) : Calls Tryz.prog 182 #[.int .u8 n] w fun e w' => e = .returned (.tuple #[.int .u64 ((digV (UInt8.ofNat n)).1 : Nat), .bool (digV (UInt8.ofNat n)).2]) ∧ Below w.heap.size w w' := by
 have ht : (UInt8.ofNat n).toNat = n := by simp; omega
 have hD : digV (UInt8.ofNat n) = if 48 ≤ n ∧ n ≤ 57 then (n - 48, true) else ((n + 159) % 256 + 10, decide (97 ≤ n ∧ n ≤ 102)) := by unfold digV; rw [ht]
 rw [hD]
 clear ht hD
 by_cases h0 : 48 ≤ n ∧ n ≤ 57
 ·have i1 : (48 : Int) ≤ (n : Int) := by omega
  have i2 : (n : Int) ≤ 57 := by omega
  rw [if_pos h0]
  have e1 : IntKind.u8.wrap ((n : Int) - 48) = ((n - 48 : Nat) : Int) := by rw [IntKind.wrap_u8]; omega
  have e2 : IntKind.u64.wrap (((n - 48 : Nat) : Int)) = ((n - 48 : Nat) : Int) := IntWalk.u64_in _ ⟨by omega, by omega⟩
  obtain ⟨m, hm⟩ : ∃ m, m = n - 48 := ⟨_, rfl⟩
  rw [← hm] at e1 e2 ⊢
  clear hm h0
  go_enter Tryz.func182, Tryz.ntmps182
  go_wp2_with fail
  exact bodyPost_ret (v := .tuple #[.int .u64 (m : Nat), .bool true]) (by simp [results, Tryz.results182, go_sem]) rfl ⟨rfl, Below.refl _ _⟩
 ·rw [if_neg h0]
  have e1 : IntKind.u8.wrap ((n : Int) - 97) = (((n + 159) % 256 : Nat) : Int) := by rw [IntKind.wrap_u8]; omega
  have hlt := Nat.mod_lt (n + 159) (show 0 < 256 by decide)
  obtain ⟨m, hm⟩ : ∃ m, m = (n + 159) % 256 := ⟨_, rfl⟩
  rw [← hm] at e1 hlt ⊢
  have e2 : IntKind.u64.wrap ((m : Nat) : Int) = (m : Int) := IntWalk.u64_in _ ⟨by omega, by omega⟩
  have e3 : IntKind.u64.wrap ((m : Int) + 10) = (m : Int) + 10 := IntWalk.u64_in _ ⟨by omega, by omega⟩
  have hv : (((m + 10 : Nat)) : Int) = (m : Int) + 10 := by omega
  rw [hv]
  clear hv hm hlt
  by_cases h1 : 48 ≤ n
  ·have i1 : (48 : Int) ≤ (n : Int) := by omega
   have i2 : ¬ (n : Int) ≤ 57 := by omega
   by_cases h2 : 97 ≤ n
   ·have i3 : (97 : Int) ≤ (n : Int) := by omega
    by_cases h3 : n ≤ 102
    ·have i4 : (n : Int) ≤ 102 := by omega
     rw [decide_eq_true (And.intro h2 h3)]
     clear h1 h2 h3
     clear h0
     go_enter Tryz.func182, Tryz.ntmps182
     go_wp2_with fail
     exact bodyPost_ret (v := .tuple #[.int .u64 ((m : Int) + 10), .bool true]) (by simp [results, Tryz.results182, go_sem]) rfl ⟨rfl, Below.refl _ _⟩
    ·have i4 : ¬ (n : Int) ≤ 102 := by omega
     rw [decide_eq_false (fun h => h3 h.2)]
     clear h1 h2 h3
     clear h0
     go_enter Tryz.func182, Tryz.ntmps182
     go_wp2_with fail
     exact bodyPost_ret (v := .tuple #[.int .u64 ((m : Int) + 10), .bool false]) (by simp [results, Tryz.results182, go_sem]) rfl ⟨rfl, Below.refl _ _⟩
   ·have i3 : ¬ (97 : Int) ≤ (n : Int) := by omega
    rw [decide_eq_false (fun h => h2 h.1)]
    clear h1 h2
    clear h0
    go_enter Tryz.func182, Tryz.ntmps182
    go_wp2_with fail
    exact bodyPost_ret (v := .tuple #[.int .u64 ((m : Int) + 10), .bool false]) (by simp [results, Tryz.results182, go_sem]) rfl ⟨rfl, Below.refl _ _⟩
  ·have i1 : ¬ (48 : Int) ≤ (n : Int) := by omega
   have i3 : ¬ (97 : Int) ≤ (n : Int) := by omega
   rw [decide_eq_false (fun h => h1 (by omega))]
   clear h1
   clear h0
   go_enter Tryz.func182, Tryz.ntmps182
   go_wp2_with fail
   exact bodyPost_ret (v := .tuple #[.int .u64 ((m : Int) + 10), .bool false]) (by simp [results, Tryz.results182, go_sem]) rfl ⟨rfl, Below.refl _ _⟩
end Go.Proofs.YtccnkebkgegohaaGreatDoor.Ln
end
section
namespace Go.Proofs.YtccnkebkgegohaaGreatDoor.Ln
open Go.RowKit Go.Rel Go.Draw Go.Solid
set_option maxRecDepth 100000
abbrev Z8a : Array Value := #[.int .u64 0, .int .u64 0, .int .u64 0, .int .u64 0, .int .u64 0, .int .u64 0, .int .u64 0, .int .u64 0]
theorem rdB_dot {z : Nat} {s : Sol} {c : UInt8} (h : c.toNat = 46) : rdB (some (z, s)) c = some (z + 1, s) := by
 have hc : c = 46 := by
  have : c.toNat = (46 : UInt8).toNat := h
  exact UInt8.toNat_inj.1 this
 exact if_pos hc
theorem rdB_bad {z : Nat} {s : Sol} {c : UInt8} (h : c.toNat ≠ 46) (k : (digV c).2 = false ∨ 7 < z ∨ 1152921504606846976 ≤ plN s z) : rdB (some (z, s)) c = none := by
 show (if c = 46 then some (z + 1, s) else if (digV c).2 = false ∨ 7 < z ∨ 1152921504606846976 ≤ plN s z then none else some (z, setP s z (16 * plN s z + (digV c).1))) = _
 rw [if_neg (fun e => h (by rw [e]; rfl)), if_pos k]
theorem rdB_ok {z : Nat} {s : Sol} {c : UInt8} (h : c.toNat ≠ 46) (k1 : (digV c).2 = true) (k2 : z ≤ 7) (k3 : plN s z < 1152921504606846976) : rdB (some (z, s)) c = some (z, setP s z (16 * plN s z + (digV c).1)) := by
 show (if c = 46 then some (z + 1, s) else if (digV c).2 = false ∨ 7 < z ∨ 1152921504606846976 ≤ plN s z then none else some (z, setP s z (16 * plN s z + (digV c).1))) = _
 rw [if_neg (fun e => h (by rw [e]; rfl)), if_neg]
 rintro (h3 | h3 | h3)
 ·rw [k1] at h3; cases h3
 ·omega
 ·omega
theorem digV_lt {c : UInt8} (h : (digV c).2 = true) : (digV c).1 < 16 := by
 have hc := c.toNat_lt
 unfold digV at h ⊢
 split
 ·simp only; omega
 ·rename_i h1
  rw [if_neg h1] at h
  have h2 := of_decide_eq_true h
  simp only
  omega
theorem readM_bad {l : List UInt8} {i : Nat} (h : (l.take i).foldl rdB (some (0, 0)) = none) : readM l = (0, 4) := by
 have h1 : rdF l = none := by
  unfold rdF
  rw [← List.take_append_drop i l, List.foldl_append, h]
  exact rdB_none _
 unfold readM
 split
 ·rw [h1]
 ·rfl
theorem cells_setP (s : Sol) {z v : Nat} (hz : z < 8) (hv : v < 18446744073709551616) : (#[.int .u64 (pl s 0), .int .u64 (pl s 1), .int .u64 (pl s 2), .int .u64 (pl s 3), .int .u64 (pl s 4), .int .u64 (pl s 5), .int .u64 (pl s 6), .int .u64 (pl s 7)] : Array Value).setIfInBounds z (.int .u64 ((v : Nat) : Int)) = #[.int .u64 (pl (setP s z v) 0), .int .u64 (pl (setP s z v) 1), .int .u64 (pl (setP s z v) 2), .int .u64 (pl (setP s z v) 3), .int .u64 (pl (setP s z v) 4), .int .u64 (pl (setP s z v) 5), .int .u64 (pl (setP s z v) 6), .int .u64 (pl (setP s z v) 7)] := by
 have hp : ∀ k, k < 8 → pl (setP s z v) k = if k = z then ((v : Nat) : Int) else pl s k := fun k hk => by
  rw [pl_plN, plN_setP s v hk hv]
  split
  ·rfl
  ·rw [pl_plN]
 rw [hp 0 (by decide), hp 1 (by decide), hp 2 (by decide), hp 3 (by decide), hp 4 (by decide), hp 5 (by decide), hp 6 (by decide), hp 7 (by decide)]
 obtain rfl | rfl | rfl | rfl | rfl | rfl | rfl | rfl : z = 0 ∨ z = 1 ∨ z = 2 ∨ z = 3 ∨ z = 4 ∨ z = 5 ∨ z = 6 ∨ z = 7 := by omega
 all_goals simp [Array.setIfInBounds]
theorem rd_take {l : List UInt8} {i : Nat} {c : UInt8} (h : l[i]? = some c) : (l.take (i + 1)).foldl rdB (some (0, 0)) = rdB ((l.take i).foldl rdB (some (0, 0))) c := by
 rw [List.take_add_one, h, List.foldl_append]; rfl
attribute [local irreducible] rdB rdF readM wrS plN setP digV
set_option maxHeartbeats 8000000 in
theorem refRead_n (l : List UInt8) (hl : l.length ≤ 300) (w : World) : Calls Tryz.prog 139 #[.string ⟨l.toArray⟩] w fun e w' => e = .returned (.tuple #[solV (readM l).1, .int .i64 (readM l).2]) ∧ Below w.heap.size w w' := by
 obtain ⟨n, hn⟩ : ∃ n, n = l.length := ⟨_, rfl⟩
 have hsz : (⟨l.toArray⟩ : ByteArray).size = n := by rw [hn]; rfl
 have hl2 : n ≤ 300 := by omega
 have HN := Lib.hid hn
 have HZV := Lib.hid zero_solV
 have HIX : Hid (∀ (i : Nat) (c : UInt8), l[i]? = some c → ∀ W, (Instr.index 9 (.string ⟨l.toArray⟩) (.int .i64 (i : Int))).run Tryz.prog W = .ok (.int .u8 ((c.toNat : Nat) : Int)) W) := Lib.hid (fun i c hc W => by
  obtain ⟨h1, h2⟩ := List.getElem?_eq_some_iff.1 hc
  have hb : (0 : Int) ≤ (i : Int) ∧ (i : Int) < ((⟨l.toArray⟩ : ByteArray).size : Int) := ⟨by omega, by show (i : Int) < (l.length : Int); omega⟩
  rw [run_index_string (P := Tryz.prog) (w := W) 9 (⟨l.toArray⟩ : ByteArray) .i64 (i : Int) Tryz.underlying9, dif_pos hb]
  have h3 : ((⟨l.toArray⟩ : ByteArray)[((i : Int)).toNat]'(by show ((i : Int)).toNat < l.length; rw [Int.toNat_natCast]; exact h1)) = c := h2
  rw [h3])
 obtain ⟨B, hB⟩ : ∃ B : ByteArray, B = ⟨l.toArray⟩ := ⟨_, rfl⟩
 rw [← hB] at hsz HIX ⊢
 have HBB := Lib.hid hB
 clear hn hl hB
 go_enter Tryz.func139, Tryz.ntmps139
 go_wp2_with fail
 obtain ⟨W0, hW0⟩ : ∃ W0, W0 = (w.alloc (.cells Z8a 24)).alloc (.cells Z8a 24) := ⟨_, rfl⟩
 have HB : Hid (Blk W0 w.heap.size Z8a 24 ∧ Blk W0 (w.heap.size + 1) #[.int .u64 (pl (0 : Sol) 0), .int .u64 (pl (0 : Sol) 1), .int .u64 (pl (0 : Sol) 2), .int .u64 (pl (0 : Sol) 3), .int .u64 (pl (0 : Sol) 4), .int .u64 (pl (0 : Sol) 5), .int .u64 (pl (0 : Sol) 6), .int .u64 (pl (0 : Sol) 7)] 24 ∧ Below w.heap.size w W0) := Lib.hid (by rw [hW0, zero_sols]; exact ⟨(by repeat (first | with_reducible assumption | (refine Blk.at _ _ ?_; (simp; done)) | with_reducible refine Blk.alloc ?_ _ | with_reducible refine Blk.drew ?_ | with_reducible refine Blk.rowS ?_ _ | with_reducible refine Blk.rowO ?_ _ (by simp))), Blk.at _ _ (by simp), (by repeat (first | with_reducible exact bel_refl _ | with_reducible assumption | with_reducible refine bel_drewN ?_ _ | with_reducible refine bel_drew ?_ | with_reducible refine bel_alloc ?_ _ | with_reducible refine bel_row ?_ ?_ _ | with_reducible refine bel_set ?_ ?_ _ | refine bel_trans ?_ (by with_reducible assumption) | (simp; done) | (simp; omega)))⟩)
 rw [← hW0]
 clear hW0
 go_loopw [5, 6] (fun zv iv wx => ∃ (i z : Nat) (s : Sol), i ≤ n ∧ iv = .int .i64 i ∧ zv = .int .i64 z ∧ z ≤ i ∧ Hid ((l.take i).foldl rdB (some (0, 0)) = some (z, s) ∧ (150 < n → i = 0) ∧ Blk wx w.heap.size Z8a 24 ∧ Blk wx (w.heap.size + 1) #[.int .u64 (pl s 0), .int .u64 (pl s 1), .int .u64 (pl s 2), .int .u64 (pl s 3), .int .u64 (pl s 4), .int .u64 (pl s 5), .int .u64 (pl s 6), .int .u64 (pl s 7)] 24 ∧ Below w.heap.size w wx)) (fun _ iv _ => n - (intOf iv).toNat)
 case atStart => exact ⟨0, 0, 0, by omega, rfl, rfl, Nat.le_refl _, Lib.hid ⟨rfl, fun _ => rfl, HB.out⟩⟩
 case round =>
  clear HB
  obtain ⟨i, z, s, hi, rfl, rfl, hzi, HM⟩ := hrel
  by_cases hlt : i < n ∧ n ≤ 150
  ·obtain ⟨h1, h2⟩ := hlt
   obtain ⟨c, hc⟩ : ∃ c, l[i]? = some c := ⟨_, List.getElem?_eq_getElem (by rw [← HN.out]; exact h1)⟩
   have hix := HIX.out i c hc
   have HCC := Lib.hid hc
   have hiI : (i : Int) < (n : Int) := by omega
   have hnI : (n : Int) ≤ 150 := by omega
   have hu := c.toNat_lt
   obtain ⟨u, huc⟩ : ∃ u, u = c.toNat := ⟨_, rfl⟩
   rw [← huc] at hix hu
   have HU := Lib.hid huc
   clear hc huc
   by_cases h46 : u = 46
   ·have hui : (u : Int) = 46 := by omega
    go_wp2_with fail
    have hst := rd_take HCC.out
    rw [HM.out.1, rdB_dot (by rw [← HU.out]; exact h46)] at hst
    refine ⟨⟨i + 1, z + 1, s, by omega, by rfl, by rfl, by omega, Lib.hid ⟨hst, fun h => by omega, HM.out.2.2⟩⟩, ?_⟩
    simp [intOf]; omega
   ·have hui : ¬ (u : Int) = 46 := by omega
    have HU46 : Hid (c.toNat ≠ 46) := Lib.hid (by rw [← HU.out]; exact h46)
    have HDg := Lib.hid fun W => refDigit_spec u hu W
    have hcu : UInt8.ofNat u = c := by rw [HU.out]; simp
    rw [hcu] at HDg
    obtain ⟨⟨D, ok⟩, hD⟩ : ∃ x, x = digV c := ⟨_, rfl⟩
    rw [← hD] at HDg
    have HDD := Lib.hid hD
    clear hcu hD h46
    go_wp2_with fail
    refine (HDg.out _).mono ?_
    rintro e w4 ⟨rfl, hb⟩
    have HM4 := Lib.hid (And.intro (HM.out.2.2.1.grow hb) (And.intro (HM.out.2.2.2.1.grow hb) (bel_trans HM.out.2.2.2.2 hb)))
    clear hb
    cases ok with
    | false =>
     have HRM : Hid (readM l = (0, 4)) := Lib.hid (readM_bad (i := i + 1) ((rd_take HCC.out).trans (by rw [HM.out.1]; exact rdB_bad HU46.out (.inl (by rw [← HDD.out])))))
     have k2 := HM4.out.1
     have r2 := k2.row; have l2 := k2.lt
     have cF := (k2.rowS Z8a).cell
     have hb5 := bel_row HM4.out.2.2 (g := w.heap.size) (Nat.le_refl _) Z8a
     rw [← k2.rw]
     clear k2
     go_wp2_with fail
     exact bodyPost_ret (v := .tuple #[solV 0, .int .i64 4]) (by rw [HZV.out]; simp [results, Tryz.results139, go_sem, cF]) rfl ⟨by rw [HRM.out], hb5⟩
    | true =>
     by_cases hz7 : z ≤ 7
     ·have hzI : ¬ (7 : Int) < (z : Int) := by omega
      have hz8 : (z : Int) < 8 := by omega
      obtain ⟨p, hp⟩ : ∃ p, p = plN s z := ⟨_, rfl⟩
      have HP := Lib.hid hp
      have hgz : (#[.int .u64 (pl s 0), .int .u64 (pl s 1), .int .u64 (pl s 2), .int .u64 (pl s 3), .int .u64 (pl s 4), .int .u64 (pl s 5), .int .u64 (pl s 6), .int .u64 (pl s 7)] : Array Value)[z]? = some (.int .u64 ((p : Nat) : Int)) := by rw [hp, ← pl_plN]; exact getZ s (by omega)
      have HGZ := Lib.hid hgz
      clear hp hgz
      by_cases hp60 : 1152921504606846976 ≤ p
      ·have hpI : (1152921504606846976 : Int) ≤ (p : Int) := by omega
       have kk := HM4.out.2.1.rowO (g := w.heap.size) Z8a (by omega)
       have cz : (w4.setRow w.heap.size Z8a).cell? ⟨w.heap.size + 1, z, none⟩ = some (.int .u64 ((p : Nat) : Int)) := by rw [kk.cell]; exact HGZ.out
       have lz := kk.lt
       clear kk
       have HRM : Hid (readM l = (0, 4)) := Lib.hid (readM_bad (i := i + 1) ((rd_take HCC.out).trans (by rw [HM.out.1]; exact rdB_bad HU46.out (.inr (.inr (by rw [← HP.out]; exact hp60))))))
       have k2 := HM4.out.1
       have r2 := k2.row; have l2 := k2.lt
       have cF := (k2.rowS Z8a).cell
       have hb5 := bel_row HM4.out.2.2 (g := w.heap.size) (Nat.le_refl _) Z8a
       rw [← k2.rw]
       clear k2
       go_wp2_with fail
       exact bodyPost_ret (v := .tuple #[solV 0, .int .i64 4]) (by rw [HZV.out]; simp [results, Tryz.results139, go_sem, cF]) rfl ⟨by rw [HRM.out], hb5⟩
      ·have hpB : decide ((1152921504606846976 : Int) ≤ (p : Int)) = false := decide_eq_false (by omega)
       have hpI := Lib.hid hp60
       have cz : w4.cell? ⟨w.heap.size + 1, z, none⟩ = some (.int .u64 ((p : Nat) : Int)) := by rw [HM4.out.2.1.cell]; exact HGZ.out
       have lz := HM4.out.2.1.lt
       have fz := HM4.out.2.1.free z
       have hD16 : D < 16 := by have h := digV_lt (c := c) (by rw [← HDD.out]); rw [← HDD.out] at h; exact h
       obtain ⟨V, hV⟩ : ∃ V, V = 16 * p + D := ⟨_, rfl⟩
       have hVlt : V < 18446744073709551616 := by omega
       have hw1 : IntKind.u64.wrap (16 * (p : Int)) = 16 * (p : Int) := IntWalk.u64_in _ ⟨by omega, by omega⟩
       have hw2 : IntKind.u64.wrap (16 * (p : Int) + (D : Int)) = ((V : Nat) : Int) := by rw [IntWalk.u64_in _ ⟨by omega, by omega⟩]; omega
       have HF : Hid ((l.take (i + 1)).foldl rdB (some (0, 0)) = some (z, setP s z V)) := Lib.hid ((rd_take HCC.out).trans (by rw [HM.out.1, rdB_ok HU46.out (by rw [← HDD.out]) hz7 (by rw [← HP.out]; omega), ← HP.out, ← HDD.out, hV]))
       have HN150 := Lib.hid HM.out.2.1
       obtain ⟨Q, hQ⟩ : ∃ Q, Q = setP s z V := ⟨_, rfl⟩
       rw [← hQ] at HF
       have HB2 : Hid (Blk (w4.setCell ⟨w.heap.size + 1, z, none⟩ (.int .u64 ((V : Nat) : Int))) w.heap.size Z8a 24 ∧ Blk (w4.setCell ⟨w.heap.size + 1, z, none⟩ (.int .u64 ((V : Nat) : Int))) (w.heap.size + 1) #[.int .u64 (pl Q 0), .int .u64 (pl Q 1), .int .u64 (pl Q 2), .int .u64 (pl Q 3), .int .u64 (pl Q 4), .int .u64 (pl Q 5), .int .u64 (pl Q 6), .int .u64 (pl Q 7)] 24 ∧ Below w.heap.size w (w4.setCell ⟨w.heap.size + 1, z, none⟩ (.int .u64 ((V : Nat) : Int)))) := Lib.hid ⟨HM4.out.1.other (by simp) _, by rw [hQ, ← cells_setP s (by omega) hVlt]; exact HM4.out.2.1.set z _, bel_set HM4.out.2.2 (by simp) _⟩
       have hn1 := h1
       clear HM HM4 hQ hV hVlt hD16 hp60
       go_wp2_with fail
       go_roundw
       case rel => exact ⟨i + 1, z, Q, by omega, by go_num, rfl, by omega, Lib.hid ⟨HF.out, fun h => by omega, HB2.out⟩⟩
       case measure => simp [intOf]; omega
     ·have hzI : (7 : Int) < (z : Int) := by omega
      have HRM : Hid (readM l = (0, 4)) := Lib.hid (readM_bad (i := i + 1) ((rd_take HCC.out).trans (by rw [HM.out.1]; exact rdB_bad HU46.out (.inr (.inl (by omega))))))
      have k2 := HM4.out.1
      have r2 := k2.row; have l2 := k2.lt
      have cF := (k2.rowS Z8a).cell
      have hb5 := bel_row HM4.out.2.2 (g := w.heap.size) (Nat.le_refl _) Z8a
      rw [← k2.rw]
      clear k2
      go_wp2_with fail
      exact bodyPost_ret (v := .tuple #[solV 0, .int .i64 4]) (by rw [HZV.out]; simp [results, Tryz.results139, go_sem, cF]) rfl ⟨by rw [HRM.out], hb5⟩
  ·have hcase : (n ≤ 150 ∧ i = n) ∨ (150 < n ∧ i = 0) := by
    by_cases h : n ≤ 150
    ·exact .inl ⟨h, by omega⟩
    ·exact .inr ⟨by omega, HM.out.2.1 (by omega)⟩
   have hno : wrS s ≠ l → readM l = (0, 4) := fun hne => readM_no fun s' e => by
    have h1 := wrS_len s'
    rw [e, ← HN.out] at h1
    have h2 : (l.take i).foldl rdB (some (0, 0)) = some (z, s) := HM.out.1
    have h3 : l.take i = l := List.take_of_length_le (by rw [← HN.out]; omega)
    rw [h3] at h2
    have h2' : rdF l = some (z, s) := by unfold rdF; exact h2
    have h4 := rd_wr s'
    rw [e] at h4
    have h5 : some (lastP s' 8, s') = some (z, s) := h4.symm.trans h2'
    have h6 := congrArg Prod.snd (Option.some.inj h5)
    exact hne (by rw [← e]; exact congrArg wrS h6.symm)
   have hyes : wrS s = l → readM l = (s, 0) := fun e => by rw [← e]; exact readM_wr s
   have HR := Lib.hid (And.intro hno hyes)
   clear hno hyes hlt hzi hl2
   have c4 := HM.out.2.2.2.1.cell; have l4 := HM.out.2.2.2.1.lt
   rcases hcase with ⟨g1, rfl⟩ | ⟨g1, g2⟩
   all_goals
    first | have hnI : ¬ ((n : Int) ≤ 150) := by omega | skip
    first | have hiI : (i : Int) < (n : Int) := by omega | skip
    clear g1
    try clear g2
    go_wp2_with fail
    refine (refWrite_spec s _).mono ?_
    rintro e w5 ⟨rfl, hb5⟩
    have k0 := HM.out.2.2.1.grow hb5
    have k1 := HM.out.2.2.2.1.grow hb5
    have hbw := bel_trans HM.out.2.2.2.2 hb5
    obtain ⟨C, hC⟩ : ∃ C : ByteArray, C = ⟨(wrS s).toArray⟩ := ⟨_, rfl⟩
    rw [← hC]
    have hcb : C = B ↔ wrS s = l := by
     rw [hC, HBB.out]
     constructor
     ·intro h; simpa using congrArg (fun x => x.data.toList) h
     ·intro h; rw [h]
    clear hC hb5 c4 l4
    by_cases he : C = B
    ·have HY := Lib.hid (HR.out.2 (hcb.1 he))
     subst he
     clear hcb
     have kk := k1.rowO (g := w.heap.size) Z8a (by omega)
     have l4 := kk.lt
     have q0 : (w5.setRow w.heap.size Z8a).cell? ⟨w.heap.size + 1, 0, none⟩ = some (.int .u64 (pl s 0)) := by rw [kk.cell]; rfl
     have q1 : (w5.setRow w.heap.size Z8a).cell? ⟨w.heap.size + 1, 1, none⟩ = some (.int .u64 (pl s 1)) := by rw [kk.cell]; rfl
     have q2 : (w5.setRow w.heap.size Z8a).cell? ⟨w.heap.size + 1, 2, none⟩ = some (.int .u64 (pl s 2)) := by rw [kk.cell]; rfl
     have q3 : (w5.setRow w.heap.size Z8a).cell? ⟨w.heap.size + 1, 3, none⟩ = some (.int .u64 (pl s 3)) := by rw [kk.cell]; rfl
     have q4 : (w5.setRow w.heap.size Z8a).cell? ⟨w.heap.size + 1, 4, none⟩ = some (.int .u64 (pl s 4)) := by rw [kk.cell]; rfl
     have q5 : (w5.setRow w.heap.size Z8a).cell? ⟨w.heap.size + 1, 5, none⟩ = some (.int .u64 (pl s 5)) := by rw [kk.cell]; rfl
     have q6 : (w5.setRow w.heap.size Z8a).cell? ⟨w.heap.size + 1, 6, none⟩ = some (.int .u64 (pl s 6)) := by rw [kk.cell]; rfl
     have q7 : (w5.setRow w.heap.size Z8a).cell? ⟨w.heap.size + 1, 7, none⟩ = some (.int .u64 (pl s 7)) := by rw [kk.cell]; rfl
     clear kk
     have r2 := k0.row; have l2 := k0.lt
     have cF := (k0.rowS #[.int .u64 (pl s 0), .int .u64 (pl s 1), .int .u64 (pl s 2), .int .u64 (pl s 3), .int .u64 (pl s 4), .int .u64 (pl s 5), .int .u64 (pl s 6), .int .u64 (pl s 7)]).cell
     have hb6 := bel_row hbw (g := w.heap.size) (Nat.le_refl _) #[.int .u64 (pl s 0), .int .u64 (pl s 1), .int .u64 (pl s 2), .int .u64 (pl s 3), .int .u64 (pl s 4), .int .u64 (pl s 5), .int .u64 (pl s 6), .int .u64 (pl s 7)]
     rw [← k0.rw]
     clear k0 k1
     go_wp2_with fail
     exact bodyPost_ret (v := .tuple #[solV s, .int .i64 0]) (by simp [results, Tryz.results139, go_sem, cF]) rfl ⟨by rw [HY.out], hb6⟩
    ·have HY := Lib.hid (HR.out.1 (fun h => he (hcb.2 h)))
     have htl : (C.toList == B.toList) = false := by
      rw [beq_eq_false_iff_ne, ByteArray.toList_eq, ByteArray.toList_eq]
      intro h
      refine he ?_
      rcases C with ⟨⟨c⟩⟩
      rcases B with ⟨⟨b⟩⟩
      have h' : c = b := h
      rw [h']
     clear hcb
     have r2 := k0.row; have l2 := k0.lt
     have cF := (k0.rowS Z8a).cell
     have hb6 := bel_row hbw (g := w.heap.size) (Nat.le_refl _) Z8a
     rw [← k0.rw]
     clear k0 k1
     go_wp2_with fail
     exact bodyPost_ret (v := .tuple #[solV 0, .int .i64 4]) (by rw [HZV.out]; simp [results, Tryz.results139, go_sem, cF]) rfl ⟨by rw [HY.out], hb6⟩
end Go.Proofs.YtccnkebkgegohaaGreatDoor.Ln
end
section
namespace Go.Proofs.YtccnkebkgegohaaGreatDoor.Ln
open Go.RowKit Go.Rel Go.Draw Go.Solid
set_option maxRecDepth 100000
abbrev dotU : ByteArray := ⟨#[46]⟩
theorem idxD_dot : ∀ (p r : List UInt8), (∀ c ∈ p, c ≠ 46) → Lib.index (p ++ 46 :: r) [46] = (p.length : Int)
 | [], r, _ => by
  show Lib.index (46 :: r) [46] = 0
  unfold Lib.index
  rw [if_pos (by simp [List.isPrefixOf])]
 | c :: p, r, h => by
  have ih := idxD_dot p r (fun d hd => h d (by simp [hd]))
  have hc : c ≠ 46 := h c (by simp)
  show Lib.index (c :: (p ++ 46 :: r)) [46] = _
  unfold Lib.index
  rw [if_neg (by simp [List.isPrefixOf]; exact fun e => hc e.symm), ih, if_neg (by simp; try omega)]
  try simp
theorem idxD_none : ∀ (p : List UInt8), (∀ c ∈ p, c ≠ 46) → Lib.index p [46] = -1
 | [], _ => by unfold Lib.index; simp
 | c :: p, h => by
  have ih := idxD_none p (fun d hd => h d (by simp [hd]))
  have hc : c ≠ 46 := h c (by simp)
  unfold Lib.index
  rw [if_neg (by simp [List.isPrefixOf]; exact fun e => hc e.symm), ih, if_pos (by simp)]
def joinD : List (List UInt8) → List UInt8
 | [] => []
 | [p] => p
 | p :: q :: ps => p ++ 46 :: joinD (q :: ps)
theorem split_join : ∀ (ps : List (List UInt8)) (p : List UInt8), (∀ q ∈ p :: ps, ∀ c ∈ q, c ≠ 46) → Lib.count (joinD (p :: ps)) [46] = ps.length ∧ Lib.splitK [46] 0 ps.length (joinD (p :: ps)) = p :: ps
 | [], p, h => by
  have hi := idxD_none p (h p (by simp))
  exact ⟨Lib.count_miss hi, rfl⟩
 | q :: ps, p, h => by
  have ih := split_join ps q (fun x hx => h x (by simp only [List.mem_cons] at hx ⊢; exact .inr hx))
  have hi := idxD_dot p (joinD (q :: ps)) (h p (by simp))
  have hd : (p ++ 46 :: joinD (q :: ps)).drop (p.length + 1) = joinD (q :: ps) := by
   rw [← List.drop_drop, List.drop_left]; rfl
  constructor
  ·show Lib.count (p ++ 46 :: joinD (q :: ps)) [46] = _
   rw [Lib.count_hit (by simp) hi]
   show 1 + Lib.count ((p ++ 46 :: joinD (q :: ps)).drop (p.length + 1)) [46] = _
   rw [hd, ih.1, List.length_cons]; omega
  ·show Lib.splitK [46] 0 (ps.length + 1) (p ++ 46 :: joinD (q :: ps)) = _
   unfold Lib.splitK
   rw [hi, if_neg (by simp; try omega)]
   show (p ++ 46 :: joinD (q :: ps)).take ((p.length : Int).toNat + 0) :: Lib.splitK [46] 0 ps.length ((p ++ 46 :: joinD (q :: ps)).drop ((p.length : Int).toNat + 1)) = _
   rw [Int.toNat_natCast, hd, ih.2, Nat.add_zero, List.take_left]
theorem joinD_snoc : ∀ (ps : List (List UInt8)) (p q : List UInt8), joinD ((p :: ps) ++ [q]) = joinD (p :: ps) ++ 46 :: q
 | [], p, q => rfl
 | r :: ps, p, q => by
  have ih := joinD_snoc ps r q
  show p ++ 46 :: joinD ((r :: ps) ++ [q]) = (p ++ 46 :: joinD (r :: ps)) ++ 46 :: q
  rw [ih]; simp
theorem range_map_cons (f : Nat → List UInt8) : ∀ k, ∃ ps, (List.range (k + 1)).map f = f 0 :: ps := fun k => by
 rw [List.range_succ_eq_map, List.map_cons]
 exact ⟨_, rfl⟩
theorem wrP_join (s : Sol) : ∀ k, wrP s k = joinD ((List.range (k + 1)).map fun j => hexS (plN s j))
 | 0 => rfl
 | k + 1 => by
  have ih := wrP_join s k
  obtain ⟨ps, hps⟩ := range_map_cons (fun j => hexS (plN s j)) k
  rw [List.range_succ, List.map_append, hps]
  show _ = joinD ((hexS (plN s 0) :: ps) ++ [hexS (plN s (k + 1))])
  rw [joinD_snoc, ← hps, ← ih]; rfl
theorem hexS_nodot : ∀ (n u : Nat), u < 16 ^ (n + 1) → u < 18446744073709551616 → ∀ c ∈ hexS u, c ≠ 46
 | 0, u, h, _, c, hc => by
  have hu : u < 16 := by simpa using h
  rw [hexS_small hu] at hc
  rw [List.mem_singleton.1 hc]
  exact (digV_hex ⟨u, hu⟩).2
 | n + 1, u, h, h64, c, hc => by
  by_cases hs : u < 16
  ·rw [hexS_small hs] at hc
   rw [List.mem_singleton.1 hc]
   exact (digV_hex ⟨u, hs⟩).2
  ·rw [hexS_step (by omega) h64] at hc
   rcases List.mem_append.1 hc with hc | hc
   ·exact hexS_nodot n (u / 16) (by rw [Nat.pow_succ] at h; omega) (by omega) c hc
   ·rw [List.mem_singleton.1 hc]
    exact (digV_hex ⟨u % 16, Nat.mod_lt _ (by decide)⟩).2
theorem plN_64 (s : Sol) (k : Nat) : plN s k < 18446744073709551616 := (plv s k).isLt
theorem hexS_inj {a b : Nat} (ha : a < 18446744073709551616) (hb : b < 18446744073709551616) (h : hexS a = hexS b) : a = b := by
 have h1 := rd_hex 0 (by decide) 15 a 0 ha ha (plN_zero 0)
 have h2 := rd_hex 0 (by decide) 15 b 0 hb hb (plN_zero 0)
 rw [h, h2] at h1
 have h3 := congrArg (fun x => plN x.2 0) (Option.some.inj h1)
 simp only [plN_setP 0 a (show 0 < 8 by decide) ha, plN_setP 0 b (show 0 < 8 by decide) hb, if_true] at h3
 exact h3.symm
/-- the pieces of a text -/
def pcs (l : List UInt8) : List (List UInt8) := Lib.splitK [46] 0 (Lib.count l [46]) l
theorem pcs_wr (s : Sol) : pcs (wrS s) = (List.range (lastP s 8 + 1)).map fun j => hexS (plN s j) := by
 obtain ⟨ps, hps⟩ := range_map_cons (fun j => hexS (plN s j)) (lastP s 8)
 have hall : ∀ q ∈ hexS (plN s 0) :: ps, ∀ c ∈ q, c ≠ 46 := by
  rw [← hps]
  intro q hq
  obtain ⟨j, _, rfl⟩ := List.mem_map.1 hq
  exact hexS_nodot 15 _ (plN_64 s j) (plN_64 s j)
 obtain ⟨h1, h2⟩ := split_join ps _ hall
 have hw : wrS s = joinD (hexS (plN s 0) :: ps) := by
  rw [← hps]; exact wrP_join s _
 unfold pcs
 rw [hw, h1, h2, hps]
theorem pcs_B (l : List UInt8) : Lib.splitB dotU 0 (Lib.countB ⟨l.toArray⟩ dotU) ⟨l.toArray⟩ = (pcs l).map fun p => (⟨p.toArray⟩ : ByteArray) := by
 have h := Lib.splitB_data dotU 0 (Lib.countB ⟨l.toArray⟩ dotU) ⟨l.toArray⟩
 have h2 : (Lib.splitB dotU 0 (Lib.countB ⟨l.toArray⟩ dotU) ⟨l.toArray⟩).map (·.data.toList) = pcs l := h
 rw [← h2, List.map_map]
 conv => lhs; rw [← List.map_id (Lib.splitB dotU 0 (Lib.countB ⟨l.toArray⟩ dotU) ⟨l.toArray⟩)]
 refine List.map_congr_left fun x _ => ?_
 rfl
theorem pcs_len (l : List UInt8) : (pcs l).length = Lib.countB ⟨l.toArray⟩ dotU + 1 := by
 have h := Lib.splitB_all dotU (by decide) 0 (Lib.countB ⟨l.toArray⟩ dotU) ⟨l.toArray⟩ rfl
 rw [pcs_B, List.length_map] at h
 exact h
theorem pcs_get {s : Sol} {j : Nat} {p : List UInt8} (h : (pcs (wrS s))[j]? = some p) : j ≤ lastP s 8 ∧ p = hexS (plN s j) := by
 rw [pcs_wr, List.getElem?_map] at h
 by_cases hj : j < lastP s 8 + 1
 ·rw [List.getElem?_range hj] at h
  exact ⟨by omega, (Option.some.inj h).symm⟩
 ·rw [List.getElem?_eq_none (by simpa using hj)] at h; cases h
theorem read_many {l : List UInt8} (h : 8 < (pcs l).length) : readM l = (0, 4) := readM_no fun s e => by
 rw [← e, pcs_wr, List.length_map, List.length_range] at h
 have := lastP_seven s
 omega
theorem read_bad {l : List UInt8} {k : Nat} {p : List UInt8} (h : (pcs l)[k]? = some p) (hp : ∀ u, u < 18446744073709551616 → p ≠ hexS u) : readM l = (0, 4) := readM_no fun s e => by
 rw [← e] at h
 exact hp _ (plN_64 s k) (pcs_get h).2
theorem read_else {l : List UInt8} {out : Sol} (h : ∀ j p, (pcs l)[j]? = some p → p = hexS (plN out j)) (hz : ∀ j, (pcs l).length ≤ j → j < 8 → plN out j = 0) (hne : wrS out ≠ l) : readM l = (0, 4) := readM_no fun s e => by
 refine hne ?_
 rw [← e]
 congr 1
 refine sol_planes fun k hk => ?_
 have hl : (pcs l).length = lastP s 8 + 1 := by rw [← e, pcs_wr, List.length_map, List.length_range]
 by_cases hj : k < lastP s 8 + 1
 ·have h1 : (pcs l)[k]? = some (hexS (plN s k)) := by
   rw [← e, pcs_wr, List.getElem?_map, List.getElem?_range hj]; rfl
  exact (hexS_inj (plN_64 s k) (plN_64 out k) (h k _ h1)).symm
 ·rw [hz k (by omega) hk, lastP_zero s 8 k (by omega) hk]
end Go.Proofs.YtccnkebkgegohaaGreatDoor.Ln
end
section
namespace Go.Proofs.YtccnkebkgegohaaGreatDoor.Ln
open Go.RowKit Go.Rel Go.Draw Go.Solid
set_option maxRecDepth 100000
def stpU (n d : Nat) : Option Nat := if d < 16 ∧ n < 1152921504606846976 then some (16 * n + d) else none
def puB : Option Nat → UInt8 → Option Nat
 | none, _ => none
 | some n, c => if 48 ≤ c.toNat ∧ c.toNat ≤ 57 then stpU n (c.toNat - 48) else if 97 ≤ c.toNat ||| 32 ∧ c.toNat ||| 32 ≤ 122 then stpU n ((c.toNat ||| 32) - 87) else none
def puF (l : List UInt8) : Option Nat := if l = [] then none else l.foldl puB (some 0)
theorem puB_none : ∀ l : List UInt8, l.foldl puB none = none
 | [] => rfl
 | c :: l => by rw [List.foldl_cons]; exact puB_none l
theorem puB_hex {n : Nat} (hn : n < 1152921504606846976) : ∀ r, r < 16 → puB (some n) (hexD r) = some (16 * n + r) := by
 intro r hr
 have key : ∀ r : Fin 16, (if 48 ≤ (hexD r.val).toNat ∧ (hexD r.val).toNat ≤ 57 then some ((hexD r.val).toNat - 48) else if 97 ≤ (hexD r.val).toNat ||| 32 ∧ (hexD r.val).toNat ||| 32 ≤ 122 then some (((hexD r.val).toNat ||| 32) - 87) else none) = some r.val := by decide +kernel
 have h := key ⟨r, hr⟩
 simp only at h
 have hs : ∀ d, d = r → stpU n d = some (16 * n + r) := fun d e => by subst e; unfold stpU; rw [if_pos ⟨hr, hn⟩]
 show (if 48 ≤ (hexD r).toNat ∧ (hexD r).toNat ≤ 57 then stpU n ((hexD r).toNat - 48) else if 97 ≤ (hexD r).toNat ||| 32 ∧ (hexD r).toNat ||| 32 ≤ 122 then stpU n (((hexD r).toNat ||| 32) - 87) else none) = _
 split
 ·next h1 => rw [if_pos h1] at h; exact hs _ (Option.some.inj h)
 ·next h1 =>
  rw [if_neg h1] at h
  split
  ·next h2 => rw [if_pos h2] at h; exact hs _ (Option.some.inj h)
  ·next h2 => rw [if_neg h2] at h; cases h
theorem pu_fold : ∀ (n u : Nat), u < 16 ^ (n + 1) → u < 18446744073709551616 → (hexS u).foldl puB (some 0) = some u
 | 0, u, h, _ => by
  have hu : u < 16 := by simpa using h
  rw [hexS_small hu, List.foldl_cons, List.foldl_nil, puB_hex (by decide) u hu]; simp
 | n + 1, u, h, h64 => by
  by_cases hs : u < 16
  ·rw [hexS_small hs, List.foldl_cons, List.foldl_nil, puB_hex (by decide) u hs]; simp
  ·rw [hexS_step (by omega) h64, List.foldl_append, pu_fold n (u / 16) (by rw [Nat.pow_succ] at h; omega) (by omega), List.foldl_cons, List.foldl_nil, puB_hex (by omega) _ (Nat.mod_lt _ (by decide))]
   congr 1; omega
theorem hexS_ne (u : Nat) : hexS u ≠ [] := by
 unfold hexS
 rw [hexN]
 split <;> simp
theorem pu_hex {u : Nat} (h : u < 18446744073709551616) : puF (hexS u) = some u := by
  unfold puF
  rw [if_neg (hexS_ne u)]
  exact pu_fold 15 u (by have : (16 : Nat) ^ (15 + 1) = 18446744073709551616 := by decide
                         omega) h
theorem stpU_lt {n d v : Nat} (h : stpU n d = some v) : v < 18446744073709551616 := by
 unfold stpU at h
 split at h
 ·next h1 => have := Option.some.inj h; omega
 ·cases h
theorem puB_lt {o : Option Nat} {c : UInt8} {v : Nat} (h : puB o c = some v) : v < 18446744073709551616 := by
 cases o with
 | none => cases h
 | some n =>
  have h' : (if 48 ≤ c.toNat ∧ c.toNat ≤ 57 then stpU n (c.toNat - 48) else if 97 ≤ c.toNat ||| 32 ∧ c.toNat ||| 32 ≤ 122 then stpU n ((c.toNat ||| 32) - 87) else none) = some v := h
  split at h'
  ·exact stpU_lt h'
  ·split at h'
   ·exact stpU_lt h'
   ·cases h'
theorem pu_lt : ∀ (l : List UInt8) (n v : Nat), n < 18446744073709551616 → l.foldl puB (some n) = some v → v < 18446744073709551616
 | [], n, v, hn, h => by cases h; exact hn
 | c :: l, n, v, _, h => by
  rw [List.foldl_cons] at h
  cases hc : puB (some n) c with
  | none => rw [hc, puB_none] at h; cases h
  | some x => rw [hc] at h; exact pu_lt l x v (puB_lt hc) h
theorem puF_lt {l : List UInt8} {v : Nat} (h : puF l = some v) : v < 18446744073709551616 := by
 unfold puF at h
 split at h
 ·cases h
 ·exact pu_lt l 0 v (by decide) h
theorem pu_bad {l : List UInt8} {i : Nat} {n : Nat} {c : UInt8} (h1 : (l.take i).foldl puB (some 0) = some n) (hc : l[i]? = some c) (h2 : puB (some n) c = none) : puF l = none := by
 unfold puF
 split
 ·rfl
 ·rw [← List.take_append_drop (i + 1) l, List.foldl_append, List.take_add_one, hc, List.foldl_append, h1]
  show (l.drop (i + 1)).foldl puB (puB (some n) c) = none
  rw [h2, puB_none]
theorem pu_step {l : List UInt8} {i : Nat} {n : Nat} {c : UInt8} (h1 : (l.take i).foldl puB (some 0) = some n) (hc : l[i]? = some c) : (l.take (i + 1)).foldl puB (some 0) = puB (some n) c := by
 rw [List.take_add_one, hc, List.foldl_append, h1]; rfl
theorem low_or : ∀ c : Fin 256, bits .or .u8 ((c.val : Nat) : Int) 32 = ((c.val ||| 32 : Nat) : Int) ∧ c.val ||| 32 < 256 := by decide +kernel
theorem low_let : ∀ u : Fin 256, 97 ≤ u.val ||| 32 → u.val ||| 32 ≤ 122 → 57 < u.val ∧ u.val ≠ 95 := by decide +kernel
theorem u8_in (x : Int) (h0 : 0 ≤ x) (h1 : x < 256) : IntKind.u8.wrap x = x := by
 unfold IntKind.wrap
 simp [IntKind.bits, IntKind.signed]
 omega
/-- what the inner one answers -/
def PuI (w : World) (l : List UInt8) (e : Ending) (w' : World) : Prop := Below w.heap.size w w' ∧ ((∃ n : Nat, puF l = some n ∧ e = .returned (.tuple #[.int .u64 ((n : Nat) : Int), .nilIface])) ∨ (puF l = none ∧ ∃ (x code : Int), (code = 1 ∨ code = 2) ∧ e = .returned (.tuple #[.int .u64 x, .iface 245 (.int .i64 code)])))
set_option maxHeartbeats 16000000 in
theorem parse16I (l : List UInt8) (hl : l.length ≤ 1000) (w : World) : Calls Tryz.prog 237 #[.string ⟨l.toArray⟩, .int .i64 16, .int .i64 64] w (PuI w l) := by
  have c1 : IntKind.u64.wrap 64 = 64 := by kernel_rfl
  have c2 : IntKind.u8.wrap 16 = 16 := by kernel_rfl
  have c3 : IntKind.u64.wrap 16 = 16 := by kernel_rfl
  have c4 : IntKind.u64.wrap 18446744073709551616 = 0 := by kernel_rfl
  have c5 : IntKind.u64.wrap (-1) = 18446744073709551615 := by kernel_rfl
  obtain ⟨B, hB⟩ : ∃ B : ByteArray, B = ⟨l.toArray⟩ := ⟨_, rfl⟩
  have hcv := Lib.run_convert_string_bytes (P := Tryz.prog) w 9 72 5 B (u := .string) Tryz.underlying9 Tryz.underlying72 Tryz.underlying5
  have hBc : ∀ j, j < l.length → (Lib.bytesWorld w 5 B).cell? ⟨w.heap.size, j, none⟩ = some (.int .u8 (l.getD j 0).toNat) := fun j hj => by
    have := Lib.bytesWorld_cell w 5 B j (by rw [hB]; exact hj)
    rw [hB] at this ⊢
    exact this
  have hBl : Below w.heap.size w (Lib.bytesWorld w 5 B) := ⟨rfl, rfl, rfl, by rw [Lib.bytesWorld_size]; omega, fun k hk => Lib.bytesWorld_at_old _ _ _ _ hk⟩
  have hsz : B.size = l.length := by rw [hB]; rfl
  have hlt : w.heap.size < (Lib.bytesWorld w 5 B).heap.size := by rw [Lib.bytesWorld_size]; omega
  obtain ⟨W1, hW1⟩ : ∃ W1, W1 = Lib.bytesWorld w 5 B := ⟨_, rfl⟩
  rw [← hW1] at hcv hBc hBl hlt
  by_cases hne : l = []
  · have hbe : B.toList.isEmpty = true := by rw [ByteArray.toList_eq, hB, hne]; rfl
    have HP : Hid (puF l = none) := Lib.hid (by unfold puF; rw [if_pos hne])
    rw [← hB]
    clear hBc hBl hW1 hB hne hl hsz hlt hcv
    go_enter Tryz.func237, Tryz.ntmps237
    go_wp2_with fail
    exact bodyPost_ret (v := .tuple #[.int .u64 0, .iface 245 (.int .i64 2)]) (by simp [results, Tryz.results237, go_sem]) rfl ⟨Below.refl _ _, .inr ⟨HP.out, 0, 2, .inr rfl, rfl⟩⟩
  · have hbe : B.toList.isEmpty = false := by
      rw [ByteArray.toList_eq, hB]
      cases l with
      | nil => exact absurd rfl hne
      | cons _ _ => rfl
    rw [← hB]
    obtain ⟨L, hLn⟩ : ∃ n, n = l.length := ⟨_, rfl⟩
    rw [← hLn] at hsz hl
    rw [hsz] at hcv
    have HH := Lib.hid (And.intro hBc (And.intro hLn hne))
    have HB := Lib.hid hBl
    clear hBc hBl hW1 hB hLn hne hsz
    go_enter Tryz.func237, Tryz.ntmps237
    go_wp2_with fail
    go_loopw [12, 13, 101] (fun uv nv iv wx => uv = .bool false ∧ ∃ (i n : Nat), i ≤ L ∧ iv = .int .i64 i ∧ nv = .int .u64 n ∧ Hid ((l.take i).foldl puB (some 0) = some n ∧ n < 18446744073709551616) ∧ wx = W1) (fun _ _ iv _ => L - (intOf iv).toNat)
    case atStart => exact ⟨rfl, 0, 0, Nat.zero_le _, rfl, rfl, Lib.hid ⟨rfl, by decide⟩, rfl⟩
    case round =>
      obtain ⟨rfl, i, n, hi, rfl, rfl, HN, hWr⟩ := hrel
      subst hWr
      by_cases hil : i < L
      · obtain ⟨c, hc⟩ : ∃ c, l[i]? = some c := ⟨_, List.getElem?_eq_getElem (by rw [← HH.out.2.1]; exact hil)⟩
        have hcell := HH.out.1 i (by rw [← HH.out.2.1]; exact hil)
        rw [show l.getD i 0 = c by rw [List.getD_eq_getElem?_getD, hc]; rfl] at hcell
        have hn64 := HN.out.2
        have hu := c.toNat_lt
        obtain ⟨u, huc⟩ : ∃ u, u = c.toNat := ⟨_, rfl⟩
        have hfold : puB (some n) c = if 48 ≤ u ∧ u ≤ 57 then stpU n (u - 48) else if 97 ≤ u ||| 32 ∧ u ||| 32 ≤ 122 then stpU n ((u ||| 32) - 87) else none := by rw [huc]; rfl
        rw [← huc] at hcell hu
        obtain ⟨hlo, hlo2⟩ := low_or ⟨u, hu⟩
        simp only at hlo hlo2
        have hlet := low_let ⟨u, hu⟩
        simp only at hlet
        obtain ⟨Lo, hLo⟩ : ∃ x, x = u ||| 32 := ⟨_, rfl⟩
        rw [← hLo] at hlo hlo2 hlet hfold
        have HL : Hid (∀ W, Calls Tryz.prog 252 #[.int .u8 ((u : Nat) : Int)] W fun e w' => e = .returned (.int .u8 ((Lo : Nat) : Int)) ∧ w' = W) := Lib.hid fun W => by
          have := Tryz.internal_strconv_lower ((u : Nat) : Int) W
          rw [hlo] at this; exact this
        clear hlo hLo huc
        by_cases hA : 48 ≤ u ∧ u ≤ 57
        · obtain ⟨d, hd⟩ : ∃ d, d = u - 48 := ⟨_, rfl⟩
          have hpu : puB (some n) c = stpU n d := by rw [hfold, if_pos hA, hd]
          have hA1 : (48 : Int) ≤ (u : Int) := by omega
          have hA2 : (u : Int) ≤ 57 := by omega
          have h95 : ¬ ((u : Int) = 95) := by omega
          have w1 : IntKind.u8.wrap ((u : Int) - 48) = ((d : Nat) : Int) := by rw [u8_in _ (by omega) (by omega)]; omega
          clear hfold hlet hlo2
          by_cases h16 : d < 16
          · have h16I : ¬ (16 : Int) ≤ (d : Int) := by omega
            have wd : IntKind.u64.wrap (d : Int) = (d : Int) := IntWalk.u64_in _ ⟨by omega, by omega⟩
            by_cases h60 : n < 1152921504606846976
            · have hst : puB (some n) c = some (16 * n + d) := (hpu).trans (by unfold stpU; rw [if_pos ⟨h16, h60⟩])
              obtain ⟨v, hv⟩ : ∃ v, v = 16 * n + d := ⟨_, rfl⟩
              obtain ⟨m, hm⟩ : ∃ m, m = 16 * n := ⟨_, rfl⟩
              have hB60 : decide ((1152921504606846976 : Int) ≤ (n : Int)) = false := decide_eq_false (by omega)
              have w2 : IntKind.u64.wrap ((n : Int) * 16) = ((m : Nat) : Int) := by rw [IntWalk.u64_in _ ⟨by omega, by omega⟩]; omega
              have w3 : IntKind.u64.wrap ((m : Int) + (d : Int)) = ((v : Nat) : Int) := by rw [IntWalk.u64_in _ ⟨by omega, by omega⟩]; omega
              have hlm : m ≤ v := by omega
              have hmx : decide ((18446744073709551615 : Int) < (v : Int)) = false := decide_eq_false (by omega)
              rw [← hv] at hst
              have HS := Lib.hid (And.intro (pu_step HN.out.1 hc) hst)
              clear hst hpu hv hm h60 h16 hc hd
              go_wp2_with fail
              refine ⟨⟨rfl, i + 1, v, by omega, by simp, rfl, Lib.hid ⟨HS.out.1.trans HS.out.2, puB_lt HS.out.2⟩, trivial⟩, ?_⟩
              simp [intOf]; omega
            · have hst : puB (some n) c = none := (hpu).trans (by unfold stpU; rw [if_neg (fun h => h60 h.2)])
              have hB60 : decide ((1152921504606846976 : Int) ≤ (n : Int)) = true := decide_eq_true (by omega)
              have HP := Lib.hid (pu_bad HN.out.1 hc hst)
              clear hst hpu h60 h16 hc hd
              go_wp2_with fail
              exact bodyPost_ret (v := .tuple #[.int .u64 18446744073709551615, .iface 245 (.int .i64 1)]) (by simp [results, Tryz.results237, go_sem]) rfl ⟨HB.out, .inr ⟨HP.out, _, 1, .inl rfl, rfl⟩⟩
          · have h16I : (16 : Int) ≤ (d : Int) := by omega
            have hst : puB (some n) c = none := (hpu).trans (by unfold stpU; rw [if_neg (fun h => h16 h.1)])
            have HP := Lib.hid (pu_bad HN.out.1 hc hst)
            clear hst hpu h16 hc hd
            go_wp2_with fail
            exact bodyPost_ret (v := .tuple #[.int .u64 0, .iface 245 (.int .i64 2)]) (by simp [results, Tryz.results237, go_sem]) rfl ⟨HB.out, .inr ⟨HP.out, 0, 2, .inr rfl, rfl⟩⟩
        · by_cases hBq : 97 ≤ Lo ∧ Lo ≤ 122
          · obtain ⟨d, hd⟩ : ∃ d, d = Lo - 87 := ⟨_, rfl⟩
            have hpu : puB (some n) c = stpU n d := by rw [hfold, if_neg hA, if_pos hBq, hd]
            obtain ⟨h57, hn95⟩ := hlet hBq.1 hBq.2
            have hA1 : (48 : Int) ≤ (u : Int) := by omega
            have hA2 : ¬ ((u : Int) ≤ 57) := by omega
            have h95 : ¬ ((u : Int) = 95) := by omega
            have hB1 : (97 : Int) ≤ (Lo : Int) := by omega
            have hB2 : (Lo : Int) ≤ 122 := by omega
            obtain ⟨d0, hd0⟩ : ∃ d, d = Lo - 97 := ⟨_, rfl⟩
            have w0 : IntKind.u8.wrap ((Lo : Int) - 97) = ((d0 : Nat) : Int) := by rw [u8_in _ (by omega) (by omega)]; omega
            have w1 : IntKind.u8.wrap ((d0 : Int) + 10) = ((d : Nat) : Int) := by rw [u8_in _ (by omega) (by omega)]; omega
            clear hfold hlet hlo2 hd0 h57 hn95
            by_cases h16 : d < 16
            · have h16I : ¬ (16 : Int) ≤ (d : Int) := by omega
              have wd : IntKind.u64.wrap (d : Int) = (d : Int) := IntWalk.u64_in _ ⟨by omega, by omega⟩
              by_cases h60 : n < 1152921504606846976
              · have hst : puB (some n) c = some (16 * n + d) := (hpu).trans (by unfold stpU; rw [if_pos ⟨h16, h60⟩])
                obtain ⟨v, hv⟩ : ∃ v, v = 16 * n + d := ⟨_, rfl⟩
                obtain ⟨m, hm⟩ : ∃ m, m = 16 * n := ⟨_, rfl⟩
                have hB60 : decide ((1152921504606846976 : Int) ≤ (n : Int)) = false := decide_eq_false (by omega)
                have w2 : IntKind.u64.wrap ((n : Int) * 16) = ((m : Nat) : Int) := by rw [IntWalk.u64_in _ ⟨by omega, by omega⟩]; omega
                have w3 : IntKind.u64.wrap ((m : Int) + (d : Int)) = ((v : Nat) : Int) := by rw [IntWalk.u64_in _ ⟨by omega, by omega⟩]; omega
                have hlm : m ≤ v := by omega
                have hmx : decide ((18446744073709551615 : Int) < (v : Int)) = false := decide_eq_false (by omega)
                rw [← hv] at hst
                have HS := Lib.hid (And.intro (pu_step HN.out.1 hc) hst)
                clear hst hpu hv hm h60 h16 hc hd
                go_wp2_with fail
                refine (HL.out _).mono ?_
                rintro e w9 ⟨rfl, rfl⟩
                go_wp2_with fail
                refine (HL.out _).mono ?_
                rintro e w9 ⟨rfl, rfl⟩
                go_wp2_with fail
                refine (HL.out _).mono ?_
                rintro e w9 ⟨rfl, rfl⟩
                go_wp2_with fail
                refine ⟨⟨rfl, i + 1, v, by omega, by simp, rfl, Lib.hid ⟨HS.out.1.trans HS.out.2, puB_lt HS.out.2⟩, trivial⟩, ?_⟩
                simp [intOf]; omega
              · have hst : puB (some n) c = none := (hpu).trans (by unfold stpU; rw [if_neg (fun h => h60 h.2)])
                have hB60 : decide ((1152921504606846976 : Int) ≤ (n : Int)) = true := decide_eq_true (by omega)
                have HP := Lib.hid (pu_bad HN.out.1 hc hst)
                clear hst hpu h60 h16 hc hd
                go_wp2_with fail
                refine (HL.out _).mono ?_
                rintro e w9 ⟨rfl, rfl⟩
                go_wp2_with fail
                refine (HL.out _).mono ?_
                rintro e w9 ⟨rfl, rfl⟩
                go_wp2_with fail
                refine (HL.out _).mono ?_
                rintro e w9 ⟨rfl, rfl⟩
                go_wp2_with fail
                exact bodyPost_ret (v := .tuple #[.int .u64 18446744073709551615, .iface 245 (.int .i64 1)]) (by simp [results, Tryz.results237, go_sem]) rfl ⟨HB.out, .inr ⟨HP.out, _, 1, .inl rfl, rfl⟩⟩
            · have h16I : (16 : Int) ≤ (d : Int) := by omega
              have hst : puB (some n) c = none := (hpu).trans (by unfold stpU; rw [if_neg (fun h => h16 h.1)])
              have HP := Lib.hid (pu_bad HN.out.1 hc hst)
              clear hst hpu h16 hc hd
              go_wp2_with fail
              refine (HL.out _).mono ?_
              rintro e w9 ⟨rfl, rfl⟩
              go_wp2_with fail
              refine (HL.out _).mono ?_
              rintro e w9 ⟨rfl, rfl⟩
              go_wp2_with fail
              refine (HL.out _).mono ?_
              rintro e w9 ⟨rfl, rfl⟩
              go_wp2_with fail
              exact bodyPost_ret (v := .tuple #[.int .u64 0, .iface 245 (.int .i64 2)]) (by simp [results, Tryz.results237, go_sem]) rfl ⟨HB.out, .inr ⟨HP.out, 0, 2, .inr rfl, rfl⟩⟩
          · have hst : puB (some n) c = none := by rw [hfold, if_neg hA, if_neg hBq]
            have HP := Lib.hid (pu_bad HN.out.1 hc hst)
            have k1 : (¬ ((48 : Int) ≤ (u : Int))) ∨ ((48 : Int) ≤ (u : Int) ∧ ¬ ((u : Int) ≤ 57)) := by omega
            have k2 : (¬ ((97 : Int) ≤ (Lo : Int))) ∨ ((97 : Int) ≤ (Lo : Int) ∧ ¬ ((Lo : Int) ≤ 122)) := by omega
            have k3 : (u : Int) = 95 ∨ ¬ ((u : Int) = 95) := by omega
            clear hst hfold hlet hc hA hBq
            rcases k1 with k1 | ⟨k1, k1'⟩ <;> rcases k2 with k2 | ⟨k2, k2'⟩ <;> rcases k3 with k3 | k3
            all_goals first
              | (exfalso; omega)
              | (first | rw [k3] at HL | skip
                 go_wp2_with fail
                 refine (HL.out _).mono ?_
                 rintro e w9 ⟨rfl, rfl⟩
                 go_wp2_with fail
                 first
                   | exact bodyPost_ret (v := .tuple #[.int .u64 0, .iface 245 (.int .i64 2)]) (by simp [results, Tryz.results237, go_sem]) rfl ⟨HB.out, .inr ⟨HP.out, 0, 2, .inr rfl, rfl⟩⟩
                   | (refine (HL.out _).mono ?_
                      rintro e w9 ⟨rfl, rfl⟩
                      go_wp2_with fail
                      exact bodyPost_ret (v := .tuple #[.int .u64 0, .iface 245 (.int .i64 2)]) (by simp [results, Tryz.results237, go_sem]) rfl ⟨HB.out, .inr ⟨HP.out, 0, 2, .inr rfl, rfl⟩⟩))
      · obtain rfl : i = L := by omega
        have HP : Hid (puF l = some n) := Lib.hid (by
          unfold puF
          rw [if_neg HH.out.2.2]
          have := HN.out.1
          rwa [List.take_of_length_le (by rw [← HH.out.2.1]; exact Nat.le_refl _)] at this)
        go_wp2_with fail
        exact bodyPost_ret (v := .tuple #[.int .u64 ((n : Nat) : Int), .nilIface]) (by simp [results, Tryz.results237, go_sem]) rfl ⟨HB.out, .inl ⟨n, HP.out, rfl⟩⟩
end Go.Proofs.YtccnkebkgegohaaGreatDoor.Ln
end
section
namespace Go.Proofs.YtccnkebkgegohaaGreatDoor.Ln
open Go.RowKit Go.Rel Go.Draw Go.Solid
set_option maxRecDepth 100000
theorem bytes_ne {C B : ByteArray} (he : ¬ C = B) : (C.toList == B.toList) = false := by
 rw [beq_eq_false_iff_ne, ByteArray.toList_eq, ByteArray.toList_eq]
 intro h
 refine he ?_
 rcases C with ⟨⟨c⟩⟩
 rcases B with ⟨⟨b⟩⟩
 have h' : c = b := h
 rw [h']
theorem bytes_inj {a b : List UInt8} (h : (⟨a.toArray⟩ : ByteArray) = ⟨b.toArray⟩) : a = b := by
 simpa using congrArg (fun x => x.data.toList) h
def EnvX (W : World) : Prop := (∃ m, W.cell? ⟨0, 0, none⟩ = some (.int .i64 m)) ∧ (∃ t v, W.cell? ⟨1, 0, none⟩ = some (.iface t v)) ∧ (∃ t v, W.cell? ⟨2, 0, none⟩ = some (.iface t v))
theorem EnvX.grow {w w' : World} (h : EnvX w) (hb : Below w.heap.size w w') (_ : 0 ≤ w.heap.size) : EnvX w' := by
 obtain ⟨⟨m, h1⟩, ⟨t, v, h2⟩, ⟨t', v', h3⟩⟩ := h
 exact ⟨⟨m, (hb.cell (block_lt_of_cell h1)).trans h1⟩, ⟨t, v, (hb.cell (block_lt_of_cell h2)).trans h2⟩, ⟨t', v', (hb.cell (block_lt_of_cell h3)).trans h3⟩⟩
theorem EnvX.size {w : World} (_ : EnvX w) : 0 ≤ w.heap.size := Nat.zero_le _
def PuE (w : World) (l : List UInt8) (e : Ending) (w' : World) : Prop := Below w.heap.size w w' ∧ ((∃ n : Nat, puF l = some n ∧ e = .returned (.tuple #[.int .u64 ((n : Nat) : Int), .nilIface])) ∨ (puF l = none ∧ ∃ (x : Int) (t : TypeId) (v : Value), e = .returned (.tuple #[.int .u64 x, .iface t v])))
set_option maxHeartbeats 8000000 in
theorem parse16 (l : List UInt8) (hl : l.length ≤ 1000) (w : World) (hX : EnvX w) : Calls Tryz.prog 212 #[.string ⟨l.toArray⟩, .int .i64 16, .int .i64 64] w (PuE w l) := by
 have H := Lib.hid (parse16I l hl w)
 have HS : Hid (∀ W, Below w.heap.size w W → Calls Tryz.prog 181 #[.string ⟨#[80, 97, 114, 115, 101, 85, 105, 110, 116]⟩, .string ⟨l.toArray⟩, .int .i64 16, .int .i64 64, .iface 245 (.int .i64 2)] W fun e w' => (∃ N, e = .returned (.iface 248 (.pointer (some ⟨N, 0, none⟩)))) ∧ Below W.heap.size W w') := Lib.hid fun W hb => by
  obtain ⟨_, ⟨t, v, h2⟩, _⟩ := hX.grow hb hX.size
  refine (Tryz.strconv_toError_syntax ⟨#[80, 97, 114, 115, 101, 85, 105, 110, 116]⟩ ⟨l.toArray⟩ 16 64 (.iface t v) W (by show l.length ≤ _; omega) h2 (.inr ⟨t, v, rfl⟩)).mono ?_
  rintro e w' ⟨N, h1, _, _, h4⟩
  exact ⟨⟨N, h1⟩, h4⟩
 have HR : Hid (∀ W, Below w.heap.size w W → Calls Tryz.prog 181 #[.string ⟨#[80, 97, 114, 115, 101, 85, 105, 110, 116]⟩, .string ⟨l.toArray⟩, .int .i64 16, .int .i64 64, .iface 245 (.int .i64 1)] W fun e w' => (∃ N, e = .returned (.iface 248 (.pointer (some ⟨N, 0, none⟩)))) ∧ Below W.heap.size W w') := Lib.hid fun W hb => by
  obtain ⟨_, _, ⟨t, v, h2⟩⟩ := hX.grow hb hX.size
  refine (Tryz.strconv_toError_range ⟨#[80, 97, 114, 115, 101, 85, 105, 110, 116]⟩ ⟨l.toArray⟩ 16 64 (.iface t v) W (by show l.length ≤ _; omega) h2 (.inr ⟨t, v, rfl⟩)).mono ?_
  rintro e w' ⟨N, h1, _, _, h4⟩
  exact ⟨⟨N, h1⟩, h4⟩
 clear hX hl
 obtain ⟨B, hB⟩ : ∃ B : ByteArray, B = ⟨l.toArray⟩ := ⟨_, rfl⟩
 rw [← hB] at H HS HR ⊢
 clear hB
 go_enter Tryz.func212, Tryz.ntmps212
 go_wp2_with fail
 refine H.out.mono ?_
 rintro e w1 ⟨hb, ⟨n, hn, rfl⟩ | ⟨hn, x, code, hc, rfl⟩⟩
 ·have H1 := Lib.hid (And.intro hb hn); clear hb hn
  go_wp2_with fail
  exact bodyPost_ret (v := .tuple #[.int .u64 ((n : Nat) : Int), .nilIface]) (by simp [results, Tryz.results212, go_sem]) rfl ⟨H1.out.1, .inl ⟨n, H1.out.2, rfl⟩⟩
 ·have H1 := Lib.hid (And.intro hb hn); clear hb hn
  rcases hc with rfl | rfl
  ·go_wp2_with fail
   refine (HR.out _ H1.out.1).mono ?_
   rintro e w2 ⟨⟨N, rfl⟩, hb2⟩
   have H2 := Lib.hid (bel_trans H1.out.1 hb2); clear hb2
   go_wp2_with fail
   exact bodyPost_ret (v := .tuple #[.int .u64 x, .iface 248 (.pointer (some ⟨N, 0, none⟩))]) (by simp [results, Tryz.results212, go_sem]) rfl ⟨H2.out, .inr ⟨H1.out.2, x, _, _, rfl⟩⟩
  ·go_wp2_with fail
   refine (HS.out _ H1.out.1).mono ?_
   rintro e w2 ⟨⟨N, rfl⟩, hb2⟩
   have H2 := Lib.hid (bel_trans H1.out.1 hb2); clear hb2
   go_wp2_with fail
   exact bodyPost_ret (v := .tuple #[.int .u64 x, .iface 248 (.pointer (some ⟨N, 0, none⟩))]) (by simp [results, Tryz.results212, go_sem]) rfl ⟨H2.out, .inr ⟨H1.out.2, x, _, _, rfl⟩⟩
abbrev formV : Value := .iface 204 (.agg #[])
def PlP (w : World) (l : List UInt8) (e : Ending) (w' : World) : Prop := Below w.heap.size w w' ∧ ((∃ u : Nat, u < 18446744073709551616 ∧ l = hexS u ∧ e = .returned (.int .u64 ((u : Nat) : Int))) ∨ ((∀ u, u < 18446744073709551616 → l ≠ hexS u) ∧ e = .panicked [{ v := formV, recovered := false }]))
set_option maxHeartbeats 8000000 in
theorem plane_any (l : List UInt8) (hl : l.length ≤ 1000) (w : World) (hX : EnvX w) (hT : Tab w) : Calls Tryz.prog 179 #[.string ⟨l.toArray⟩] w (PlP w l) := by
 have H := Lib.hid (parse16 l hl w hX)
 have HF : Hid (∀ (n : Nat) W, n < 18446744073709551616 → Below w.heap.size w W → Calls Tryz.prog 172 #[.int .u64 ((n : Nat) : Int), .int .i64 16] W fun e w' => e = .returned (.string ⟨(hexS n).toArray⟩) ∧ Below W.heap.size W w') := Lib.hid fun n W hn hb => FormatUint16 n hn W ((hT.grow hb) 15 (by omega))
 clear hT hX hl
 obtain ⟨B, hB⟩ : ∃ B : ByteArray, B = ⟨l.toArray⟩ := ⟨_, rfl⟩
 have HB := Lib.hid hB
 rw [← hB] at H ⊢
 clear hB
 go_enter Tryz.func179, Tryz.ntmps179
 go_wp2_with fail
 refine H.out.mono ?_
 rintro e w1 ⟨hb, ⟨n, hn, rfl⟩ | ⟨hn, x, t, v, rfl⟩⟩
 ·have H1 := Lib.hid (And.intro hb (And.intro hn (puF_lt hn))); clear hb hn
  go_wp2_with fail
  refine (HF.out n _ H1.out.2.2 H1.out.1).mono ?_
  rintro e w2 ⟨rfl, hb2⟩
  have H2 := Lib.hid (bel_trans H1.out.1 hb2); clear hb2
  obtain ⟨C, hC⟩ : ∃ C : ByteArray, C = ⟨(hexS n).toArray⟩ := ⟨_, rfl⟩
  rw [← hC]
  have HC := Lib.hid hC; clear hC
  by_cases he : C = B
  ·have HE : Hid (l = hexS n) := Lib.hid (bytes_inj (by rw [← HB.out, ← HC.out]; exact he.symm))
   clear HB H HC
   subst he
   go_wp2_with fail
   exact bodyPost_ret (v := .int .u64 ((n : Nat) : Int)) (by simp [results, Tryz.results179, go_sem]) rfl ⟨H2.out, .inl ⟨n, H1.out.2.2, HE.out, rfl⟩⟩
  ·have HE : Hid (∀ u, u < 18446744073709551616 → l ≠ hexS u) := Lib.hid (fun u hu e => by
    have h1 := H1.out.2.1
    rw [e, pu_hex hu] at h1
    have h2 : u = n := Option.some.inj h1
    exact he (by rw [HC.out, HB.out, e, h2]))
   have htl := bytes_ne he
   clear HB H HC
   go_wp2_with fail
   exact ⟨rfl, H2.out, .inr ⟨HE.out, rfl⟩⟩
 ·have HE : Hid (∀ u, u < 18446744073709551616 → l ≠ hexS u) := Lib.hid (fun u hu e => by
   rw [e, pu_hex hu] at hn; cases hn)
  have H1 := Lib.hid hb; clear hb hn
  go_wp2_with fail
  exact ⟨rfl, H1.out, .inr ⟨HE.out, rfl⟩⟩
end Go.Proofs.YtccnkebkgegohaaGreatDoor.Ln
end
section
namespace Go.Proofs.YtccnkebkgegohaaGreatDoor.Ln
open Go.RowKit Go.Rel Go.Draw Go.Solid
set_option maxRecDepth 100000
abbrev formW : Value := .iface 204 (.agg #[])
abbrev Z8b : Array Value := #[.int .u64 0, .int .u64 0, .int .u64 0, .int .u64 0, .int .u64 0, .int .u64 0, .int .u64 0, .int .u64 0]
theorem catch_none (p q : Addr) (w : World) :
  CallsD Tryz.prog 177 #[.pointer (some p), .pointer (some q)] .returning w fun e u' w' => e = .returned (.tuple #[]) ∧ u' = .returning ∧ w' = w := by
 refine callsD_of_wpS Tryz.func177 rfl fun c₀ cs hu => ?_
 apply wpS_seq
 apply wpS_region
 simp [wpOpsS, go_sem, recoverD, hu, Tryz.ntmps177, Exit.thenS]
 apply wpS_seq
 apply wpS_region
 simp [wpOpsS, go_sem, recoverD, hu, Tryz.ntmps177, Exit.thenS]
 refine wpS_cond (t := false) (by simp [Act.eval, Array.replicate]) ?_
 simp only [Bool.false_eq_true, if_false]
 refine wpS_of_wp (wp_skip ?_)
 cases c₀
 simp_all [bodyPostS, results, Tryz.results177]
set_option maxHeartbeats 4000000 in
theorem catch_hit {b1 b2 : Nat} {w : World} {cs : Array Value} {x : Value} (B1 : Blk w b1 cs 24) (hcs : cs.size = 8) (B2 : Blk w b2 #[x] 33) (hne : b1 ≠ b2) (base : Nat) (h1 : base ≤ b1) (h2 : base ≤ b2) :
  CallsD Tryz.prog 177 #[.pointer (some ⟨b1, 0, none⟩), .pointer (some ⟨b2, 0, none⟩)] (.panicking [{ v := formW, recovered := false }]) w fun e u' w' => e = .returned (.tuple #[]) ∧ u' = .panicking [{ v := formW, recovered := true }] ∧ Blk w' b1 Z8b 24 ∧ Blk w' b2 #[.int .i64 4] 33 ∧ Below base w w' := by
 have hta : ∀ w : World, (Instr.typeAssert formW 20 204 true).run Tryz.prog w = .ok (.tuple #[.agg #[], .bool true]) w := fun w => by kernel_rfl
 refine callsD_of_wpS Tryz.func177 rfl fun c₀ cs' hu => ?_
 apply wpS_seq
 apply wpS_region
 simp [wpOpsS, go_sem, recoverD, hu, Tryz.ntmps177, Exit.thenS]
 apply wpS_seq
 apply wpS_region
 simp [wpOpsS, go_sem, recoverD, hu, Tryz.ntmps177, Exit.thenS]
 refine wpS_cond (t := true) (by simp [Act.eval, Array.replicate]) ?_
 simp only [if_true]
 refine wpS_of_wp ?_
 refine Code.wp_mono (Q := fun e a w' => e = .normal ∧ a.defers = [] ∧ Blk w' b1 Z8b 24 ∧ Blk w' b2 #[.int .i64 4] 33 ∧ Below base w w') (fun e a w' h => ?_) ?_
 ·obtain ⟨rfl, h2, h3⟩ := h
  exact ⟨h2, _, rfl, .tuple #[], by simp [results, Tryz.results177, go_sem], rfl, rfl, h3⟩
 clear hu cs' c₀
 change Code.wp Tryz.prog _ _ { tmps := #[.pointer (some ⟨b1, 0, none⟩), .pointer (some ⟨b2, 0, none⟩), formW, undef, undef, formW, formW, .bool true, undef, undef, undef, undef, undef, undef, undef, undef, undef], defers := [] } w
 go_upto_region 3 with fail
 obtain ⟨W2, hW2⟩ : ∃ W2, W2 = w.alloc (.cells #[] 204) := ⟨_, rfl⟩
 have C1 : Blk W2 b1 cs 24 := by rw [hW2]; exact B1.alloc _
 have C2 : Blk W2 b2 #[x] 33 := by rw [hW2]; exact B2.alloc _
 have hbw : Below base w W2 := by rw [hW2]; exact (bel_alloc (bel_refl w) _).mono (by have := B1.lt; omega)
 rw [← hW2]
 clear hW2 hta
 obtain ⟨c0, c1, c2, c3, c4, c5, c6, c7, rfl⟩ : ∃ c0 c1 c2 c3 c4 c5 c6 c7, cs = #[c0, c1, c2, c3, c4, c5, c6, c7] := by
  rcases cs with ⟨l⟩
  match l, hcs with
  | [a0, a1, a2, a3, a4, a5, a6, a7], _ => exact ⟨a0, a1, a2, a3, a4, a5, a6, a7, rfl⟩
 have r1 := C1.row; have l1 := C1.lt
 have D2 := C2.rowO (g := b1) Z8b (by omega)
 have k2 := D2.cell; have l2 := D2.lt; have f2 := D2.free 0
 have HC := Lib.hid (And.intro C1 (And.intro C2 hbw))
 rw [← C1.rw]
 clear C1 C2 hbw B1 B2 D2 hcs
 go_wp2_with fail
 have hgs := gb_set (gb_refl (W2.setRow b1 Z8b) (some b2)) ⟨b2, 0, none⟩ rfl (.int .i64 4)
 have hbr : Below base w (W2.setRow b1 Z8b) := blw_row HC.out.2.2 h1 Z8b
 refine ⟨(HC.out.1.rowS Z8b).gb hgs (by simp; omega), (HC.out.2.1.rowO Z8b (by omega)).set 0 _, hbr.grown hgs ?_ (fun k e => by cases e; omega)⟩
 have := HC.out.1.lt
 have h9 : (W2.setRow b1 Z8b).heap.size = W2.heap.size := by simp [World.setRow]
 omega
end Go.Proofs.YtccnkebkgegohaaGreatDoor.Ln
end
section
namespace Go.Proofs.YtccnkebkgegohaaGreatDoor.Ln
open Go.RowKit Go.Rel Go.Draw Go.Solid
set_option maxRecDepth 100000
def pcC (l : List UInt8) : Array Value := ((pcs l).map fun p => Value.string ⟨p.toArray⟩).toArray
theorem pcC_get {l : List UInt8} {i : Nat} {p : List UInt8} (h : (pcs l)[i]? = some p) : (pcC l)[i]? = some (.string ⟨p.toArray⟩) := by
 unfold pcC
 rw [List.getElem?_toArray, List.getElem?_map, h]; rfl
theorem pcs_few (l : List UInt8) : (pcs l).length ≤ l.length + 1 := by
 have h := Lib.countB_mul_le dotU (by decide) l.length ⟨l.toArray⟩ (Nat.le_refl _)
 rw [pcs_len]
 have h1 : dotU.size = 1 := rfl
 rw [h1] at h
 have h2 : (⟨l.toArray⟩ : ByteArray).size = l.length := rfl
 omega
theorem splitK_short (sep : List UInt8) : ∀ (k : Nat) (s : List UInt8), ∀ p ∈ Lib.splitK sep 0 k s, p.length ≤ s.length
 | 0, s, p, h => by
  have : p = s := by simpa [Lib.splitK] using h
  rw [this]; exact Nat.le_refl _
 | k + 1, s, p, h => by
  unfold Lib.splitK at h
  split at h
  ·have : p = s := by simpa using h
   rw [this]; exact Nat.le_refl _
  ·rcases List.mem_cons.1 h with h | h
   ·rw [h, List.length_take]; omega
   ·have := splitK_short sep k _ p h
    rw [List.length_drop] at this; omega
theorem pcs_short {l : List UInt8} (hl : l.length ≤ 300) {k : Nat} {p : List UInt8} (h : (pcs l)[k]? = some p) : p.length ≤ 1000 := by
 have := splitK_short [46] _ l p (List.mem_of_getElem? h)
 omega
theorem split_any (l : List UInt8) (hl : l.length ≤ 1000) (W : World) (hX : EnvX W) : Calls Tryz.prog 178 #[.string ⟨l.toArray⟩, .string ⟨#[46]⟩] W fun e w' => e = .returned (.slice (some ⟨W.heap.size, 0, none⟩) (pcs l).length (pcs l).length) ∧ w' = W.alloc (.cells (pcC l) 9) := by
 obtain ⟨m, hm⟩ := hX.1
 have h := Tryz.strings_Split ⟨l.toArray⟩ dotU m W (by show l.length < _; omega) hm (by decide)
 rw [← pcs_len, pcs_B, List.map_map] at h
 exact h
theorem pcs_le {l : List UInt8} {s : Sol} {i u : Nat} (hi8 : i < 8) (hu : u < 18446744073709551616) {p : List UInt8} (hp : (pcs l)[i]? = some p) (he : p = hexS u) (h : ∀ j q, j < i → (pcs l)[j]? = some q → q = hexS (plN s j)) :
  ∀ j q, j < i + 1 → (pcs l)[j]? = some q → q = hexS (plN (setP s i u) j) := fun j q hj hq => by
 rw [plN_setP s u (show j < 8 by omega) hu]
 by_cases e : j = i
 ·subst e
  rw [if_pos rfl, ← he]
  exact Option.some.inj (hq.symm.trans hp)
 ·rw [if_neg e]
  exact h j q (by omega) hq
set_option maxHeartbeats 16000000 in
theorem solidRead_n (l : List UInt8) (hl : l.length ≤ 300) (w : World) (hX : EnvX w) (hT : Tab w) : Calls Tryz.prog 137 #[.string ⟨l.toArray⟩] w fun e w' => e = .returned (.tuple #[solV (readM l).1, .int .i64 (readM l).2]) ∧ Below w.heap.size w w' := by
 have hmf : ∀ (fn : Fn) (first cap : Array Value) (w : World), (Instr.makeFunc fn first cap).run Tryz.prog w = .ok (.func fn first cap) w := fun _ _ _ _ => rfl
 have HS : Hid (∀ W, Below w.heap.size w W → Calls Tryz.prog 178 #[.string ⟨l.toArray⟩, .string ⟨#[46]⟩] W fun e w' => e = .returned (.slice (some ⟨W.heap.size, 0, none⟩) (pcs l).length (pcs l).length) ∧ w' = W.alloc (.cells (pcC l) 9)) := Lib.hid fun W hb => split_any l (by omega) W (hX.grow hb hX.size)
 have HP : Hid (∀ (k : Nat) (p : List UInt8), (pcs l)[k]? = some p → ∀ W, Below w.heap.size w W → Calls Tryz.prog 179 #[.string ⟨p.toArray⟩] W (PlP W p)) := Lib.hid fun k p hk W hb => plane_any p (pcs_short hl hk) W (hX.grow hb hX.size) (hT.grow hb)
 have HW : Hid (∀ (s : Sol) W, Below w.heap.size w W → Calls Tryz.prog 132 #[.agg #[.int .u64 (pl s 0), .int .u64 (pl s 1), .int .u64 (pl s 2), .int .u64 (pl s 3), .int .u64 (pl s 4), .int .u64 (pl s 5), .int .u64 (pl s 6), .int .u64 (pl s 7)]] W fun e w' => e = .returned (.string ⟨(wrS s).toArray⟩) ∧ Below W.heap.size W w') := Lib.hid fun s W hb => solidWrite_n s W ((hT.grow hb) 15 (by omega))
 have HZV := Lib.hid zero_solV
 have hN := pcs_few l
 obtain ⟨N, hNn⟩ : ∃ N, N = (pcs l).length := ⟨_, rfl⟩
 rw [← hNn] at HS hN
 have HN := Lib.hid hNn
 obtain ⟨B, hB⟩ : ∃ B : ByteArray, B = ⟨l.toArray⟩ := ⟨_, rfl⟩
 rw [← hB] at HS ⊢
 have HB := Lib.hid hB
 have hN301 : N ≤ 301 := by omega
 clear hT hX hNn hB hN
 go_enter_defers Tryz.func137, Tryz.ntmps137
 go_wp2_with fail
 refine (HS.out _ (by repeat (first | with_reducible exact bel_refl _ | with_reducible assumption | with_reducible refine bel_drewN ?_ _ | with_reducible refine bel_drew ?_ | with_reducible refine bel_alloc ?_ _ | with_reducible refine bel_row ?_ ?_ _ | with_reducible refine bel_set ?_ ?_ _ | refine bel_trans ?_ (by with_reducible assumption) | (simp; done) | (simp; omega)))).mono ?_
 rintro e w1 ⟨rfl, rfl⟩
 go_wp2_with fail
 obtain ⟨w2, hw2⟩ : ∃ w2, w2 = ((w.alloc (.cells #[.int .u64 0, .int .u64 0, .int .u64 0, .int .u64 0, .int .u64 0, .int .u64 0, .int .u64 0, .int .u64 0] 24)).alloc (.cells #[.int .i64 0] 33)).alloc (.cells (pcC l) 9) := ⟨_, rfl⟩
 have b0 : Blk w2 w.heap.size #[.int .u64 (pl (0 : Sol) 0), .int .u64 (pl (0 : Sol) 1), .int .u64 (pl (0 : Sol) 2), .int .u64 (pl (0 : Sol) 3), .int .u64 (pl (0 : Sol) 4), .int .u64 (pl (0 : Sol) 5), .int .u64 (pl (0 : Sol) 6), .int .u64 (pl (0 : Sol) 7)] 24 := by rw [hw2, zero_sols]; exact (by repeat (first | with_reducible assumption | (refine Blk.at _ _ ?_; (simp; done)) | with_reducible refine Blk.alloc ?_ _ | with_reducible refine Blk.drew ?_ | with_reducible refine Blk.rowS ?_ _ | with_reducible refine Blk.rowO ?_ _ (by simp)))
 have b1 : Blk w2 (w.heap.size + 1) #[.int .i64 0] 33 := by rw [hw2]; exact (by repeat (first | with_reducible assumption | (refine Blk.at _ _ ?_; (simp; done)) | with_reducible refine Blk.alloc ?_ _ | with_reducible refine Blk.drew ?_ | with_reducible refine Blk.rowS ?_ _ | with_reducible refine Blk.rowO ?_ _ (by simp)))
 have b2 : Blk w2 (w.heap.size + 1 + 1) (pcC l) 9 := by rw [hw2]; exact Blk.at _ _ (by simp)
 have hb2 : Below w.heap.size w w2 := by rw [hw2]; exact (by repeat (first | with_reducible exact bel_refl _ | with_reducible assumption | with_reducible refine bel_drewN ?_ _ | with_reducible refine bel_drew ?_ | with_reducible refine bel_alloc ?_ _ | with_reducible refine bel_row ?_ ?_ _ | with_reducible refine bel_set ?_ ?_ _ | refine bel_trans ?_ (by with_reducible assumption) | (simp; done) | (simp; omega)))
 rw [← hw2]
 have H2 := Lib.hid (And.intro b0 (And.intro b1 (And.intro b2 hb2)))
 clear hw2 b0 b1 b2 hb2
 go_loopw [10] (fun iv wx => ∃ (i : Nat) (s : Sol), i ≤ N ∧ i ≤ 8 ∧ iv = .int .i64 i ∧ Hid ((Blk wx w.heap.size #[.int .u64 (pl s 0), .int .u64 (pl s 1), .int .u64 (pl s 2), .int .u64 (pl s 3), .int .u64 (pl s 4), .int .u64 (pl s 5), .int .u64 (pl s 6), .int .u64 (pl s 7)] 24 ∧ Blk wx (w.heap.size + 1) #[.int .i64 0] 33 ∧ Blk wx (w.heap.size + 1 + 1) (pcC l) 9 ∧ Below w.heap.size w wx) ∧ (∀ j q, j < i → (pcs l)[j]? = some q → q = hexS (plN s j)) ∧ ∀ j, i ≤ j → j < 8 → plN s j = 0)) (fun iv _ => N - (intOf iv).toNat)
 case atStart => exact ⟨0, 0, Nat.zero_le _, Nat.zero_le _, rfl, Lib.hid ⟨H2.out, fun j q hj => absurd hj (by omega), fun j _ _ => plN_zero j⟩⟩
 case round =>
  obtain ⟨i, s, hi, hi8, rfl, HI⟩ := hrel
  by_cases hiN : i < N
  ·obtain ⟨p, hp⟩ : ∃ p, (pcs l)[i]? = some p := ⟨_, List.getElem?_eq_getElem (by rw [← HN.out]; exact hiN)⟩
   have cp : wr.cell? ⟨w.heap.size + 1 + 1, i, none⟩ = some (.string ⟨p.toArray⟩) := by rw [HI.out.1.2.2.1.cell]; exact pcC_get hp
   have lp := HI.out.1.2.2.1.lt
   obtain ⟨P, hP⟩ : ∃ P : ByteArray, P = ⟨p.toArray⟩ := ⟨_, rfl⟩
   have HPl := Lib.hid (HP.out i p hp)
   rw [← hP] at cp HPl
   have HPp := Lib.hid hp
   clear hp hP
   by_cases h8 : i < 8
   ·go_wp2_with fail
    refine (HPl.out _ HI.out.1.2.2.2).mono ?_
    rintro e w3 ⟨hb3, ⟨u, hu, he, rfl⟩ | ⟨hne, rfl⟩⟩
    ·have b0 := HI.out.1.1.grow hb3
     have b1 := HI.out.1.2.1.grow hb3
     have b2 := HI.out.1.2.2.1.grow hb3
     have hbw := bel_trans HI.out.1.2.2.2 hb3
     have c0 := b0.cell; have l0 := b0.lt; have f0 := b0.free i
     have hi8I : (i : Int) < 8 := by omega
     have hgs := gb_set (gb_refl w3 (some w.heap.size)) ⟨w.heap.size, i, none⟩ rfl (.int .u64 ((u : Nat) : Int))
     have B0 := b0.set i (.int .u64 ((u : Nat) : Int))
     rw [cells_setP s h8 hu] at B0
     have H3 := Lib.hid (And.intro (And.intro B0 (And.intro (b1.gb hgs (by simp)) (And.intro (b2.gb hgs (by simp; try omega)) (hbw.grown hgs hbw.size (fun k e => by cases e; omega))))) (And.intro (pcs_le h8 hu HPp.out he HI.out.2.1) (show ∀ j, i + 1 ≤ j → j < 8 → plN (setP s i u) j = 0 from fun j h1 h2 => by rw [plN_setP s u h2 hu, if_neg (by omega)]; exact HI.out.2.2 j (by omega) h2)))
     have c0i : w3.cell? ⟨w.heap.size, i, none⟩ = some (.int .u64 (pl s i)) := by rw [c0]; exact getZ s h8
     obtain ⟨s', hs'⟩ : ∃ s', s' = setP s i u := ⟨_, rfl⟩
     rw [← hs'] at H3
     clear b0 b1 b2 hbw c0 hgs B0 he hb3 hs' HI cp lp
     go_wp2_with fail
     exact ⟨⟨i + 1, s', by omega, by omega, by simp, H3⟩, by simp [intOf]; omega⟩
    ·have HF := Lib.hid (And.intro (HI.out.1.1.grow hb3) (And.intro (HI.out.1.2.1.grow hb3) (bel_trans HI.out.1.2.2.2 hb3)))
     have HM : Hid (readM l = (0, 4)) := Lib.hid (read_bad HPp.out hne)
     refine leaves_cons (f := 177) (args := #[.pointer (some ⟨w.heap.size, 0, none⟩), .pointer (some ⟨w.heap.size + 1, 0, none⟩)]) (by simp) (by simp [go_sem]) ?_
     refine (catch_hit HF.out.1 rfl HF.out.2.1 (by omega) w.heap.size (Nat.le_refl _) (by omega)).mono ?_
     rintro e u' w'' ⟨rfl, rfl, D0, D1, hb9⟩
     have d0 := D0.cell; have d1 := D1.cell
     exact ⟨.tuple #[.agg Z8b, .int .i64 4], by simp [results, Tryz.results137, go_sem, d0, d1], by rw [HM.out, HZV.out], HF.out.2.2.trans hb9⟩
   ·have HF := Lib.hid (And.intro HI.out.1.1 (And.intro HI.out.1.2.1 HI.out.1.2.2.2))
    have HM : Hid (readM l = (0, 4)) := Lib.hid (read_many (by rw [← HN.out]; omega))
    go_wp2_with fail
    refine leaves_cons (f := 177) (args := #[.pointer (some ⟨w.heap.size, 0, none⟩), .pointer (some ⟨w.heap.size + 1, 0, none⟩)]) (by simp) (by simp [go_sem]) ?_
    refine (catch_hit HF.out.1 rfl HF.out.2.1 (by omega) w.heap.size (Nat.le_refl _) (by omega)).mono ?_
    rintro e u' w'' ⟨rfl, rfl, D0, D1, hb9⟩
    have d0 := D0.cell; have d1 := D1.cell
    exact ⟨.tuple #[.agg Z8b, .int .i64 4], by simp [results, Tryz.results137, go_sem, d0, d1], by rw [HM.out, HZV.out], HF.out.2.2.trans hb9⟩
  ·obtain rfl : i = N := by omega
   have c0 := HI.out.1.1.cell; have l0 := HI.out.1.1.lt
   go_wp2_with fail
   refine (HW.out s _ HI.out.1.2.2.2).mono ?_
   rintro e w3 ⟨rfl, hb3⟩
   have b0 := HI.out.1.1.grow hb3
   have b1 := HI.out.1.2.1.grow hb3
   have hbw := bel_trans HI.out.1.2.2.2 hb3
   obtain ⟨C, hC⟩ : ∃ C : ByteArray, C = ⟨(wrS s).toArray⟩ := ⟨_, rfl⟩
   rw [← hC]
   have HF := Lib.hid (And.intro b0 (And.intro b1 hbw))
   clear hb3 c0 l0
   by_cases he : C = B
   ·have HM : Hid (readM l = (s, 0)) := Lib.hid (by
     have e : wrS s = l := bytes_inj (by rw [← hC, ← HB.out]; exact he)
     rw [← e]; exact readM_wr s)
    subst he
    clear hC
    have kk := b0.cell; have l0 := b0.lt; have r0 := b0.row
    have c1 := b1.cell; have l1 := b1.lt; have f1 := b1.free 0
    rw [← b0.rw]
    clear b0 b1 kk hbw
    go_wp2_with fail
    obtain ⟨W4, hW4⟩ : ∃ W4, W4 = (w3.setCell ⟨w.heap.size + 1, 0, none⟩ (.int .i64 0)).setRow w.heap.size #[.int .u64 (pl s 0), .int .u64 (pl s 1), .int .u64 (pl s 2), .int .u64 (pl s 3), .int .u64 (pl s 4), .int .u64 (pl s 5), .int .u64 (pl s 6), .int .u64 (pl s 7)] := ⟨_, rfl⟩
    have hgs := gb_set (gb_refl w3 (some (w.heap.size + 1))) ⟨w.heap.size + 1, 0, none⟩ rfl (.int .i64 0)
    have B0 : Blk W4 w.heap.size #[.int .u64 (pl s 0), .int .u64 (pl s 1), .int .u64 (pl s 2), .int .u64 (pl s 3), .int .u64 (pl s 4), .int .u64 (pl s 5), .int .u64 (pl s 6), .int .u64 (pl s 7)] 24 := by rw [hW4]; exact (HF.out.1.gb hgs (by simp)).rowS _
    have B1 : Blk W4 (w.heap.size + 1) #[.int .i64 0] 33 := by rw [hW4]; exact (HF.out.2.1.set 0 _).rowO _ (by omega)
    have hb4 : Below w.heap.size w W4 := by rw [hW4]; exact bel_row (HF.out.2.2.grown hgs HF.out.2.2.size (fun k e => by cases e; omega)) (Nat.le_refl _) _
    first | rw [← hW4] | skip
    have d0 := B0.cell; have d1 := B1.cell; have m0 := B0.lt
    refine leaves_cons (f := 177) (args := #[.pointer (some ⟨w.heap.size, 0, none⟩), .pointer (some ⟨w.heap.size + 1, 0, none⟩)]) (by simp) (by simp [go_sem]) ?_
    refine (catch_none _ _ _).mono ?_
    rintro e u' w'' ⟨rfl, rfl, rfl⟩
    exact ⟨.tuple #[.agg #[.int .u64 (pl s 0), .int .u64 (pl s 1), .int .u64 (pl s 2), .int .u64 (pl s 3), .int .u64 (pl s 4), .int .u64 (pl s 5), .int .u64 (pl s 6), .int .u64 (pl s 7)], .int .i64 0], by simp [results, Tryz.results137, go_sem, d0, d1], by rw [HM.out], hb4⟩
   ·have HM : Hid (readM l = (0, 4)) := Lib.hid (read_else (out := s) (fun j q hq => HI.out.2.1 j q (by have h1 := (List.getElem?_eq_some_iff.1 hq).1; rw [← HN.out] at h1; exact h1) hq) (fun j h1 h2 => HI.out.2.2 j (by rw [HN.out]; exact h1) h2) (fun e => he (by rw [hC, HB.out, e])))
    have htl := bytes_ne he
    clear hC b0 b1 hbw
    go_wp2_with fail
    refine leaves_cons (f := 177) (args := #[.pointer (some ⟨w.heap.size, 0, none⟩), .pointer (some ⟨w.heap.size + 1, 0, none⟩)]) (by simp) (by simp [go_sem]) ?_
    refine (catch_hit HF.out.1 rfl HF.out.2.1 (by omega) w.heap.size (Nat.le_refl _) (by omega)).mono ?_
    rintro e u' w'' ⟨rfl, rfl, D0, D1, hb9⟩
    have d0 := D0.cell; have d1 := D1.cell
    exact ⟨.tuple #[.agg Z8b, .int .i64 4], by simp [results, Tryz.results137, go_sem, d0, d1], by rw [HM.out, HZV.out], HF.out.2.2.trans hb9⟩
end Go.Proofs.YtccnkebkgegohaaGreatDoor.Ln
end
section
namespace Go.Proofs.YtccnkebkgegohaaGreatDoor.Ln
open Go.RowKit Go.Rel Go.Draw Go.Solid
set_option maxRecDepth 100000
abbrev Ax := Nat × Int × Sol
def fitX (a : Ax) : Bool :=
 if a.1 = 1 then a.2.1 == 0 && !(a.2.2 == 0#512)
 else (a.1 == 2 || a.1 == 3) && decide (0 ≤ a.2.1) && decide (a.2.1 < 8) && a.2.2 == 0#512
def digX (p : Int) : UInt8 := UInt8.ofNat (48 + p.toNat)
def wrX (a : Ax) : List UInt8 := if a.1 = 1 then [99, 117, 116, 32] ++ wrS a.2.2 else if a.1 = 2 then [102, 105, 116, 32, digX a.2.1] else [116, 97, 107, 101, 32, digX a.2.1]
def wrXM (a : Ax) : List UInt8 × Int := if fitX a then (wrX a, 0) else ([], 1)
theorem digX_inj {p q : Int} (hp : 0 ≤ p ∧ p < 8) (hq : 0 ≤ q ∧ q < 8) (h : digX p = digX q) : p = q := by
 have h1 := congrArg UInt8.toNat h
 unfold digX at h1
 rw [UInt8.toNat_ofNat', UInt8.toNat_ofNat'] at h1
 omega
theorem fitX_cut {p : Int} {s : Sol} : fitX (1, p, s) = true ↔ p = 0 ∧ s ≠ 0 := by
 unfold fitX
 rw [if_pos rfl]
 simp
theorem fitX_kept {K : Nat} {p : Int} {s : Sol} (hK : K ≠ 1) : fitX (K, p, s) = true ↔ (K = 2 ∨ K = 3) ∧ (0 ≤ p ∧ p < 8) ∧ s = 0 := by
 unfold fitX
 rw [if_neg hK]
 simp only [Bool.and_eq_true, Bool.or_eq_true, beq_iff_eq, decide_eq_true_eq]
 exact ⟨fun ⟨⟨⟨h1, h2⟩, h3⟩, h4⟩ => ⟨h1, ⟨h2, h3⟩, h4⟩, fun ⟨h1, ⟨h2, h3⟩, h4⟩ => ⟨⟨⟨h1, h2⟩, h3⟩, h4⟩⟩
theorem fitX_cases {a : Ax} (h : fitX a = true) : (a.1 = 1 ∧ a.2.1 = 0 ∧ a.2.2 ≠ 0) ∨ ((a.1 = 2 ∨ a.1 = 3) ∧ (0 ≤ a.2.1 ∧ a.2.1 < 8) ∧ a.2.2 = 0) := by
 obtain ⟨K, p, s⟩ := a
 by_cases hK : K = 1
 ·subst hK; exact .inl ⟨rfl, fitX_cut.1 h⟩
 ·exact .inr ((fitX_kept hK).1 h)
theorem wrX_inj {a b : Ax} (ha : fitX a = true) (hb : fitX b = true) (h : wrX a = wrX b) : a = b := by
 obtain ⟨K, p, s⟩ := a
 obtain ⟨M, q, t⟩ := b
 rcases fitX_cases ha with ⟨h1, h2, h3⟩ | ⟨h1, h2, h3⟩ <;> rcases fitX_cases hb with ⟨g1, g2, g3⟩ | ⟨g1, g2, g3⟩ <;> simp only at h1 h2 h3 g1 g2 g3
 ·subst h1 h2 g1 g2
  have e : wrS s = wrS t := by simpa [wrX] using h
  rw [wrS_inj e]
 ·subst h1
  rcases g1 with rfl | rfl <;> simp [wrX] at h
 ·subst g1
  rcases h1 with rfl | rfl <;> simp [wrX] at h
 ·subst h3 g3
  rcases h1 with rfl | rfl <;> rcases g1 with rfl | rfl <;> simp [wrX] at h
  ·rw [digX_inj h2 g2 h]
  ·rw [digX_inj h2 g2 h]
theorem wrX_len {a : Ax} : (wrX a).length ≤ 150 := by
 unfold wrX
 have := wrS_len a.2.2
 split
 ·rw [List.length_append]; simp; omega
 ·split <;> simp
/-- what a line is read as -/
noncomputable def rdX (l : List UInt8) : Ax × Int := @dite _ (∃ a, fitX a = true ∧ wrX a = l) (Classical.propDecidable _) (fun h => (h.choose, 0)) (fun _ => ((0, 0, 0), 4))
theorem rdX_wr {a : Ax} (ha : fitX a = true) : rdX (wrX a) = (a, 0) := by
 have h : ∃ b, fitX b = true ∧ wrX b = wrX a := ⟨a, ha, rfl⟩
 unfold rdX
 rw [dif_pos h, wrX_inj h.choose_spec.1 ha h.choose_spec.2]
theorem rdX_no {l : List UInt8} (h : ∀ a, fitX a = true → wrX a ≠ l) : rdX l = ((0, 0, 0), 4) := by
 unfold rdX
 rw [dif_neg]
 rintro ⟨a, h1, h2⟩
 exact h a h1 h2
theorem rdX_two (l : List UInt8) : (∃ a, fitX a = true ∧ wrX a = l ∧ rdX l = (a, 0)) ∨ rdX l = ((0, 0, 0), 4) := by
 by_cases h : ∃ a, fitX a = true ∧ wrX a = l
 ·obtain ⟨a, h1, h2⟩ := h
  exact .inl ⟨a, h1, h2, by rw [← h2]; exact rdX_wr h1⟩
 ·exact .inr (rdX_no fun a h1 h2 => h ⟨a, h1, h2⟩)
end Go.Proofs.YtccnkebkgegohaaGreatDoor.Ln
end
end
