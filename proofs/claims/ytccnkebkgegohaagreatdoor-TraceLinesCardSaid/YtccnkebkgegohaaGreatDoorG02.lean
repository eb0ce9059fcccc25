import Derived.Test.YtccnkebkgegohaaGreatDoorG01
import Derived.Test.YtccnkebkgegohaaGreatDoorProg
import Derived.WalkKit
import Derived.WalkLawsBesides
import Derived.WalkSpells
import Derived.StillTailTactics
import Derived.Deep.QuietTactic
import Derived.BigQuiet
import Derived.Outline
import Derived.Recover
import Derived.Laws.BitsLemmas
import Derived.Lib.Hide
import Derived.Laws.EntriesVeiled
/-
  Given contracts of functions of the program, and laws for them, one behind the other.
-/
set_option linter.unusedVariables false
set_option linter.unusedSimpArgs false
set_option linter.unusedSectionVars false
section
namespace Go.Rel
open Go.RowKit
variable {P : Program}
theorem run_all (w : World) (g : Nat → Option Bool × Unit → Sem (ForInStep (Option Bool × Unit))) (b : Nat → Bool) (l : List Nat)
  (h : ∀ i ∈ l, (g i (none, ())).run P w = .ok (if b i then ForInStep.yield (none, ()) else ForInStep.done (some false, ())) w) :
  ((forIn l (none, ()) g : Sem (Option Bool × Unit)).run P w) = .ok (if l.all b then (none, ()) else (some false, ())) w := by
 induction l with
 | nil => rfl
 | cons i l ih =>
  simp only [List.forIn_cons, Sem.run_bind, h i (by simp), Result.andThen_ok, List.all_cons]
  rcases Bool.eq_false_or_eq_true (b i) with hb | hb
  ·simpa [hb] using ih (fun j hj => h j (by simp [hj]))
  ·simp [hb]
theorem run_equalIn_array (w : World) (d : Nat) (t e : TypeId) (len n : Nat) (xs ys : Array Value) (b : Nat → Bool) (ht : P.underlying t = some (.array len e)) (hn : (sizeOf e).run P w = .ok n w)
   (h : ∀ i, i < len → (do Op.equalIn d e (← part e xs (i * n)) (← part e ys (i * n)) : Sem Bool).run P w = .ok (b i) w) :
   (Op.equalIn (d+1) t (.agg xs) (.agg ys)).run P w = .ok ((List.range len).all b) w := by
  simp only [Op.equalIn, Sem.run_bind, run_underlying ht, Result.andThen_ok, hn]
  simp only [Std.Legacy.Range.forIn_eq_forIn_range', Std.Legacy.Range.size, Nat.sub_zero, Nat.add_sub_cancel, Nat.div_one, ← List.range_eq_range']
  rw [run_all w _ b (List.range len) (fun i hi => ?_)]
  · cases (List.range len).all b <;> rfl
  · have h1 := h i (List.mem_range.1 hi)
    simp only [Sem.run_bind] at h1 ⊢
    generalize (part e xs (i * n)).run P w = r1 at h1 ⊢
    cases r1 with
    | halt x w' => cases h1
    | ok x w1 =>
      simp only [Result.andThen_ok] at h1 ⊢
      generalize (part e ys (i * n)).run P w1 = r2 at h1 ⊢
      cases r2 with
      | halt x w' => cases h1
      | ok y w2 =>
        simp only [Result.andThen_ok] at h1 ⊢
        rw [h1]
        simp only [Result.andThen_ok]
        rcases Bool.eq_false_or_eq_true (b i) with hb | hb <;> simp [hb]
end Go.Rel

namespace Go.Proofs.YtccnkebkgegohaaGreatDoor
open Go.RowKit

/-! ### SOLIDS: 512 bits, eight planes -/
abbrev Sol := BitVec 512
def plv (s : Sol) (k : Nat) : BitVec 64 := s.extractLsb' (64 * k) 64
def pl (s : Sol) (k : Nat) : Int := ((plv s k).toNat : Int)
theorem pl_nonneg (s : Sol) (k : Nat) : 0 ≤ pl s k := by unfold pl; omega
theorem pl_lt (s : Sol) (k : Nat) : pl s k < 18446744073709551616 := by unfold pl; have := (plv s k).isLt; omega
theorem pl_eq {s t : Sol} {k : Nat} : pl s k = pl t k ↔ plv s k = plv t k := by
 unfold pl; rw [Int.ofNat_inj, BitVec.toNat_inj]
theorem sol_ext {s t : Sol} (h : ∀ k, k < 8 → plv s k = plv t k) : s = t := by
 apply BitVec.eq_of_getLsbD_eq
 intro i hi
 have := congrArg (fun v => v.getLsbD (i % 64)) (h (i / 64) (by omega))
 simp only [plv, BitVec.getLsbD_extractLsb'] at this
 have e : 64 * (i / 64) + i % 64 = i := by omega
 rw [e] at this
 simpa [show i % 64 < 64 by omega] using this
theorem plv_and (a b : Sol) (k : Nat) : plv (a &&& b) k = plv a k &&& plv b k := by
 apply BitVec.eq_of_getLsbD_eq; intro i hi; simp [plv]
 cases decide (i < 64) <;> simp
theorem plv_or (a b : Sol) (k : Nat) : plv (a ||| b) k = plv a k ||| plv b k := by
 apply BitVec.eq_of_getLsbD_eq; intro i hi; simp [plv]
 cases decide (i < 64) <;> simp
theorem plv_xor (a b : Sol) (k : Nat) : plv (a ^^^ b) k = plv a k ^^^ plv b k := by
 apply BitVec.eq_of_getLsbD_eq; intro i hi; simp [plv]
 cases decide (i < 64) <;> simp
theorem plv_zero (k : Nat) : plv 0 k = 0 := by
 apply BitVec.eq_of_getLsbD_eq; intro i hi; simp [plv]
theorem plv_andNot (a b : Sol) (k : Nat) (hk : k < 8) : plv (a &&& ~~~b) k = plv a k &&& ~~~(plv b k) := by
 apply BitVec.eq_of_getLsbD_eq; intro i hi; simp [plv, hi, show 64 * k + i < 512 by omega]
theorem pl_zero (k : Nat) : pl 0 k = 0 := by unfold pl; rw [plv_zero]; rfl

theorem ofInt_pl (s : Sol) (k : Nat) : BitVec.ofInt 64 (pl s k) = plv s k := by
 unfold pl; rw [BitVec.ofInt_natCast, BitVec.ofNat_toNat]; simp
theorem wrap_u64_toNat (x : BitVec 64) : IntKind.u64.wrap (x.toNat : Int) = (x.toNat : Int) := IntWalk.u64_in _ (by have := x.isLt; omega)
theorem bits_and_pl (a b : Sol) (k : Nat) : bits .and .u64 (pl a k) (pl b k) = pl (a &&& b) k := by
 show IntKind.u64.wrap ((BitVec.ofInt 64 (pl a k) &&& BitVec.ofInt 64 (pl b k)).toNat : Int) = _
 rw [ofInt_pl, ofInt_pl, wrap_u64_toNat, ← plv_and]; rfl
theorem bits_or_pl (a b : Sol) (k : Nat) : bits .or .u64 (pl a k) (pl b k) = pl (a ||| b) k := by
 show IntKind.u64.wrap ((BitVec.ofInt 64 (pl a k) ||| BitVec.ofInt 64 (pl b k)).toNat : Int) = _
 rw [ofInt_pl, ofInt_pl, wrap_u64_toNat, ← plv_or]; rfl
theorem bits_xor_pl (a b : Sol) (k : Nat) : bits .xor .u64 (pl a k) (pl b k) = pl (a ^^^ b) k := by
 show IntKind.u64.wrap ((BitVec.ofInt 64 (pl a k) ^^^ BitVec.ofInt 64 (pl b k)).toNat : Int) = _
 rw [ofInt_pl, ofInt_pl, wrap_u64_toNat, ← plv_xor]; rfl
theorem bits_andNot_pl (a b : Sol) (k : Nat) (hk : k < 8) : bits .andNot .u64 (pl a k) (pl b k) = pl (a &&& ~~~b) k := by
 show IntKind.u64.wrap ((BitVec.ofInt 64 (pl a k) &&& ~~~(BitVec.ofInt 64 (pl b k))).toNat : Int) = _
 rw [ofInt_pl, ofInt_pl, wrap_u64_toNat, ← plv_andNot _ _ _ hk]; rfl

attribute [irreducible] pl plv

/-- a solid as the value that the model has -/
abbrev solL (s : Sol) : List Value := [.int .u64 (pl s 0), .int .u64 (pl s 1), .int .u64 (pl s 2), .int .u64 (pl s 3), .int .u64 (pl s 4), .int .u64 (pl s 5), .int .u64 (pl s 6), .int .u64 (pl s 7)]
abbrev solV (s : Sol) : Value := .agg #[.int .u64 (pl s 0), .int .u64 (pl s 1), .int .u64 (pl s 2), .int .u64 (pl s 3), .int .u64 (pl s 4), .int .u64 (pl s 5), .int .u64 (pl s 6), .int .u64 (pl s 7)]

theorem sol_eq_iff (a b : Sol) : a = b ↔ (pl a 0 = pl b 0 ∧ pl a 1 = pl b 1 ∧ pl a 2 = pl b 2 ∧ pl a 3 = pl b 3 ∧ pl a 4 = pl b 4 ∧ pl a 5 = pl b 5 ∧ pl a 6 = pl b 6 ∧ pl a 7 = pl b 7) := by
 constructor
 ·rintro rfl; simp
 ·rintro ⟨h0, h1, h2, h3, h4, h5, h6, h7⟩
  refine sol_ext fun k hk => pl_eq.1 ?_
  obtain rfl | rfl | rfl | rfl | rfl | rfl | rfl | rfl : k = 0 ∨ k = 1 ∨ k = 2 ∨ k = 3 ∨ k = 4 ∨ k = 5 ∨ k = 6 ∨ k = 7 := by omega
  ·exact h0
  ·exact h1
  ·exact h2
  ·exact h3
  ·exact h4
  ·exact h5
  ·exact h6
  ·exact h7

theorem eq24 (d : Nat) (a0 a1 a2 a3 a4 a5 a6 a7 b0 b1 b2 b3 b4 b5 b6 b7 : Int) (w : World) :
  (Op.equalIn (d+2) 24 (.agg #[.int .u64 a0, .int .u64 a1, .int .u64 a2, .int .u64 a3, .int .u64 a4, .int .u64 a5, .int .u64 a6, .int .u64 a7]) (.agg #[.int .u64 b0, .int .u64 b1, .int .u64 b2, .int .u64 b3, .int .u64 b4, .int .u64 b5, .int .u64 b6, .int .u64 b7])).run Tryz.prog w = 
   .ok (a0 == b0 && (a1 == b1 && (a2 == b2 && (a3 == b3 && (a4 == b4 && (a5 == b5 && (a6 == b6 && a7 == b7))))))) w := by
  rw [Go.Rel.run_equalIn_array w (d+1) 24 22 8 1 _ _ (fun i => match i with | 0 => a0 == b0 | 1 => a1 == b1 | 2 => a2 == b2 | 3 => a3 == b3 | 4 => a4 == b4 | 5 => a5 == b5 | 6 => a6 == b6 | _ => a7 == b7) (by kernel_rfl) (by kernel_rfl)]
  · simp [List.range, List.range.loop]
  · intro i hi
    have e : ∀ x y : Int, (Op.equalIn (d+1) 22 (.int .u64 x) (.int .u64 y)).run Tryz.prog w = .ok (x == y) w := fun x y => run_equalIn_int w d 22 .u64 .u64 x y (by kernel_rfl)
    obtain rfl | rfl | rfl | rfl | rfl | rfl | rfl | rfl : i = 0 ∨ i = 1 ∨ i = 2 ∨ i = 3 ∨ i = 4 ∨ i = 5 ∨ i = 6 ∨ i = 7 := by omega
    · exact Eq.trans (b := (Op.equalIn (d+1) 22 (.int .u64 a0) (.int .u64 b0)).run Tryz.prog w) (by kernel_rfl) (e a0 b0)
    · exact Eq.trans (b := (Op.equalIn (d+1) 22 (.int .u64 a1) (.int .u64 b1)).run Tryz.prog w) (by kernel_rfl) (e a1 b1)
    · exact Eq.trans (b := (Op.equalIn (d+1) 22 (.int .u64 a2) (.int .u64 b2)).run Tryz.prog w) (by kernel_rfl) (e a2 b2)
    · exact Eq.trans (b := (Op.equalIn (d+1) 22 (.int .u64 a3) (.int .u64 b3)).run Tryz.prog w) (by kernel_rfl) (e a3 b3)
    · exact Eq.trans (b := (Op.equalIn (d+1) 22 (.int .u64 a4) (.int .u64 b4)).run Tryz.prog w) (by kernel_rfl) (e a4 b4)
    · exact Eq.trans (b := (Op.equalIn (d+1) 22 (.int .u64 a5) (.int .u64 b5)).run Tryz.prog w) (by kernel_rfl) (e a5 b5)
    · exact Eq.trans (b := (Op.equalIn (d+1) 22 (.int .u64 a6) (.int .u64 b6)).run Tryz.prog w) (by kernel_rfl) (e a6 b6)
    · exact Eq.trans (b := (Op.equalIn (d+1) 22 (.int .u64 a7) (.int .u64 b7)).run Tryz.prog w) (by kernel_rfl) (e a7 b7)

theorem beq_pl (a b : Sol) : (pl a 0 == pl b 0 && (pl a 1 == pl b 1 && (pl a 2 == pl b 2 && (pl a 3 == pl b 3 && (pl a 4 == pl b 4 && (pl a 5 == pl b 5 && (pl a 6 == pl b 6 && pl a 7 == pl b 7))))))) = (a == b) := by
 rw [Bool.eq_iff_iff]
 simp only [Bool.and_eq_true, beq_iff_eq, sol_eq_iff a b]
@[go_sem] theorem eqSol (d : Nat) (a b : Sol) (w : World) : (Op.equalIn (d+2) 24 (solV a) (solV b)).run Tryz.prog w = .ok (a == b) w := by
 rw [eq24, beq_pl]
@[go_sem] theorem eqSol0 (d : Nat) (a : Sol) (w : World) : (Op.equalIn (d+2) 24 (solV a) (.agg #[.int .u64 0, .int .u64 0, .int .u64 0, .int .u64 0, .int .u64 0, .int .u64 0, .int .u64 0, .int .u64 0])).run Tryz.prog w = .ok (a == 0#512) w := by
 have := eqSol d a 0 w
 simp only [solV, pl_zero] at this
 exact this
end Go.Proofs.YtccnkebkgegohaaGreatDoor
namespace Go.Proofs.YtccnkebkgegohaaGreatDoor
open Go.RowKit
/-! ### WORLDS THAT HAVE GROWN -/
theorem bel_refl (w : World) : Below w.heap.size w w := Below.refl _ _
theorem bel_alloc {w0 w : World} (h : Below w0.heap.size w0 w) (o : Obj) : Below w0.heap.size w0 (w.alloc o) := h.alloc h.size o
theorem bel_drew {w0 w : World} (h : Below w0.heap.size w0 w) : Below w0.heap.size w0 w.drew := h.drew
theorem bel_drewN {w0 w : World} (h : Below w0.heap.size w0 w) (n : Nat) : Below w0.heap.size w0 (w.drewN n) := below_drewN h n
theorem bel_trans {a b c : World} (h : Below a.heap.size a b) (k : Below b.heap.size b c) : Below a.heap.size a c := h.trans (k.mono h.size)
theorem bcell {W w1 : World} (hb : Below W.heap.size W w1) : (∀ b o, b < W.heap.size → w1.cell? ⟨b, o, none⟩ = W.cell? ⟨b, o, none⟩) ∧ (∀ b o, b < W.heap.size → w1.frozen? ⟨b, o, none⟩ = W.frozen? ⟨b, o, none⟩) :=
 ⟨fun b o h => hb.cell (p := ⟨b, o, none⟩) h, fun b o h => hb.frozen (p := ⟨b, o, none⟩) h⟩
end Go.Proofs.YtccnkebkgegohaaGreatDoor
namespace Go.Rel
open Go.RowKit
variable {P : Program} {ops : Array Oper} {R : World → World → Prop} {w0 : World} {Q : Act → World → Prop}
/-- the value is this one -/
abbrev Is (c : Value) : Value → World → Prop := fun v _ => v = c
theorem rel_cons {o : Oper} {rest : List Oper} {φ : Value → World → Prop} {φs : List (Value → World → Prop)} {k : Nat} {a : Act} {F : Nat → World → Prop}
  (h1 : ∀ w, R w0 w → facts F o w → step P ops R o a φ w) (h2 : ∀ v, wpRel P ops R w0 Q rest φs (k + 1) (a.put o.dst v) (fun j w => if j = k then φ v w else F j w)) :
  wpRel P ops R w0 Q (o :: rest) (φ :: φs) k a F := ⟨h1, h2⟩
theorem rel_nil {φs : List (Value → World → Prop)} {k : Nat} {a : Act} {F : Nat → World → Prop} (h : ∀ w, R w0 w → (∀ j, j < k → F j w) → Q a w) : wpRel P ops R w0 Q [] φs k a F := h
theorem upon_value {w w' : World} {φ : Value → World → Prop} {v : Value} : upon P R w φ (.ok (.value v) w') = (R w w' ∧ φ v w') := rfl
theorem upon_skip {w w' : World} {φ : Value → World → Prop} : upon P R w φ (.ok .skip w') = (R w w' ∧ φ undef w') := rfl
theorem upon_enter {w w' : World} {φ : Value → World → Prop} {f : FuncId} {args : Array Value} : upon P R w φ (.ok (.enter f args) w') = Calls P f args w' (fun e w'' => ∃ v, e = .returned v ∧ R w w'' ∧ φ v w'') := rfl
attribute [go_sem] step upon_value upon_skip upon_enter
def stable (R : World → World → Prop) : List (Value → World → Prop) → Prop
 | [] => True
 | φ :: φs => (∀ v w w', φ v w → R w w' → φ v w') ∧ stable R φs
theorem stable_mem : ∀ {Vs : List (Value → World → Prop)}, stable R Vs → ∀ φ ∈ Vs, ∀ v w w', φ v w → R w w' → φ v w'
 | [], _, φ, hφ => by cases hφ
 | ψ :: Vs, h, φ, hφ => by
  rcases List.mem_cons.1 hφ with rfl | h'
  ·exact h.1
  ·exact stable_mem h.2 φ h'
/-- nothing that lay there is turned -/
def Grows (w w' : World) : Prop := Below w.heap.size w w'
theorem Grows.refl (w : World) : Grows w w := Below.refl _ _
theorem Grows.trans {a b c : World} (h : Grows a b) (k : Grows b c) : Grows a c := Below.trans h (Below.mono k h.size)
theorem Grows.cells {W w1 : World} (hb : Grows W w1) : (∀ b o, b < W.heap.size → w1.cell? ⟨b, o, none⟩ = W.cell? ⟨b, o, none⟩) ∧ (∀ b o, b < W.heap.size → w1.frozen? ⟨b, o, none⟩ = W.frozen? ⟨b, o, none⟩) :=
 ⟨fun b o h => Below.cell (p := ⟨b, o, none⟩) hb h, fun b o h => Below.frozen (p := ⟨b, o, none⟩) hb h⟩
/-- the law, where the operations before the tail only make memory (nothing that lay there is turned) -/
theorem wp_region_grow {id : Nat} {Q : Exit → Act → World → Prop} {a : Act} {w : World} {l : List Oper} (n : Nat) (Vs : List (Value → World → Prop))
  (hm : P.follows .mixedOrders = true) (hB : relB l.toArray n = true) (hlen : Vs.length = n) (hst : stable Grows Vs)
  (h : wpRel P l.toArray Grows w (fun a' w' => wpList P l.toArray Q (l.drop n) a' w') (l.take n) Vs 0 a (fun _ _ => True)) : (Code.region id l.toArray true).wp P Q a w :=
 wp_region_rel n Grows Vs hm hB hlen Grows.refl (fun _ _ _ => Grows.trans) (stable_mem hst) w (Below.drew (Below.refl _ w)) h
end Go.Rel
namespace Go.Proofs.YtccnkebkgegohaaGreatDoor
open Go.RowKit
/-! ### SLICES THAT READ AS A LIST -/
/-- from ⟨b, off⟩ on lie the cells of the rows xs, k cells each -/
def Cells (w : World) (b off k : Nat) (xs : List (List Value)) : Prop :=
 b < w.heap.size ∧ ∀ (i j : Nat) (u : Value), (xs[i]?).bind (·[j]?) = some u → w.cell? ⟨b, off + i * k + j, none⟩ = some u
def Sl (w : World) (k : Nat) (v : Value) (xs : List (List Value)) : Prop :=
 ∃ a c, v = .slice a xs.length c ∧ xs.length ≤ c ∧ c ≤ 9223372036854775807 ∧ (xs = [] ∨ ∃ b off, a = some ⟨b, off, none⟩ ∧ Cells w b off k xs)
theorem Cells.mono {w w' : World} {b off k : Nat} {xs : List (List Value)} (h : Cells w b off k xs) {B : Nat} (hb : Below B w w') (hB : b < B) : Cells w' b off k xs :=
 ⟨Nat.lt_of_lt_of_le h.1 hb.size, fun i j u hu => (hb.cell (p := ⟨b, _, none⟩) hB).trans (h.2 i j u hu)⟩
theorem Sl.mono {w w' : World} {k : Nat} {v : Value} {xs : List (List Value)} (h : Sl w k v xs) (hb : Below w.heap.size w w') : Sl w' k v xs := by
 obtain ⟨a, c, hv, hc, hm, h | ⟨b, off, ha, hcs⟩⟩ := h
 ·exact ⟨a, c, hv, hc, hm, .inl h⟩
 ·exact ⟨a, c, hv, hc, hm, .inr ⟨b, off, ha, hcs.mono hb hcs.1⟩⟩
theorem Sl.cases {w : World} {k : Nat} {v : Value} {xs : List (List Value)} (h : Sl w k v xs) :
  (xs = [] ∧ ∃ a c, v = .slice a 0 c ∧ c ≤ 9223372036854775807) ∨ (∃ b off c, v = .slice (some ⟨b, off, none⟩) xs.length c ∧ xs.length ≤ c ∧ c ≤ 9223372036854775807 ∧ 0 < xs.length ∧ Cells w b off k xs) := by
 obtain ⟨a, c, hv, hc, hm, h | ⟨b, off, ha, hcs⟩⟩ := h
 ·subst h; exact .inl ⟨rfl, a, c, hv, hm⟩
 ·by_cases hx : xs = []
  ·subst hx; exact .inl ⟨rfl, a, c, hv, hm⟩
  ·subst ha
   exact .inr ⟨b, off, c, hv, hc, hm, List.length_pos_iff.2 hx, hcs⟩
abbrev SlS (w : World) (v : Value) (l : List Sol) : Prop := Sl w 8 v (l.map solL)
theorem sol_cells {w : World} {b off : Nat} {l : List Sol} (h : Cells w b off 8 (l.map solL)) {k : Nat} {x : Sol} (hx : l[k]? = some x) :
  w.cell? ⟨b, off + k * 8, none⟩ = some (.int .u64 (pl x 0)) ∧ w.cell? ⟨b, off + k * 8 + 1, none⟩ = some (.int .u64 (pl x 1)) ∧ w.cell? ⟨b, off + k * 8 + 2, none⟩ = some (.int .u64 (pl x 2)) ∧
  w.cell? ⟨b, off + k * 8 + 3, none⟩ = some (.int .u64 (pl x 3)) ∧ w.cell? ⟨b, off + k * 8 + 4, none⟩ = some (.int .u64 (pl x 4)) ∧ w.cell? ⟨b, off + k * 8 + 5, none⟩ = some (.int .u64 (pl x 5)) ∧
  w.cell? ⟨b, off + k * 8 + 6, none⟩ = some (.int .u64 (pl x 6)) ∧ w.cell? ⟨b, off + k * 8 + 7, none⟩ = some (.int .u64 (pl x 7)) :=
 ⟨h.2 k 0 _ (by simp [hx]), h.2 k 1 _ (by simp [hx]), h.2 k 2 _ (by simp [hx]), h.2 k 3 _ (by simp [hx]), h.2 k 4 _ (by simp [hx]), h.2 k 5 _ (by simp [hx]), h.2 k 6 _ (by simp [hx]), h.2 k 7 _ (by simp [hx])⟩

/-! ### THE FIRST INDEX AT WHICH -/
def idx {α : Type} (p : α → Bool) (l : List α) : Int := match l.findIdx? p with | some i => (i : Int) | none => -1
theorem idx_found {α : Type} {p : α → Bool} {l : List α} {k : Nat} {x : α} (hx : l[k]? = some x) (hp : p x = true) (hb : ∀ (j : Nat) (y : α), j < k → l[j]? = some y → p y = false) : idx p l = (k : Int) := by
 have hk : k < l.length := (List.getElem?_eq_some_iff.1 hx).1
 have : l.findIdx? p = some k := by
  rw [List.findIdx?_eq_some_iff_getElem]
  refine ⟨hk, ?_, fun j hj => ?_⟩
  ·have := (List.getElem?_eq_some_iff.1 hx).2; rw [this]; exact hp
  ·have := hb j (l[j]'(by omega)) hj (by simp [show j < l.length by omega]); simp [this]
 unfold idx; rw [this]
theorem idx_none {α : Type} {p : α → Bool} {l : List α} (hb : ∀ (j : Nat) (y : α), l[j]? = some y → p y = false) : idx p l = -1 := by
 have : l.findIdx? p = none := by
  rw [List.findIdx?_eq_none_iff]
  intro x hx
  obtain ⟨j, hj⟩ := List.mem_iff_getElem?.1 hx
  exact hb j x hj
 unfold idx; rw [this]
theorem idx_nonneg {α : Type} {p : α → Bool} {l : List α} : (0 ≤ idx p l) = (l.any p = true) := by
 unfold idx
 cases h : l.findIdx? p with
 | none =>
  have := List.findIdx?_eq_none_iff.1 h
  simp only [eq_iff_iff]
  constructor
  ·intro h; omega
  ·intro h'
   obtain ⟨x, hx, hp⟩ := List.any_eq_true.1 h'
   rw [this x hx] at hp; cases hp
 | some i =>
  obtain ⟨hi, hp, _⟩ := List.findIdx?_eq_some_iff_getElem.1 h
  simp only [eq_iff_iff]
  constructor
  ·intro _; exact List.any_eq_true.2 ⟨l[i], by simp, hp⟩
  ·intro _; omega
theorem idx_lt {α : Type} {p : α → Bool} {l : List α} : idx p l < l.length ∨ idx p l = -1 := by
 unfold idx
 cases h : l.findIdx? p with
 | none => exact .inr rfl
 | some i =>
  obtain ⟨hi, _, _⟩ := List.findIdx?_eq_some_iff_getElem.1 h
  exact .inl (by simpa using hi)
theorem idx_ge {α : Type} (p : α → Bool) (l : List α) : -1 ≤ idx p l := by
 unfold idx; cases l.findIdx? p <;> simp <;> omega
end Go.Proofs.YtccnkebkgegohaaGreatDoor
namespace Go.Proofs.YtccnkebkgegohaaGreatDoor
theorem ret_int {k : IntKind} {a b : Int} (h : a = b) : Ending.returned (.int k a) = .returned (.int k b) := by rw [h]
theorem ret_bool {a b : Bool} (h : a = b) : Ending.returned (.bool a) = .returned (.bool b) := by rw [h]
end Go.Proofs.YtccnkebkgegohaaGreatDoor
end
section
namespace Go.Proofs.YtccnkebkgegohaaGreatDoor
open Go.RowKit Go.Rel
set_option maxRecDepth 100000
/-! what makes memory alone, found by its form -/
theorem bel_by {B : Nat} {a b : World} (h : Below B a b := by repeat (first | with_reducible exact bel_refl _ | with_reducible assumption | with_reducible refine bel_drewN ?_ _ | with_reducible refine bel_drew ?_ | with_reducible refine bel_alloc ?_ _ | with_reducible refine bel_row ?_ ?_ _ | with_reducible refine bel_set ?_ ?_ _ | refine bel_trans ?_ (by with_reducible assumption) | (simp; done) | (simp; omega))) : Below B a b := h
end Go.Proofs.YtccnkebkgegohaaGreatDoor
end
section
namespace Go.Proofs.YtccnkebkgegohaaGreatDoor
open Go.RowKit
set_option maxRecDepth 100000
set_option maxHeartbeats 1000000 in
theorem Meet_any (a0 a1 a2 a3 a4 a5 a6 a7 b0 b1 b2 b3 b4 b5 b6 b7 : Int) (w : World) :
    Calls Tryz.prog 189 #[.agg #[.int .u64 a0, .int .u64 a1, .int .u64 a2, .int .u64 a3, .int .u64 a4, .int .u64 a5, .int .u64 a6, .int .u64 a7], .agg #[.int .u64 b0, .int .u64 b1, .int .u64 b2, .int .u64 b3, .int .u64 b4, .int .u64 b5, .int .u64 b6, .int .u64 b7]] w fun e w' =>
     e = .returned (.agg #[.int .u64 (bits .and .u64 a0 b0), .int .u64 (bits .and .u64 a1 b1), .int .u64 (bits .and .u64 a2 b2), .int .u64 (bits .and .u64 a3 b3), .int .u64 (bits .and .u64 a4 b4), .int .u64 (bits .and .u64 a5 b5), .int .u64 (bits .and .u64 a6 b6), .int .u64 (bits .and .u64 a7 b7)]) ∧ Below w.heap.size w w' := by
  go_enter Tryz.func189, Tryz.ntmps189
  go_wp2
  refine wp_loop_rounds 9 ?_
  iterate 8
    rw [rounds_succ]
    go_wp2
    refine Go.Rel.region_still_tail 7 (by kernel_rfl) (by kernel_rfl) ?_
    simp only [List.take_succ_cons, List.take_zero, List.drop_succ_cons, List.drop_zero]
    repeat still_step
    refine wpStill_nil ?_
    go_wp2
  rw [rounds_succ]
  go_wp2
  refine bodyPost_ret (by simp [results, Tryz.results189, go_sem]) rfl ⟨rfl, ?_⟩
  repeat first | exact bel_refl _ | refine bel_drew ?_ | refine bel_alloc ?_ _
theorem Meet_spec (a b : Sol) (w : World) : Calls Tryz.prog 189 #[solV a, solV b] w fun e w' => e = .returned (solV (a &&& b)) ∧ Below w.heap.size w w' := by
 refine (Meet_any (pl a 0) (pl a 1) (pl a 2) (pl a 3) (pl a 4) (pl a 5) (pl a 6) (pl a 7) (pl b 0) (pl b 1) (pl b 2) (pl b 3) (pl b 4) (pl b 5) (pl b 6) (pl b 7) w).mono ?_
 rintro e w' ⟨rfl, hb⟩
 refine ⟨?_, hb⟩
 rw [bits_and_pl a b 0, bits_and_pl a b 1, bits_and_pl a b 2, bits_and_pl a b 3, bits_and_pl a b 4, bits_and_pl a b 5, bits_and_pl a b 6, bits_and_pl a b 7]

set_option maxHeartbeats 1000000 in
theorem Join_any (a0 a1 a2 a3 a4 a5 a6 a7 b0 b1 b2 b3 b4 b5 b6 b7 : Int) (w : World) :
    Calls Tryz.prog 184 #[.agg #[.int .u64 a0, .int .u64 a1, .int .u64 a2, .int .u64 a3, .int .u64 a4, .int .u64 a5, .int .u64 a6, .int .u64 a7], .agg #[.int .u64 b0, .int .u64 b1, .int .u64 b2, .int .u64 b3, .int .u64 b4, .int .u64 b5, .int .u64 b6, .int .u64 b7]] w fun e w' =>
     e = .returned (.agg #[.int .u64 (bits .or .u64 a0 b0), .int .u64 (bits .or .u64 a1 b1), .int .u64 (bits .or .u64 a2 b2), .int .u64 (bits .or .u64 a3 b3), .int .u64 (bits .or .u64 a4 b4), .int .u64 (bits .or .u64 a5 b5), .int .u64 (bits .or .u64 a6 b6), .int .u64 (bits .or .u64 a7 b7)]) ∧ Below w.heap.size w w' := by
  go_enter Tryz.func184, Tryz.ntmps184
  go_wp2
  refine wp_loop_rounds 9 ?_
  iterate 8
    rw [rounds_succ]
    go_wp2
    refine Go.Rel.region_still_tail 7 (by kernel_rfl) (by kernel_rfl) ?_
    simp only [List.take_succ_cons, List.take_zero, List.drop_succ_cons, List.drop_zero]
    repeat still_step
    refine wpStill_nil ?_
    go_wp2
  rw [rounds_succ]
  go_wp2
  refine bodyPost_ret (by simp [results, Tryz.results184, go_sem]) rfl ⟨rfl, ?_⟩
  repeat first | exact bel_refl _ | refine bel_drew ?_ | refine bel_alloc ?_ _
theorem Join_spec (a b : Sol) (w : World) : Calls Tryz.prog 184 #[solV a, solV b] w fun e w' => e = .returned (solV (a ||| b)) ∧ Below w.heap.size w w' := by
 refine (Join_any (pl a 0) (pl a 1) (pl a 2) (pl a 3) (pl a 4) (pl a 5) (pl a 6) (pl a 7) (pl b 0) (pl b 1) (pl b 2) (pl b 3) (pl b 4) (pl b 5) (pl b 6) (pl b 7) w).mono ?_
 rintro e w' ⟨rfl, hb⟩
 refine ⟨?_, hb⟩
 rw [bits_or_pl a b 0, bits_or_pl a b 1, bits_or_pl a b 2, bits_or_pl a b 3, bits_or_pl a b 4, bits_or_pl a b 5, bits_or_pl a b 6, bits_or_pl a b 7]

set_option maxHeartbeats 1000000 in
theorem Less_any (a0 a1 a2 a3 a4 a5 a6 a7 b0 b1 b2 b3 b4 b5 b6 b7 : Int) (w : World) :
    Calls Tryz.prog 183 #[.agg #[.int .u64 a0, .int .u64 a1, .int .u64 a2, .int .u64 a3, .int .u64 a4, .int .u64 a5, .int .u64 a6, .int .u64 a7], .agg #[.int .u64 b0, .int .u64 b1, .int .u64 b2, .int .u64 b3, .int .u64 b4, .int .u64 b5, .int .u64 b6, .int .u64 b7]] w fun e w' =>
     e = .returned (.agg #[.int .u64 (bits .andNot .u64 a0 b0), .int .u64 (bits .andNot .u64 a1 b1), .int .u64 (bits .andNot .u64 a2 b2), .int .u64 (bits .andNot .u64 a3 b3), .int .u64 (bits .andNot .u64 a4 b4), .int .u64 (bits .andNot .u64 a5 b5), .int .u64 (bits .andNot .u64 a6 b6), .int .u64 (bits .andNot .u64 a7 b7)]) ∧ Below w.heap.size w w' := by
  go_enter Tryz.func183, Tryz.ntmps183
  go_wp2
  refine wp_loop_rounds 9 ?_
  iterate 8
    rw [rounds_succ]
    go_wp2
    refine Go.Rel.region_still_tail 7 (by kernel_rfl) (by kernel_rfl) ?_
    simp only [List.take_succ_cons, List.take_zero, List.drop_succ_cons, List.drop_zero]
    repeat still_step
    refine wpStill_nil ?_
    go_wp2
  rw [rounds_succ]
  go_wp2
  refine bodyPost_ret (by simp [results, Tryz.results183, go_sem]) rfl ⟨rfl, ?_⟩
  repeat first | exact bel_refl _ | refine bel_drew ?_ | refine bel_alloc ?_ _
theorem Less_spec (a b : Sol) (w : World) : Calls Tryz.prog 183 #[solV a, solV b] w fun e w' => e = .returned (solV (a &&& ~~~b)) ∧ Below w.heap.size w w' := by
 refine (Less_any (pl a 0) (pl a 1) (pl a 2) (pl a 3) (pl a 4) (pl a 5) (pl a 6) (pl a 7) (pl b 0) (pl b 1) (pl b 2) (pl b 3) (pl b 4) (pl b 5) (pl b 6) (pl b 7) w).mono ?_
 rintro e w' ⟨rfl, hb⟩
 refine ⟨?_, hb⟩
 rw [bits_andNot_pl a b 0 (by omega), bits_andNot_pl a b 1 (by omega), bits_andNot_pl a b 2 (by omega), bits_andNot_pl a b 3 (by omega), bits_andNot_pl a b 4 (by omega), bits_andNot_pl a b 5 (by omega), bits_andNot_pl a b 6 (by omega), bits_andNot_pl a b 7 (by omega)]

end Go.Proofs.YtccnkebkgegohaaGreatDoor
end
section
namespace Go.Proofs.YtccnkebkgegohaaGreatDoor
open Go.RowKit Go.Rel
set_option maxRecDepth 100000
set_option maxHeartbeats 1000000 in
theorem In_spec (a b : Sol) (w : World) : Calls Tryz.prog 274 #[solV a, solV b] w fun e w' => e = .returned (.bool (a &&& b == a)) ∧ Below w.heap.size w w' := by
 go_enter Tryz.func274, Tryz.ntmps274
 go_wp2
 refine wp_region_grow 6 [Is (solV a), Is (solV b), Is (solV (a &&& b)), Is (solV a), Is (.bool (a &&& b == a)), Is (.bool (a &&& b == a))] (by kernel_rfl) (by kernel_rfl) rfl ⟨fun _ _ _ h _ => h, fun _ _ _ h _ => h, fun _ _ _ h _ => h, fun _ _ _ h _ => h, fun _ _ _ h _ => h, fun _ _ _ h _ => h, trivial⟩ ?_
 simp only [List.take_succ_cons, List.take_zero, List.drop_succ_cons, List.drop_zero]
 iterate 2 (refine rel_cons ?_ (fun _ => ?_); · intro w1 hb hF; have hc := (Grows.cells hb).1; have hf := (Grows.cells hb).2; (try simp [facts, Is] at hF); go_simp; exact Grows.refl _)
 refine rel_cons ?_ (fun v2 => ?_)
 ·intro w1 hb hF; have hc := (Grows.cells hb).1; have hf := (Grows.cells hb).2; try simp [facts, Is] at hF
  go_simp
  refine (Meet_spec a b w1).mono ?_
  rintro e w2 ⟨rfl, h2⟩
  exact ⟨rfl, h2⟩
 iterate 3 (refine rel_cons ?_ (fun _ => ?_); · intro w1 hb hF; have hc := (Grows.cells hb).1; have hf := (Grows.cells hb).2; (try simp [facts, Is] at hF); go_simp; exact Grows.refl _)
 refine rel_nil ?_
 intro w1 hb hF
 simp [Is, Nat.forall_lt_succ_right] at hF
 obtain ⟨⟨⟨⟨⟨rfl, rfl⟩, rfl⟩, rfl⟩, rfl⟩, rfl⟩ := hF
 refine wpList_nil ?_
 simp only [Act.put, List.setIfInBounds_toArray, List.set_cons_succ, List.set_cons_zero]
 go_wp2
 go_ret
 exact ⟨rfl, bel_trans bel_by hb⟩
end Go.Proofs.YtccnkebkgegohaaGreatDoor
end
section
namespace Go.Proofs.YtccnkebkgegohaaGreatDoor
open Go.RowKit Go.Rel
set_option maxRecDepth 100000
set_option maxHeartbeats 1000000 in
theorem IndexSol_spec (v : Value) (l : List Sol) (s : Sol) (w : World) (h : SlS w v l) :
  Calls Tryz.prog 153 #[v, solV s] w fun e w' => e = .returned (.int .i64 (idx (fun x => s == x) l)) ∧ Below w.heap.size w w' := by
 rcases h.cases with ⟨hl, a, c, rfl, hm⟩ | ⟨b, off, c, rfl, hc, hm, hpos, hcs⟩
 ·have hl' : l = [] := by simpa using hl
  subst hl'
  clear hl
  go_enter Tryz.func153, Tryz.ntmps153
  go_wp2
  refine wp_loop_rounds 1 ?_
  rw [rounds_succ]
  go_wp2
  go_ret
  exact ⟨rfl, bel_alloc (bel_refl w) _⟩
 ·rw [List.length_map] at hc hpos ⊢
  have hb := hcs.1
  have H := Lib.hid hcs; clear hcs h
  generalize hn : l.length = n at hc hpos ⊢
  have HN := Lib.hid hn; clear hn
  go_enter Tryz.func153, Tryz.ntmps153
  go_wp2
  go_loopw [4, 5, 8] (fun _ _ i wr => ∃ k m : Nat, k ≤ n ∧ i = .int .i64 k ∧ Hid (∀ (j : Nat) (y : Sol), j < k → l[j]? = some y → (s == y) = false) ∧ wr = (w.alloc (.cells #[.int .u64 (pl s 0), .int .u64 (pl s 1), .int .u64 (pl s 2), .int .u64 (pl s 3), .int .u64 (pl s 4), .int .u64 (pl s 5), .int .u64 (pl s 6), .int .u64 (pl s 7)] 24)).drewN m) (fun _ _ i _ => n - (intOf i).toNat)
  case atStart => exact ⟨0, 0, Nat.zero_le _, rfl, fun j y hj => by omega, rfl⟩
  case round =>
   obtain ⟨k, m, hk, rfl, HP, rfl⟩ := hrel
   by_cases hlt : k < n
   ·obtain ⟨x, hx⟩ : ∃ x, l[k]? = some x := ⟨l[k]'(by rw [HN.out]; exact hlt), by simp [HN.out, hlt]⟩
    obtain ⟨c0, c1, c2, c3, c4, c5, c6, c7⟩ := sol_cells H.out hx
    have HX := Lib.hid hx; clear hx
    go_wp2
    go_quiet (fail)
    go_wp2
    ·have he : (s == x) = true := by assumption
     go_ret
     exact ⟨ret_int (idx_found HX.out he HP.out).symm, bel_by⟩
    ·have he : (s == x) = false := by assumption
     go_roundw
     case rel => exact ⟨k + 1, m + nq, by omega, by go_num, fun j y hj hy => by
      rcases Nat.lt_or_eq_of_le (Nat.le_of_lt_succ hj) with h | h
      ·exact HP.out j y h hy
      ·subst h; rw [HX.out] at hy; cases hy; exact he, rfl⟩
     case measure => simp [intOf]; omega
   ·go_wp2
    go_ret
    exact ⟨ret_int (idx_none (fun j y hy => HP.out j y (by have := (List.getElem?_eq_some_iff.1 hy).1; rw [HN.out] at this; omega) hy)).symm, bel_by⟩
end Go.Proofs.YtccnkebkgegohaaGreatDoor
end
section
namespace Go.Proofs.YtccnkebkgegohaaGreatDoor
open Go.RowKit Go.Rel
theorem Sl.out {w : World} {k : Nat} {v : Value} {xs : List (List Value)} (h : Sl w k v xs) : ∃ a n c, v = .slice a n c ∧ n = xs.length ∧ n ≤ c ∧ c ≤ 9223372036854775807 := by
 obtain ⟨a, c, hv, hc, hm, _⟩ := h
 exact ⟨a, xs.length, c, hv, rfl, hc, hm⟩
theorem SlS.out {w : World} {v : Value} {l : List Sol} (h : SlS w v l) : ∃ a n c, v = .slice a n c ∧ n = l.length ∧ n ≤ c ∧ c ≤ 9223372036854775807 := by
 obtain ⟨a, n, c, h1, h2, h3⟩ := Sl.out h
 exact ⟨a, n, c, h1, by simpa using h2, h3⟩
/-- D1: what is wrong with a pattern -/
def chkPat (blank : Sol) (l : List Sol) : Int := if 8 < l.length then 2 else if blank == 0#512 || l.any (fun x => 0#512 == x) then 1 else 0
end Go.Proofs.YtccnkebkgegohaaGreatDoor
end
section
namespace Go.Proofs.YtccnkebkgegohaaGreatDoor
open Go.RowKit Go.Rel
set_option maxRecDepth 100000
set_option maxHeartbeats 1000000 in
theorem ContainsSol_spec (v : Value) (l : List Sol) (s : Sol) (w : World) (h : SlS w v l) :
  Calls Tryz.prog 103 #[v, solV s] w fun e w' => e = .returned (.bool (l.any fun x => s == x)) ∧ Below w.heap.size w w' := by
 have hge := idx_ge (fun x => s == x) l
 have hany : Hid ((l.any fun x => s == x) = decide (0 ≤ idx (fun x => s == x) l)) := by
  show _ = _
  rw [Bool.eq_iff_iff, decide_eq_true_eq, idx_nonneg]
 generalize hi : idx (fun x => s == x) l = i at hge hany
 have HI := Lib.hid hi; clear hi
 go_enter Tryz.func103, Tryz.ntmps103
 go_wp2_with fail
 refine (IndexSol_spec v l s _ (h.mono bel_by)).mono ?_
 rintro e w1 ⟨rfl, hb⟩
 rw [HI.out]
 go_wp2_with fail
 go_ret
 refine ⟨?_, bel_trans bel_by hb⟩
 rw [hany.out]
 rfl
theorem ContainsSol0_spec (v : Value) (l : List Sol) (w : World) (h : SlS w v l) :
  Calls Tryz.prog 103 #[v, .agg #[.int .u64 0, .int .u64 0, .int .u64 0, .int .u64 0, .int .u64 0, .int .u64 0, .int .u64 0, .int .u64 0]] w fun e w' => e = .returned (.bool (l.any fun x => 0#512 == x)) ∧ Below w.heap.size w w' := by
 have := ContainsSol_spec v l 0 w h
 simp only [solV, pl_zero] at this
 exact this
set_option maxHeartbeats 1000000 in
theorem CheckPattern_spec (blank : Sol) (v : Value) (l : List Sol) (w : World) (H : SlS w v l) :
  Calls Tryz.prog 34 #[.agg #[.int .u64 (pl blank 0), .int .u64 (pl blank 1), .int .u64 (pl blank 2), .int .u64 (pl blank 3), .int .u64 (pl blank 4), .int .u64 (pl blank 5), .int .u64 (pl blank 6), .int .u64 (pl blank 7), v]] w fun e w' => e = .returned (.int .i64 (chkPat blank l)) ∧ Below w.heap.size w w' := by
 obtain ⟨a, n, c, rfl, hn, hc, hm⟩ := H.out
 have HC : Hid (chkPat blank l = if 8 < n then 2 else if blank == 0#512 || l.any (fun x => 0#512 == x) then 1 else 0) := by subst hn; rfl
 have HN := Lib.hid hn; clear hn
 by_cases h8 : 8 < n
 ·go_enter Tryz.func34, Tryz.ntmps34
  go_wp2_with fail
  go_ret
  exact ⟨ret_int (by rw [HC.out, if_pos h8]), bel_by⟩
 ·cases hb0 : (blank == 0#512) with
  | true =>
   go_enter Tryz.func34, Tryz.ntmps34
   go_wp2_with fail
   go_ret
   exact ⟨ret_int (by rw [HC.out, if_neg h8, hb0]; rfl), bel_by⟩
  | false =>
   have hcon := ContainsSol0_spec _ l (w.alloc (.cells #[.int .u64 (pl blank 0), .int .u64 (pl blank 1), .int .u64 (pl blank 2), .int .u64 (pl blank 3), .int .u64 (pl blank 4), .int .u64 (pl blank 5), .int .u64 (pl blank 6), .int .u64 (pl blank 7), .slice a n c] 27)) (H.mono bel_by)
   cases hx : (l.any fun x => 0#512 == x) with
   | true =>
    rw [hx] at hcon
    have HX := Lib.hid hx; clear hx
    have HCON := Lib.hid hcon; clear hcon
    go_enter Tryz.func34, Tryz.ntmps34
    go_wp2_with fail
    refine HCON.out.mono ?_
    rintro e w1 ⟨rfl, hb⟩
    go_wp2_with fail
    go_ret
    exact ⟨ret_int (by rw [HC.out, if_neg h8, hb0, HX.out]; rfl), bel_trans bel_by hb⟩
   | false =>
    rw [hx] at hcon
    have HX := Lib.hid hx; clear hx
    have HCON := Lib.hid hcon; clear hcon
    go_enter Tryz.func34, Tryz.ntmps34
    go_wp2_with fail
    refine HCON.out.mono ?_
    rintro e w1 ⟨rfl, hb⟩
    go_wp2_with fail
    go_ret
    exact ⟨ret_int (by rw [HC.out, if_neg h8, hb0, HX.out]; rfl), bel_trans bel_by hb⟩
end Go.Proofs.YtccnkebkgegohaaGreatDoor
end
section
namespace Go.Proofs.YtccnkebkgegohaaGreatDoor
open Go.RowKit Go.Rel
set_option maxRecDepth 100000
/-- an action: kind, piece, cells -/
abbrev Ac := Nat × Int × Sol
abbrev acL (a : Ac) : List Value := [.int .u8 a.1, .int .i64 a.2.1, .int .u64 (pl a.2.2 0), .int .u64 (pl a.2.2 1), .int .u64 (pl a.2.2 2), .int .u64 (pl a.2.2 3), .int .u64 (pl a.2.2 4), .int .u64 (pl a.2.2 5), .int .u64 (pl a.2.2 6), .int .u64 (pl a.2.2 7)]
/-- a deed: 1 cut, 2 fit, 3 take; the piece's bit; the cells -/
abbrev Deed := Nat × Int × Sol
def deedV (d : Deed) : Value :=
 if d.1 = 1 then .iface 212 (.agg #[.int .u64 (pl d.2.2 0), .int .u64 (pl d.2.2 1), .int .u64 (pl d.2.2 2), .int .u64 (pl d.2.2 3), .int .u64 (pl d.2.2 4), .int .u64 (pl d.2.2 5), .int .u64 (pl d.2.2 6), .int .u64 (pl d.2.2 7)])
 else if d.1 = 2 then .iface 217 (.agg #[.int .u8 d.2.1, .int .u64 (pl d.2.2 0), .int .u64 (pl d.2.2 1), .int .u64 (pl d.2.2 2), .int .u64 (pl d.2.2 3), .int .u64 (pl d.2.2 4), .int .u64 (pl d.2.2 5), .int .u64 (pl d.2.2 6), .int .u64 (pl d.2.2 7)])
 else .iface 218 (.agg #[.int .u8 d.2.1, .int .u64 (pl d.2.2 0), .int .u64 (pl d.2.2 1), .int .u64 (pl d.2.2 2), .int .u64 (pl d.2.2 3), .int .u64 (pl d.2.2 4), .int .u64 (pl d.2.2 5), .int .u64 (pl d.2.2 6), .int .u64 (pl d.2.2 7)])
/-- whether an action is as said, for a number of pieces -/
def fits (n : Nat) (a : Ac) : Bool :=
 if a.1 = 1 then a.2.1 == 0 && !(a.2.2 == 0#512)
 else (a.1 == 2 || a.1 == 3) && decide (0 ≤ a.2.1) && decide (a.2.1 < n) && a.2.2 == 0#512
def bitOf (p : Int) : Int := 2 ^ p.toNat
/-- the cells of an action that is as said -/
def acCells (l : List Sol) (a : Ac) : Sol := if a.1 = 1 then a.2.2 else l.getD a.2.1.toNat 0
def made (l : List Sol) (a : Ac) : Deed := (a.1, if a.1 = 1 then 0 else bitOf a.2.1, acCells l a)

theorem hmf (fn : Fn) (first cap : Array Value) (w : World) : (Instr.makeFunc fn first cap).run Tryz.prog w = .ok (.func fn first cap) w := rfl

set_option maxHeartbeats 1000000 in
theorem kept_no (blank : Sol) (a : Option Addr) (n c : Nat) (K : Nat) (p : Int) (s : Sol) (w : World) (hn : n ≤ 8) (hno : p < 0 ∨ (n : Int) ≤ p ∨ (s == 0#512) = false) :
  Calls Tryz.prog 185 #[.agg #[.int .u64 (pl blank 0), .int .u64 (pl blank 1), .int .u64 (pl blank 2), .int .u64 (pl blank 3), .int .u64 (pl blank 4), .int .u64 (pl blank 5), .int .u64 (pl blank 6), .int .u64 (pl blank 7), .slice a n c], .agg #[.int .u8 K, .int .i64 p, .int .u64 (pl s 0), .int .u64 (pl s 1), .int .u64 (pl s 2), .int .u64 (pl s 3), .int .u64 (pl s 4), .int .u64 (pl s 5), .int .u64 (pl s 6), .int .u64 (pl s 7)]] w fun e w' =>
   e = .returned (.tuple #[.agg #[.int .u8 0, .int .u64 0, .int .u64 0, .int .u64 0, .int .u64 0, .int .u64 0, .int .u64 0, .int .u64 0, .int .u64 0], .bool false]) ∧ Below w.heap.size w w' := by
 by_cases h1 : p < 0
 ·go_enter Tryz.func185, Tryz.ntmps185
  go_wp2
  exact bodyPost_ret (by simp [results, Tryz.results185, go_sem]) rfl ⟨rfl, bel_by⟩
 ·by_cases h2 : (n : Int) ≤ p
  ·go_enter Tryz.func185, Tryz.ntmps185
   go_wp2
   exact bodyPost_ret (by simp [results, Tryz.results185, go_sem]) rfl ⟨rfl, bel_by⟩
  ·have h3 : (s == 0#512) = false := by
    rcases hno with h | h | h
    ·exact absurd h h1
    ·exact absurd h h2
    ·exact h
   clear hno
   go_enter Tryz.func185, Tryz.ntmps185
   go_wp2
   exact bodyPost_ret (by simp [results, Tryz.results185, go_sem]) rfl ⟨rfl, bel_by⟩
set_option maxHeartbeats 1000000 in
theorem kept_yes (blank : Sol) (b off n c : Nat) (K : Nat) (k : Nat) (s x : Sol) (w : World) (hs : (s == 0#512) = true) (hn : n ≤ 8) (hk : k < n) (hbw : b < w.heap.size)
  (c0 : w.cell? ⟨b, off + k * 8, none⟩ = some (.int .u64 (pl x 0))) (c1 : w.cell? ⟨b, off + k * 8 + 1, none⟩ = some (.int .u64 (pl x 1))) (c2 : w.cell? ⟨b, off + k * 8 + 2, none⟩ = some (.int .u64 (pl x 2)))
  (c3 : w.cell? ⟨b, off + k * 8 + 3, none⟩ = some (.int .u64 (pl x 3))) (c4 : w.cell? ⟨b, off + k * 8 + 4, none⟩ = some (.int .u64 (pl x 4))) (c5 : w.cell? ⟨b, off + k * 8 + 5, none⟩ = some (.int .u64 (pl x 5)))
  (c6 : w.cell? ⟨b, off + k * 8 + 6, none⟩ = some (.int .u64 (pl x 6))) (c7 : w.cell? ⟨b, off + k * 8 + 7, none⟩ = some (.int .u64 (pl x 7))) :
  Calls Tryz.prog 185 #[.agg #[.int .u64 (pl blank 0), .int .u64 (pl blank 1), .int .u64 (pl blank 2), .int .u64 (pl blank 3), .int .u64 (pl blank 4), .int .u64 (pl blank 5), .int .u64 (pl blank 6), .int .u64 (pl blank 7), .slice (some ⟨b, off, none⟩) n c], .agg #[.int .u8 K, .int .i64 k, .int .u64 (pl s 0), .int .u64 (pl s 1), .int .u64 (pl s 2), .int .u64 (pl s 3), .int .u64 (pl s 4), .int .u64 (pl s 5), .int .u64 (pl s 6), .int .u64 (pl s 7)]] w fun e w' =>
   e = .returned (.tuple #[.agg #[.int .u8 (2 ^ k), .int .u64 (pl x 0), .int .u64 (pl x 1), .int .u64 (pl x 2), .int .u64 (pl x 3), .int .u64 (pl x 4), .int .u64 (pl x 5), .int .u64 (pl x 6), .int .u64 (pl x 7)], .bool true]) ∧ Below w.heap.size w w' := by
 have hw8 : IntKind.u8.wrap ((2 : Int) ^ k) = 2 ^ k := by
  obtain rfl | rfl | rfl | rfl | rfl | rfl | rfl | rfl : k = 0 ∨ k = 1 ∨ k = 2 ∨ k = 3 ∨ k = 4 ∨ k = 5 ∨ k = 6 ∨ k = 7 := by omega
  all_goals decide
 have hb1 : b < w.heap.size + 1 := by omega
 have hb2 : b < w.heap.size + 1 + 1 := by omega
 have hb3 : b < w.heap.size + 1 + 1 + 1 := by omega
 go_enter Tryz.func185, Tryz.ntmps185
 go_wp2
 refine Go.Rel.region_still_tail 10 (by kernel_rfl) (by kernel_rfl) ?_
 simp only [List.take_succ_cons, List.take_zero, List.drop_succ_cons, List.drop_zero]
 repeat still_step
 refine wpStill_nil ?_
 go_wp2
 exact bodyPost_ret (by simp [results, Tryz.results185, go_sem]) rfl ⟨rfl, bel_by⟩
end Go.Proofs.YtccnkebkgegohaaGreatDoor
end
