import Derived.Test.YtkfimbonmnoglaaGreatDoorB04
import Derived.Test.YtkfimbonmnoglaaGreatDoorProg
import Derived.WalkKit
import Derived.WalkLawsBesides
import Derived.WalkSpells
import Derived.StillTailTactics
import Derived.Deep.QuietTactic
import Derived.BigQuiet
import Derived.Outline
import Derived.Recover
import Derived.Laws.BitsLemmas
import Derived.Lib.Hide
import Derived.Laws.EntriesVeiled
import Derived.OwnWalk
import Derived.Maps.AppendAt
import Derived.Sort.Grow
/-
  Given contracts of functions of the program, and laws for them, one behind the other.
-/
set_option linter.unusedVariables false
set_option linter.unusedSimpArgs false
set_option linter.unusedSectionVars false
section
namespace Go.Solid
open Go.Draw
set_option maxRecDepth 100000
def onS (s : Sol) (p : Cl) : Prop := p ∈ ptsS s
def Link (s : Sol) (p q : Cl) : Prop := ∃ T : Ch, (∀ e, T e = true → edgeP e = true ∧ onS s e) ∧ ∀ v, evs v = true → bnd T v = (decide (v = p) ^^ decide (v = q))
theorem Link.refl (s : Sol) (p : Cl) : Link s p p := ⟨fun _ => false, fun _ h => (by cases h), fun v _ => by rw [Bool.xor_self]; unfold bnd bx bY bz; simp⟩
theorem Link.symm {s : Sol} {p q : Cl} (h : Link s p q) : Link s q p := by
 obtain ⟨T, h1, h2⟩ := h
 exact ⟨T, h1, fun v hv => by rw [h2 v hv, Bool.xor_comm]⟩
theorem Link.trans {s : Sol} {p q r : Cl} (h : Link s p q) (k : Link s q r) : Link s p r := by
 obtain ⟨T, h1, h2⟩ := h
 obtain ⟨U, k1, k2⟩ := k
 refine ⟨fun e => T e ^^ U e, fun e he => ?_, fun v hv => ?_⟩
 ·cases ht : T e with
  | true => exact h1 e ht
  | false =>
   have : U e = true := by simpa [ht] using he
   exact k1 e this
 ·rw [bnd_xor, h2 v hv, k2 v hv]
  cases decide (v = p) <;> cases decide (v = q) <;> cases decide (v = r) <;> rfl
end Go.Solid
end
section
namespace Go.Solid
open Go.Draw
set_option maxRecDepth 100000
def hR (b : Sol) (t : Nat) : Cl := subC (7, 7, 7) (hiS (spunS b t))
end Go.Solid
end
section
namespace Go.Rel
open Go.RowKit
variable {P : Program}
theorem run_all (w : World) (g : Nat → Option Bool × Unit → Sem (ForInStep (Option Bool × Unit))) (b : Nat → Bool) (l : List Nat)
  (h : ∀ i ∈ l, (g i (none, ())).run P w = .ok (if b i then ForInStep.yield (none, ()) else ForInStep.done (some false, ())) w) :
  ((forIn l (none, ()) g : Sem (Option Bool × Unit)).run P w) = .ok (if l.all b then (none, ()) else (some false, ())) w := by
 induction l with
 | nil => rfl
 | cons i l ih =>
  simp only [List.forIn_cons, Sem.run_bind, h i (by simp), Result.andThen_ok, List.all_cons]
  rcases Bool.eq_false_or_eq_true (b i) with hb | hb
  ·simpa [hb] using ih (fun j hj => h j (by simp [hj]))
  ·simp [hb]
theorem run_equalIn_array (w : World) (d : Nat) (t e : TypeId) (len n : Nat) (xs ys : Array Value) (b : Nat → Bool) (ht : P.underlying t = some (.array len e)) (hn : (sizeOf e).run P w = .ok n w)
   (h : ∀ i, i < len → (do Op.equalIn d e (← part e xs (i * n)) (← part e ys (i * n)) : Sem Bool).run P w = .ok (b i) w) :
   (Op.equalIn (d+1) t (.agg xs) (.agg ys)).run P w = .ok ((List.range len).all b) w := by
  simp only [Op.equalIn, Sem.run_bind, run_underlying ht, Result.andThen_ok, hn]
  simp only [Std.Legacy.Range.forIn_eq_forIn_range', Std.Legacy.Range.size, Nat.sub_zero, Nat.add_sub_cancel, Nat.div_one, ← List.range_eq_range']
  rw [run_all w _ b (List.range len) (fun i hi => ?_)]
  · cases (List.range len).all b <;> rfl
  · have h1 := h i (List.mem_range.1 hi)
    simp only [Sem.run_bind] at h1 ⊢
    generalize (part e xs (i * n)).run P w = r1 at h1 ⊢
    cases r1 with
    | halt x w' => cases h1
    | ok x w1 =>
      simp only [Result.andThen_ok] at h1 ⊢
      generalize (part e ys (i * n)).run P w1 = r2 at h1 ⊢
      cases r2 with
      | halt x w' => cases h1
      | ok y w2 =>
        simp only [Result.andThen_ok] at h1 ⊢
        rw [h1]
        simp only [Result.andThen_ok]
        rcases Bool.eq_false_or_eq_true (b i) with hb | hb <;> simp [hb]
end Go.Rel
namespace Go.Proofs.YtkfimbonmnoglaaGreatDoor
open Go.RowKit Go.Draw
def pl (s : Sol) (k : Nat) : Int := ((plv s k).toNat : Int)
theorem pl_eq {s t : Sol} {k : Nat} : pl s k = pl t k ↔ plv s k = plv t k := by
 unfold pl; rw [Int.ofNat_inj, BitVec.toNat_inj]
theorem plv_andNot (a b : Sol) (k : Nat) (hk : k < 8) : plv (a &&& ~~~b) k = plv a k &&& ~~~(plv b k) := by
 apply BitVec.eq_of_getLsbD_eq; intro i hi; simp [plv, hi, show 64 * k + i < 512 by omega]
theorem pl_zero (k : Nat) : pl 0 k = 0 := by unfold pl; rw [plv_zero]; rfl
theorem ofInt_pl (s : Sol) (k : Nat) : BitVec.ofInt 64 (pl s k) = plv s k := by
 unfold pl; rw [BitVec.ofInt_natCast, BitVec.ofNat_toNat]; simp
theorem wrap_u64_toNat (x : BitVec 64) : IntKind.u64.wrap (x.toNat : Int) = (x.toNat : Int) := IntWalk.u64_in _ (by have := x.isLt; omega)
theorem bits_and_pl (a b : Sol) (k : Nat) : bits .and .u64 (pl a k) (pl b k) = pl (a &&& b) k := by
 show IntKind.u64.wrap ((BitVec.ofInt 64 (pl a k) &&& BitVec.ofInt 64 (pl b k)).toNat : Int) = _
 rw [ofInt_pl, ofInt_pl, wrap_u64_toNat, ← plv_and]; rfl
theorem bits_andNot_pl (a b : Sol) (k : Nat) (hk : k < 8) : bits .andNot .u64 (pl a k) (pl b k) = pl (a &&& ~~~b) k := by
 show IntKind.u64.wrap ((BitVec.ofInt 64 (pl a k) &&& ~~~(BitVec.ofInt 64 (pl b k))).toNat : Int) = _
 rw [ofInt_pl, ofInt_pl, wrap_u64_toNat, ← plv_andNot _ _ _ hk]; rfl
attribute [irreducible] pl
/-- a solid as the value that the model has -/
abbrev solL (s : Sol) : List Value := [.int .u64 (pl s 0), .int .u64 (pl s 1), .int .u64 (pl s 2), .int .u64 (pl s 3), .int .u64 (pl s 4), .int .u64 (pl s 5), .int .u64 (pl s 6), .int .u64 (pl s 7)]
abbrev solV (s : Sol) : Value := .agg #[.int .u64 (pl s 0), .int .u64 (pl s 1), .int .u64 (pl s 2), .int .u64 (pl s 3), .int .u64 (pl s 4), .int .u64 (pl s 5), .int .u64 (pl s 6), .int .u64 (pl s 7)]
theorem sol_eq_iff (a b : Sol) : a = b ↔ (pl a 0 = pl b 0 ∧ pl a 1 = pl b 1 ∧ pl a 2 = pl b 2 ∧ pl a 3 = pl b 3 ∧ pl a 4 = pl b 4 ∧ pl a 5 = pl b 5 ∧ pl a 6 = pl b 6 ∧ pl a 7 = pl b 7) := by
 constructor
 ·rintro rfl; simp
 ·rintro ⟨h0, h1, h2, h3, h4, h5, h6, h7⟩
  refine sol_ext fun k hk => pl_eq.1 ?_
  obtain rfl | rfl | rfl | rfl | rfl | rfl | rfl | rfl : k = 0 ∨ k = 1 ∨ k = 2 ∨ k = 3 ∨ k = 4 ∨ k = 5 ∨ k = 6 ∨ k = 7 := by omega
  ·exact h0
  ·exact h1
  ·exact h2
  ·exact h3
  ·exact h4
  ·exact h5
  ·exact h6
  ·exact h7
theorem eqArr (ty : TypeId) (hty : Tryz.prog.underlying ty = some (.array 8 24)) (d : Nat) (a0 a1 a2 a3 a4 a5 a6 a7 b0 b1 b2 b3 b4 b5 b6 b7 : Int) (w : World) :
  (Op.equalIn (d+2) ty (.agg #[.int .u64 a0, .int .u64 a1, .int .u64 a2, .int .u64 a3, .int .u64 a4, .int .u64 a5, .int .u64 a6, .int .u64 a7]) (.agg #[.int .u64 b0, .int .u64 b1, .int .u64 b2, .int .u64 b3, .int .u64 b4, .int .u64 b5, .int .u64 b6, .int .u64 b7])).run Tryz.prog w = 
   .ok (a0 == b0 && (a1 == b1 && (a2 == b2 && (a3 == b3 && (a4 == b4 && (a5 == b5 && (a6 == b6 && a7 == b7))))))) w := by
  rw [Go.Rel.run_equalIn_array w (d+1) ty 24 8 1 _ _ (fun i => match i with | 0 => a0 == b0 | 1 => a1 == b1 | 2 => a2 == b2 | 3 => a3 == b3 | 4 => a4 == b4 | 5 => a5 == b5 | 6 => a6 == b6 | _ => a7 == b7) hty (by kernel_rfl)]
  · simp [List.range, List.range.loop]
  · intro i hi
    have e : ∀ x y : Int, (Op.equalIn (d+1) 24 (.int .u64 x) (.int .u64 y)).run Tryz.prog w = .ok (x == y) w := fun x y => run_equalIn_int w d 24 .u64 .u64 x y (by kernel_rfl)
    obtain rfl | rfl | rfl | rfl | rfl | rfl | rfl | rfl : i = 0 ∨ i = 1 ∨ i = 2 ∨ i = 3 ∨ i = 4 ∨ i = 5 ∨ i = 6 ∨ i = 7 := by omega
    · exact Eq.trans (b := (Op.equalIn (d+1) 24 (.int .u64 a0) (.int .u64 b0)).run Tryz.prog w) (by kernel_rfl) (e a0 b0)
    · exact Eq.trans (b := (Op.equalIn (d+1) 24 (.int .u64 a1) (.int .u64 b1)).run Tryz.prog w) (by kernel_rfl) (e a1 b1)
    · exact Eq.trans (b := (Op.equalIn (d+1) 24 (.int .u64 a2) (.int .u64 b2)).run Tryz.prog w) (by kernel_rfl) (e a2 b2)
    · exact Eq.trans (b := (Op.equalIn (d+1) 24 (.int .u64 a3) (.int .u64 b3)).run Tryz.prog w) (by kernel_rfl) (e a3 b3)
    · exact Eq.trans (b := (Op.equalIn (d+1) 24 (.int .u64 a4) (.int .u64 b4)).run Tryz.prog w) (by kernel_rfl) (e a4 b4)
    · exact Eq.trans (b := (Op.equalIn (d+1) 24 (.int .u64 a5) (.int .u64 b5)).run Tryz.prog w) (by kernel_rfl) (e a5 b5)
    · exact Eq.trans (b := (Op.equalIn (d+1) 24 (.int .u64 a6) (.int .u64 b6)).run Tryz.prog w) (by kernel_rfl) (e a6 b6)
    · exact Eq.trans (b := (Op.equalIn (d+1) 24 (.int .u64 a7) (.int .u64 b7)).run Tryz.prog w) (by kernel_rfl) (e a7 b7)
theorem beq_pl (a b : Sol) : (pl a 0 == pl b 0 && (pl a 1 == pl b 1 && (pl a 2 == pl b 2 && (pl a 3 == pl b 3 && (pl a 4 == pl b 4 && (pl a 5 == pl b 5 && (pl a 6 == pl b 6 && pl a 7 == pl b 7))))))) = (a == b) := by
 rw [Bool.eq_iff_iff]
 simp only [Bool.and_eq_true, beq_iff_eq, sol_eq_iff a b]
@[go_sem] theorem eqSol (d : Nat) (a b : Sol) (w : World) : (Op.equalIn (d+2) 26 (solV a) (solV b)).run Tryz.prog w = .ok (a == b) w := by
 rw [eqArr 26 (by kernel_rfl), beq_pl]
@[go_sem] theorem eqSol0 (d : Nat) (a : Sol) (w : World) : (Op.equalIn (d+2) 26 (solV a) (.agg #[.int .u64 0, .int .u64 0, .int .u64 0, .int .u64 0, .int .u64 0, .int .u64 0, .int .u64 0, .int .u64 0])).run Tryz.prog w = .ok (a == 0#512) w := by
 have := eqSol d a 0 w
 simp only [solV, pl_zero] at this
 exact this
end Go.Proofs.YtkfimbonmnoglaaGreatDoor
namespace Go.Proofs.YtkfimbonmnoglaaGreatDoor
open Go.RowKit Go.Draw
theorem bel_refl (w : World) : Below w.heap.size w w := Below.refl _ _
theorem bel_alloc {w0 w : World} (h : Below w0.heap.size w0 w) (o : Obj) : Below w0.heap.size w0 (w.alloc o) := h.alloc h.size o
theorem bel_drew {w0 w : World} (h : Below w0.heap.size w0 w) : Below w0.heap.size w0 w.drew := h.drew
theorem bel_drewN {w0 w : World} (h : Below w0.heap.size w0 w) (n : Nat) : Below w0.heap.size w0 (w.drewN n) := below_drewN h n
theorem bel_trans {a b c : World} (h : Below a.heap.size a b) (k : Below b.heap.size b c) : Below a.heap.size a c := h.trans (k.mono h.size)
theorem bcell {W w1 : World} (hb : Below W.heap.size W w1) : (∀ b o, b < W.heap.size → w1.cell? ⟨b, o, none⟩ = W.cell? ⟨b, o, none⟩) ∧ (∀ b o, b < W.heap.size → w1.frozen? ⟨b, o, none⟩ = W.frozen? ⟨b, o, none⟩) :=
 ⟨fun b o h => hb.cell (p := ⟨b, o, none⟩) h, fun b o h => hb.frozen (p := ⟨b, o, none⟩) h⟩
end Go.Proofs.YtkfimbonmnoglaaGreatDoor
namespace Go.Rel
open Go.RowKit
variable {P : Program} {ops : Array Oper} {R : World → World → Prop} {w0 : World} {Q : Act → World → Prop}
/-- the value is this one -/
abbrev Is (c : Value) : Value → World → Prop := fun v _ => v = c
theorem rel_cons {o : Oper} {rest : List Oper} {φ : Value → World → Prop} {φs : List (Value → World → Prop)} {k : Nat} {a : Act} {F : Nat → World → Prop}
  (h1 : ∀ w, R w0 w → facts F o w → step P ops R o a φ w) (h2 : ∀ v, wpRel P ops R w0 Q rest φs (k + 1) (a.put o.dst v) (fun j w => if j = k then φ v w else F j w)) :
  wpRel P ops R w0 Q (o :: rest) (φ :: φs) k a F := ⟨h1, h2⟩
theorem rel_nil {φs : List (Value → World → Prop)} {k : Nat} {a : Act} {F : Nat → World → Prop} (h : ∀ w, R w0 w → (∀ j, j < k → F j w) → Q a w) : wpRel P ops R w0 Q [] φs k a F := h
theorem upon_value {w w' : World} {φ : Value → World → Prop} {v : Value} : upon P R w φ (.ok (.value v) w') = (R w w' ∧ φ v w') := rfl
theorem upon_skip {w w' : World} {φ : Value → World → Prop} : upon P R w φ (.ok .skip w') = (R w w' ∧ φ undef w') := rfl
theorem upon_enter {w w' : World} {φ : Value → World → Prop} {f : FuncId} {args : Array Value} : upon P R w φ (.ok (.enter f args) w') = Calls P f args w' (fun e w'' => ∃ v, e = .returned v ∧ R w w'' ∧ φ v w'') := rfl
attribute [go_sem] step upon_value upon_skip upon_enter
def stable (R : World → World → Prop) : List (Value → World → Prop) → Prop
 | [] => True
 | φ :: φs => (∀ v w w', φ v w → R w w' → φ v w') ∧ stable R φs
theorem stable_mem : ∀ {Vs : List (Value → World → Prop)}, stable R Vs → ∀ φ ∈ Vs, ∀ v w w', φ v w → R w w' → φ v w'
 | [], _, φ, hφ => by cases hφ
 | ψ :: Vs, h, φ, hφ => by
  rcases List.mem_cons.1 hφ with rfl | h'
  ·exact h.1
  ·exact stable_mem h.2 φ h'
/-- nothing that lay there is turned -/
def Grows (w w' : World) : Prop := Below w.heap.size w w'
theorem Grows.refl (w : World) : Grows w w := Below.refl _ _
theorem Grows.trans {a b c : World} (h : Grows a b) (k : Grows b c) : Grows a c := Below.trans h (Below.mono k h.size)
theorem Grows.cells {W w1 : World} (hb : Grows W w1) : (∀ b o, b < W.heap.size → w1.cell? ⟨b, o, none⟩ = W.cell? ⟨b, o, none⟩) ∧ (∀ b o, b < W.heap.size → w1.frozen? ⟨b, o, none⟩ = W.frozen? ⟨b, o, none⟩) :=
 ⟨fun b o h => Below.cell (p := ⟨b, o, none⟩) hb h, fun b o h => Below.frozen (p := ⟨b, o, none⟩) hb h⟩
/-- the law, where the operations before the tail only make memory (nothing that lay there is turned) -/
theorem wp_region_grow {id : Nat} {Q : Exit → Act → World → Prop} {a : Act} {w : World} {l : List Oper} (n : Nat) (Vs : List (Value → World → Prop))
  (hm : P.follows .mixedOrders = true) (hB : relB l.toArray n = true) (hlen : Vs.length = n) (hst : stable Grows Vs)
  (h : wpRel P l.toArray Grows w (fun a' w' => wpList P l.toArray Q (l.drop n) a' w') (l.take n) Vs 0 a (fun _ _ => True)) : (Code.region id l.toArray true).wp P Q a w :=
 wp_region_rel n Grows Vs hm hB hlen Grows.refl (fun _ _ _ => Grows.trans) (stable_mem hst) w (Below.drew (Below.refl _ w)) h
end Go.Rel
namespace Go.Proofs.YtkfimbonmnoglaaGreatDoor
open Go.RowKit Go.Draw
/-- from ⟨b, off⟩ on lie the cells of the rows xs, k cells each -/
def Cells (w : World) (b off k : Nat) (xs : List (List Value)) : Prop :=
 b < w.heap.size ∧ ∀ (i j : Nat) (u : Value), (xs[i]?).bind (·[j]?) = some u → w.cell? ⟨b, off + i * k + j, none⟩ = some u
def Sl (w : World) (k : Nat) (v : Value) (xs : List (List Value)) : Prop :=
 ∃ a c, v = .slice a xs.length c ∧ xs.length ≤ c ∧ c ≤ 9223372036854775807 ∧ (xs = [] ∨ ∃ b off, a = some ⟨b, off, none⟩ ∧ Cells w b off k xs)
theorem Cells.mono {w w' : World} {b off k : Nat} {xs : List (List Value)} (h : Cells w b off k xs) {B : Nat} (hb : Below B w w') (hB : b < B) : Cells w' b off k xs :=
 ⟨Nat.lt_of_lt_of_le h.1 hb.size, fun i j u hu => (hb.cell (p := ⟨b, _, none⟩) hB).trans (h.2 i j u hu)⟩
theorem Sl.mono {w w' : World} {k : Nat} {v : Value} {xs : List (List Value)} (h : Sl w k v xs) (hb : Below w.heap.size w w') : Sl w' k v xs := by
 obtain ⟨a, c, hv, hc, hm, h | ⟨b, off, ha, hcs⟩⟩ := h
 ·exact ⟨a, c, hv, hc, hm, .inl h⟩
 ·exact ⟨a, c, hv, hc, hm, .inr ⟨b, off, ha, hcs.mono hb hcs.1⟩⟩
theorem Sl.cases {w : World} {k : Nat} {v : Value} {xs : List (List Value)} (h : Sl w k v xs) :
  (xs = [] ∧ ∃ a c, v = .slice a 0 c ∧ c ≤ 9223372036854775807) ∨ (∃ b off c, v = .slice (some ⟨b, off, none⟩) xs.length c ∧ xs.length ≤ c ∧ c ≤ 9223372036854775807 ∧ 0 < xs.length ∧ Cells w b off k xs) := by
 obtain ⟨a, c, hv, hc, hm, h | ⟨b, off, ha, hcs⟩⟩ := h
 ·subst h; exact .inl ⟨rfl, a, c, hv, hm⟩
 ·by_cases hx : xs = []
  ·subst hx; exact .inl ⟨rfl, a, c, hv, hm⟩
  ·subst ha
   exact .inr ⟨b, off, c, hv, hc, hm, List.length_pos_iff.2 hx, hcs⟩
abbrev SlS (w : World) (v : Value) (l : List Sol) : Prop := Sl w 8 v (l.map solL)
theorem sol_cells {w : World} {b off : Nat} {l : List Sol} (h : Cells w b off 8 (l.map solL)) {k : Nat} {x : Sol} (hx : l[k]? = some x) :
  w.cell? ⟨b, off + k * 8, none⟩ = some (.int .u64 (pl x 0)) ∧ w.cell? ⟨b, off + k * 8 + 1, none⟩ = some (.int .u64 (pl x 1)) ∧ w.cell? ⟨b, off + k * 8 + 2, none⟩ = some (.int .u64 (pl x 2)) ∧
  w.cell? ⟨b, off + k * 8 + 3, none⟩ = some (.int .u64 (pl x 3)) ∧ w.cell? ⟨b, off + k * 8 + 4, none⟩ = some (.int .u64 (pl x 4)) ∧ w.cell? ⟨b, off + k * 8 + 5, none⟩ = some (.int .u64 (pl x 5)) ∧
  w.cell? ⟨b, off + k * 8 + 6, none⟩ = some (.int .u64 (pl x 6)) ∧ w.cell? ⟨b, off + k * 8 + 7, none⟩ = some (.int .u64 (pl x 7)) :=
 ⟨h.2 k 0 _ (by simp [hx]), h.2 k 1 _ (by simp [hx]), h.2 k 2 _ (by simp [hx]), h.2 k 3 _ (by simp [hx]), h.2 k 4 _ (by simp [hx]), h.2 k 5 _ (by simp [hx]), h.2 k 6 _ (by simp [hx]), h.2 k 7 _ (by simp [hx])⟩
end Go.Proofs.YtkfimbonmnoglaaGreatDoor
namespace Go.Proofs.YtkfimbonmnoglaaGreatDoor
theorem ret_int {k : IntKind} {a b : Int} (h : a = b) : Ending.returned (.int k a) = .returned (.int k b) := by rw [h]
theorem ret_bool {a b : Bool} (h : a = b) : Ending.returned (.bool a) = .returned (.bool b) := by rw [h]
end Go.Proofs.YtkfimbonmnoglaaGreatDoor
end
section
namespace Go.Proofs.YtkfimbonmnoglaaGreatDoor
open Go.RowKit Go.Rel Go.Draw
set_option maxRecDepth 100000
def Blk (w : World) (b : Nat) (c : Array Value) (t : TypeId) : Prop := w.heap[b]? = some (.cells c t (0, 0))
theorem Blk.cell {w : World} {b : Nat} {c : Array Value} {t : TypeId} (h : Blk w b c t) (o : Nat) : w.cell? ⟨b, o, none⟩ = c[o]? := by
 unfold Blk at h; simp [World.cell?, h]
theorem Blk.free {w : World} {b : Nat} {c : Array Value} {t : TypeId} (h : Blk w b c t) (o : Nat) : w.frozen? ⟨b, o, none⟩ = false := by
 unfold Blk at h; simp [World.frozen?, h]
theorem Blk.lt {w : World} {b : Nat} {c : Array Value} {t : TypeId} (h : Blk w b c t) : b < w.heap.size := (Array.getElem?_eq_some_iff.1 h).1
theorem Blk.set {w : World} {b : Nat} {c : Array Value} {t : TypeId} (h : Blk w b c t) (o : Nat) (v : Value) : Blk (w.setCell ⟨b, o, none⟩ v) b (c.setIfInBounds o v) t := by
 unfold Blk at *
 simp [World.setCell, Array.getElem?_modify, h]
theorem Blk.other {w : World} {b : Nat} {c : Array Value} {t : TypeId} (h : Blk w b c t) {a : Addr} (hne : a.block ≠ b) (v : Value) : Blk (w.setCell a v) b c t :=
 (Below.heap_setCell w a v b (Ne.symm hne)).trans h
theorem Blk.below {w w' : World} {b : Nat} {c : Array Value} {t : TypeId} (h : Blk w b c t) {B : Nat} (hb : Below B w w') (hlt : b < B) : Blk w' b c t := (hb.block b hlt).trans h
theorem Blk.grow {w w' : World} {b : Nat} {c : Array Value} {t : TypeId} (h : Blk w b c t) (hb : Below w.heap.size w w') : Blk w' b c t := h.below hb h.lt
theorem Blk.alloc {w : World} {b : Nat} {c : Array Value} {t : TypeId} (h : Blk w b c t) (o : Obj) : Blk (w.alloc o) b c t := (Below.heap_alloc w o b h.lt).trans h
theorem Blk.drew {w : World} {b : Nat} {c : Array Value} {t : TypeId} (h : Blk w b c t) : Blk w.drew b c t := h
theorem Blk.new (w : World) (c : Array Value) (t : TypeId) : Blk (w.alloc (.cells c t)) w.heap.size c t := by
 unfold Blk; show (w.heap.push _)[w.heap.size]? = _; simp
theorem setRow_setCell (w : World) (g i : Nat) (cs : Array Value) (v : Value) : (w.setRow g cs).setCell ⟨g, i, none⟩ v = w.setRow g (cs.setIfInBounds i v) := by
 unfold World.setCell World.setRow
 congr 1
 apply Array.ext
 ·simp
 ·intro k h1 h2
  simp only [Array.getElem_modify]
  split
  ·cases w.heap[k]'(by simpa using h1) <;> rfl
  ·rfl
theorem setRow_setCell_other (w : World) (g k i : Nat) (cs : Array Value) (v : Value) (h : k ≠ g) : (w.setRow g cs).setCell ⟨k, i, none⟩ v = (w.setCell ⟨k, i, none⟩ v).setRow g cs := by
 unfold World.setCell World.setRow
 congr 1
 apply Array.ext
 ·simp
 ·intro j h1 h2
  simp only [Array.getElem_modify]
  by_cases e1 : g = j
  ·by_cases e2 : k = j
   ·exact absurd (e2.trans e1.symm) h
   ·simp [e1, e2]
  ·simp [e1]
theorem cell_row_other (w : World) (g k i : Nat) (cs : Array Value) (h : k ≠ g) : (w.setRow g cs).cell? ⟨k, i, none⟩ = w.cell? ⟨k, i, none⟩ := cell_setRow_other w g cs ⟨k, i, none⟩ h
theorem frozen_row_other (w : World) (g k i : Nat) (cs : Array Value) (h : k ≠ g) : (w.setRow g cs).frozen? ⟨k, i, none⟩ = w.frozen? ⟨k, i, none⟩ := by
 simp [World.frozen?, setRow_other w g k cs h]
theorem row_drew (w : World) (g : Nat) (cs : Array Value) : w.drew.setRow g cs = (w.setRow g cs).drew := rfl
attribute [go_sem] setRow_size setRow_setCell setRow_setCell_other cell_row_other frozen_row_other row_drew
/-- there is a row of cells at g, none of them frozen -/
def Row (w : World) (g : Nat) : Prop := ∃ c t, Blk w g c t
theorem cell_row_at (w : World) (g i : Nat) (cs : Array Value) (h : Row w g) : (w.setRow g cs).cell? ⟨g, i, none⟩ = cs[i]? := by
 obtain ⟨c, t, h⟩ := h; exact cell_setRow_same w g i c cs t (0, 0) h
theorem frozen_row_at (w : World) (g i : Nat) (cs : Array Value) (h : Row w g) : (w.setRow g cs).frozen? ⟨g, i, none⟩ = false := by
 obtain ⟨c, t, h⟩ := h; exact frozen_of_row _ g i cs t (setRow_heap w g c cs t (0, 0) h)
theorem row_setRow (w : World) (g k : Nat) (cs : Array Value) : Row (w.setRow k cs) g = Row w g := by
 by_cases e : g = k
 ·subst e
  refine propext ⟨fun ⟨c, t, h⟩ => ?_, fun ⟨c, t, h⟩ => ⟨_, _, setRow_heap w g c cs t (0, 0) h⟩⟩
  unfold Blk World.setRow at h
  simp only [Array.getElem?_modify] at h
  cases hh : w.heap[g]? with
  | none => rw [hh] at h; simp at h
  | some o =>
   rw [hh] at h
   cases o with
   | cells c' t' fr => simp at h; exact ⟨c', t', by unfold Blk; rw [hh]; simp [h]⟩
   | _ => simp at h
 ·refine propext ⟨fun ⟨c, t, h⟩ => ⟨c, t, ?_⟩, fun ⟨c, t, h⟩ => ⟨c, t, ?_⟩⟩
  ·unfold Blk at *; rwa [setRow_other w k g cs e] at h
  ·unfold Blk at *; rwa [setRow_other w k g cs e]
attribute [go_sem] cell_row_at frozen_row_at row_setRow
theorem Blk.row {w : World} {b : Nat} {c : Array Value} {t : TypeId} (h : Blk w b c t) : Row w b := ⟨c, t, h⟩
theorem Blk.rw {w : World} {b : Nat} {c : Array Value} {t : TypeId} (h : Blk w b c t) : w.setRow b c = w := setRow_self w b c t (0, 0) h
theorem Blk.rowS {w : World} {b : Nat} {c : Array Value} {t : TypeId} (h : Blk w b c t) (cs : Array Value) : Blk (w.setRow b cs) b cs t := setRow_heap w b c cs t (0, 0) h
theorem Blk.at {w : World} {n : Nat} (c : Array Value) (t : TypeId) (h : n = w.heap.size) : Blk (w.alloc (.cells c t)) n c t := by subst h; exact Blk.new w c t
theorem add1_ne (x : Nat) : (x + 1 = x) = False := by simp
theorem add2_ne (x : Nat) : (x + 1 + 1 = x) = False := eq_false (by omega)
theorem add3_ne (x : Nat) : (x + 1 + 1 + 1 = x) = False := eq_false (by omega)
theorem add4_ne (x : Nat) : (x + 1 + 1 + 1 + 1 = x) = False := eq_false (by omega)
theorem ne_add1 (x : Nat) : (x = x + 1) = False := by simp
theorem ne_add2 (x : Nat) : (x = x + 1 + 1) = False := eq_false (by omega)
theorem ne_add3 (x : Nat) : (x = x + 1 + 1 + 1) = False := eq_false (by omega)
theorem ne_add4 (x : Nat) : (x = x + 1 + 1 + 1 + 1) = False := eq_false (by omega)
attribute [go_sem] add1_ne add2_ne add3_ne add4_ne ne_add1 ne_add2 ne_add3 ne_add4
theorem Blk.rowO {w : World} {b : Nat} {c : Array Value} {t : TypeId} (h : Blk w b c t) {g : Nat} (cs : Array Value) (hne : b ≠ g) : Blk (w.setRow g cs) b c t := (setRow_other w g b cs hne).trans h
theorem bel_row {w0 w : World} (h : Below w0.heap.size w0 w) {g : Nat} (hg : w0.heap.size ≤ g) (cs : Array Value) : Below w0.heap.size w0 (w.setRow g cs) :=
 ⟨h.os, h.tape, h.output, by rw [setRow_size]; exact h.size, fun k hk => (setRow_other w g k cs (by omega)).trans (h.block k hk)⟩
theorem blw_row {B : Nat} {w0 w : World} (h : Below B w0 w) {g : Nat} (hg : B ≤ g) (cs : Array Value) : Below B w0 (w.setRow g cs) :=
 ⟨h.os, h.tape, h.output, by rw [setRow_size]; exact h.size, fun k hk => (setRow_other w g k cs (by omega)).trans (h.block k hk)⟩
theorem bel_set {w0 w : World} (h : Below w0.heap.size w0 w) {p : Addr} (hp : w0.heap.size ≤ p.block) (u : Value) : Below w0.heap.size w0 (w.setCell p u) := h.setCell hp u
@[irreducible] def Veil (p : Prop) : Prop := p
theorem Veil.out {p : Prop} (h : Veil p) : p := by unfold Veil at h; exact h
theorem Veil.on {p : Prop} (h : p) : Veil p := by unfold Veil; exact h
theorem Sl.out {w : World} {k : Nat} {v : Value} {xs : List (List Value)} (h : Sl w k v xs) : ∃ a n c, v = .slice a n c ∧ n = xs.length ∧ n ≤ c ∧ c ≤ 9223372036854775807 := by
 obtain ⟨a, c, hv, hc, hm, _⟩ := h
 exact ⟨a, xs.length, c, hv, rfl, hc, hm⟩
theorem SlS.out {w : World} {v : Value} {l : List Sol} (h : SlS w v l) : ∃ a n c, v = .slice a n c ∧ n = l.length ∧ n ≤ c ∧ c ≤ 9223372036854775807 := by
 obtain ⟨a, n, c, h1, h2, h3⟩ := Sl.out h
 exact ⟨a, n, c, h1, by simpa using h2, h3⟩
end Go.Proofs.YtkfimbonmnoglaaGreatDoor
end
section
namespace Go.Proofs.YtkfimbonmnoglaaGreatDoor
open Go.RowKit Go.Rel Go.Draw
set_option maxRecDepth 100000
def uI (p : U) : Int := (p.toNat : Int)
theorem uI_nonneg (p : U) : 0 ≤ uI p := by unfold uI; omega
theorem uI_lt (p : U) : uI p < 18446744073709551616 := by unfold uI; have := p.isLt; omega
theorem uI_inj {p q : U} : uI p = uI q ↔ p = q := by unfold uI; rw [Int.ofNat_inj, BitVec.toNat_inj]
theorem uI_one : uI 1 = 1 := rfl
theorem ofInt_uI (p : U) : BitVec.ofInt 64 (uI p) = p := by
 unfold uI; rw [BitVec.ofInt_natCast, BitVec.ofNat_toNat]; simp
theorem wrap_uI (p : U) : IntKind.u64.wrap (uI p) = uI p := IntWalk.u64_in _ (by have := uI_nonneg p; have := uI_lt p; omega)
theorem bits_and_u (a b : U) : bits .and .u64 (uI a) (uI b) = uI (a &&& b) := by
 show IntKind.u64.wrap ((BitVec.ofInt 64 (uI a) &&& BitVec.ofInt 64 (uI b)).toNat : Int) = _
 rw [ofInt_uI, ofInt_uI]; exact wrap_uI _
theorem bits_or_u (a b : U) : bits .or .u64 (uI a) (uI b) = uI (a ||| b) := by
 show IntKind.u64.wrap ((BitVec.ofInt 64 (uI a) ||| BitVec.ofInt 64 (uI b)).toNat : Int) = _
 rw [ofInt_uI, ofInt_uI]; exact wrap_uI _
theorem beq_u (a b : U) : (uI a == uI b) = (a == b) := by
 rw [Bool.eq_iff_iff, beq_iff_eq, beq_iff_eq]; exact uI_inj
theorem beq_u0 (a : U) : (uI a == 0) = (a == 0) := beq_u a 0
theorem bne_u0 (a : U) : (uI a != 0) = (a != 0) := by unfold bne; rw [beq_u0]
theorem pl_uI (s : Sol) (k : Nat) : pl s k = uI (plv s k) := by unfold pl; rfl
theorem shl_u (p : U) (n : Nat) : IntKind.u64.wrap (uI p * ((2 ^ n : Nat) : Int)) = uI (p <<< n) := by
 have h1 : uI p * ((2 ^ n : Nat) : Int) = ((p.toNat * 2 ^ n : Nat) : Int) := by unfold uI; rw [Int.natCast_mul]
 have h2 : IntKind.u64.wrap ((p.toNat * 2 ^ n : Nat) : Int) = ((p.toNat * 2 ^ n % 2 ^ 64 : Nat) : Int) := by
  have e : ∀ x : Int, IntKind.u64.wrap x = x % 18446744073709551616 := fun x => by
   unfold IntKind.wrap
   rw [if_neg (by simp [IntKind.signed])]
   rfl
  rw [e, Int.natCast_emod]; rfl
 rw [h1, h2]
 unfold uI
 rw [BitVec.toNat_shiftLeft, Nat.shiftLeft_eq]
theorem shr_u (p : U) (n : Nat) : uI p / ((2 ^ n : Nat) : Int) = uI (p >>> n) := by
 unfold uI
 rw [BitVec.toNat_ushiftRight, Nat.shiftRight_eq_div_pow, Int.natCast_ediv]
attribute [irreducible] uI
end Go.Proofs.YtkfimbonmnoglaaGreatDoor
end
section
namespace Go.Proofs.YtkfimbonmnoglaaGreatDoor
open Go.RowKit Go.Rel Go.Draw
set_option maxRecDepth 100000
abbrev intL (i : Int) : List Value := [.int .i64 i]
abbrev SlI (w : World) (v : Value) (l : List Int) : Prop := Sl w 1 v (l.map intL)
theorem infoInt : (Tryz.prog.info? 3).map (fun i => (i.zero, i.size, i.bytes)) = some (some (.int .i64 0), 1, 8) := by kernel_rfl
/-- a list of numbers in memory of one's own -/
abbrev OwnI (W : World) (base : Nat) (v : Value) (l : List Int) : Prop := W.ownsRow base 3 1 v l.length (l.map (Value.int .i64))
/-- a list of sets in memory of one's own -/
abbrev OwnU (W : World) (base : Nat) (v : Value) (l : List U) : Prop := W.ownsRow base 50 1 v l.length (l.map fun s => Value.int .u64 (uI s))
abbrev uL (s : U) : List Value := [.int .u64 (uI s)]
abbrev SlU (w : World) (v : Value) (l : List U) : Prop := Sl w 1 v (l.map uL)
/-- moves -/
abbrev Mo := Nat × Nat × Nat
abbrev OwnL (W : World) (base : Nat) (v : Value) (vs : List Value) : Prop := W.ownsRow base 38 1 v vs.length vs
theorem own_shape' {w : World} {base : Nat} {e : TypeId} {size : Nat} {v : Value} {n : Nat} {xs : List Value} (h : w.ownsRow base e size v n xs) : ∃ p c, v = .slice p n c ∧ n ≤ c ∧ c ≤ 9223372036854775807 := by
 rcases h.2 with ⟨rfl, rfl⟩ | ⟨g, cap, cur, rfl, _, _, h1, h2, _⟩
 ·exact ⟨_, _, rfl, Nat.le_refl _, by omega⟩
 ·exact ⟨_, _, rfl, h1, by unfold maxLen at h2; omega⟩
theorem own_weak {w : World} {base base' : Nat} {e : TypeId} {size : Nat} {v : Value} {n : Nat} {xs : List Value} (h : w.ownsRow base e size v n xs) (hb : base' ≤ base) : w.ownsRow base' e size v n xs := by
 refine ⟨h.1, ?_⟩
 rcases h.2 with h | ⟨g, cap, cur, e, hbg, rest⟩
 ·exact .inl h
 ·exact .inr ⟨g, cap, cur, e, Nat.le_trans hb hbg, rest⟩
theorem own_sl {w : World} {base : Nat} {e : TypeId} {size : Nat} {v : Value} {xs : List Value} {ls : List (List Value)} (hs : ∀ r ∈ ls, r.length = size) (hx : ls.flatten = xs) (h : w.ownsRow base e size v ls.length xs) : Sl w size v ls := by
 rcases h.2 with ⟨rfl, h0⟩ | ⟨g, cap, cur, rfl, hb, hg, hnc, hcm, hcs, htake⟩
 ·have : ls = [] := List.eq_nil_of_length_eq_zero h0
  subst this
  exact ⟨none, 0, rfl, Nat.le_refl _, by omega, .inl rfl⟩
 ·refine ⟨some ⟨g, 0, none⟩, cap, rfl, hnc, by unfold maxLen at hcm; omega, .inr ⟨g, 0, rfl, (Array.getElem?_eq_some_iff.1 hg).1, fun i j u hu => ?_⟩⟩
  rw [Nat.zero_add, cell_of_row w g _ cur e (0, 0) hg]
  have key : ∀ (ls : List (List Value)) (i j : Nat) (u : Value), (∀ r ∈ ls, r.length = size) → (ls[i]?).bind (·[j]?) = some u → (ls.flatten)[i * size + j]? = some u := by
   intro ls
   induction ls with
   | nil => intro i j u _ h; simp at h
   | cons r rest ih =>
    intro i j u hr h
    have hrl : r.length = size := hr r (by simp)
    cases i with
    | zero =>
     have h' : r[j]? = some u := by simpa using h
     have hj : j < r.length := (List.getElem?_eq_some_iff.1 h').1
     simp only [List.flatten_cons, Nat.zero_mul, Nat.zero_add]
     rw [List.getElem?_append_left hj]; exact h'
    | succ i =>
     have h' : (rest[i]?).bind (·[j]?) = some u := by simpa using h
     have := ih i j u (fun r' h' => hr r' (by simp [h'])) h'
     simp only [List.flatten_cons]
     rw [List.getElem?_append_right (by rw [hrl, Nat.add_mul]; omega), hrl, show (i + 1) * size + j - size = i * size + j by rw [Nat.add_mul]; omega]
     exact this
  have h1 := key ls i j u hs hu
  rw [hx, ← htake, List.getElem?_take] at h1
  split at h1
  ·rw [← Array.getElem?_toList]; exact h1
  ·cases h1
theorem flat_int (l : List Int) : (l.map intL).flatten = l.map (Value.int .i64) := by
 induction l with
 | nil => rfl
 | cons a l ih => simp [ih]
theorem OwnI.sl {W : World} {base : Nat} {v : Value} {l : List Int} (h : OwnI W base v l) : SlI W v l :=
 own_sl (fun r hr => by obtain ⟨i, _, rfl⟩ := List.mem_map.1 hr; rfl) (flat_int l) (by rw [List.length_map]; exact h)
theorem flat_u (l : List U) : (l.map uL).flatten = l.map fun s => Value.int .u64 (uI s) := by
 induction l with
 | nil => rfl
 | cons a l ih => simp [ih]
theorem OwnU.sl {W : World} {base : Nat} {v : Value} {l : List U} (h : OwnU W base v l) : SlU W v l :=
 own_sl (fun r hr => by obtain ⟨i, _, rfl⟩ := List.mem_map.1 hr; rfl) (flat_u l) (by rw [List.length_map]; exact h)
theorem flat_sing : ∀ vs : List Value, (vs.map fun x => [x]).flatten = vs
 | [] => rfl
 | v :: vs => by rw [List.map_cons, List.flatten_cons, flat_sing vs]; rfl
theorem OwnL.sl {W : World} {base : Nat} {v : Value} {vs : List Value} (h : OwnL W base v vs) : Sl W 1 v (vs.map fun x => [x]) :=
 own_sl (fun r hr => by obtain ⟨i, _, rfl⟩ := List.mem_map.1 hr; rfl) (flat_sing vs) (by rw [List.length_map]; exact h)
theorem hmf (fn : Fn) (first cap : Array Value) (w : World) : (Instr.makeFunc fn first cap).run Tryz.prog w = .ok (.func fn first cap) w := rfl
end Go.Proofs.YtkfimbonmnoglaaGreatDoor
end
section
namespace Go.Proofs.YtkfimbonmnoglaaGreatDoor
open Go.RowKit Go.Rel Go.Draw
set_option maxRecDepth 100000
/-- the table of TrailingZeros64 lies where the program laid it -/
def Tab (w : World) : Prop := ∀ k, k < 64 → w.cell? ⟨0, k, none⟩ = some (.int .u8 (tzTab.getD k 0 : Nat))
theorem Tab.lt {w : World} (h : Tab w) : 0 < w.heap.size := block_lt_of_cell (h 0 (by omega))
theorem Tab.mono {w w' : World} (h : Tab w) {B : Nat} (hb : Below B w w') (hB : 0 < B) : Tab w' := fun k hk => (hb.cell (p := ⟨0, k, none⟩) hB).trans (h k hk)
theorem Tab.grow {w w' : World} (h : Tab w) (hb : Below w.heap.size w w') : Tab w' := h.mono hb h.lt
theorem wrap_toNat (x : Nat) : IntKind.u64.wrap (x : Int) = ((x % 2 ^ 64 : Nat) : Int) := by
 unfold IntKind.wrap
 rw [if_neg (by simp [IntKind.signed])]
 rw [Int.natCast_emod]; rfl
theorem neg_u (p : U) : IntKind.u64.wrap (-(uI p)) = uI (-p) := by
 have h : IntKind.u64.wrap (-(uI p)) = (-(uI p)) % 18446744073709551616 := by
  unfold IntKind.wrap
  rw [if_neg (by simp [IntKind.signed])]
  rfl
 rw [h]
 unfold uI
 rw [BitVec.toNat_neg]
 have := p.isLt
 omega
theorem mul_u (a b : U) : IntKind.u64.wrap (uI a * uI b) = uI (a * b) := by
 have : uI a * uI b = ((a.toNat * b.toNat : Nat) : Int) := by unfold uI; rw [Int.natCast_mul]
 rw [this, wrap_toNat]
 unfold uI
 rw [BitVec.toNat_mul]
theorem tz_idx (k : Nat) : IntKind.u64.wrap (uI (bit k) * 285870213051353865) / 288230376151711744 = ((tzAt k : Nat) : Int) := by
 have e : (285870213051353865 : Int) = uI 285870213051353865#64 := by unfold uI; rfl
 rw [e, mul_u]
 have := shr_u (bit k * 285870213051353865#64) 58
 rw [show ((2 ^ 58 : Nat) : Int) = 288230376151711744 from rfl] at this
 rw [this]
 unfold uI tzAt
 rfl
theorem tz64_core (x y z : Int) (t k : Nat) (w : World) (e0 : (x == 0) = false) (e1 : bits .and .u64 x (IntKind.u64.wrap (-x)) = y) (e2 : IntKind.u64.wrap (y * 285870213051353865) = z) (e3 : z / 288230376151711744 = (t : Int)) (ht : t < 64) (hk : k < 64)
  (hc : w.cell? ⟨0, t, none⟩ = some (.int .u8 (k : Int))) : Calls Tryz.prog 148 #[.int .u64 x] w fun e w' => e = .returned (.int .i64 (k : Nat)) ∧ w' = w := by
 go_enter Tryz.func148, Tryz.ntmps148
 go_wp2_with fail
 go_ret
 exact ⟨rfl, rfl⟩
theorem tz64_spec (p : U) (hp : p ≠ 0) (w : World) (hT : Tab w) : Calls Tryz.prog 148 #[.int .u64 (uI p)] w fun e w' => e = .returned (.int .i64 (lowU p : Nat)) ∧ w' = w := by
 obtain ⟨hk, _, _⟩ := lowU_spec p hp
 obtain ⟨ht, htab⟩ := tz_tab (lowU p) hk
 have hc := hT _ ht
 rw [htab] at hc
 have e0 : (uI p == 0) = false := by rw [beq_u0]; simpa using hp
 have e1 : bits .and .u64 (uI p) (IntKind.u64.wrap (-(uI p))) = uI (bit (lowU p)) := by rw [neg_u, bits_and_u, low_and_neg p hp]
 exact tz64_core _ _ _ _ _ w e0 e1 rfl (tz_idx (lowU p)) ht hk hc
end Go.Proofs.YtkfimbonmnoglaaGreatDoor
end
section
namespace Go.Proofs.YtkfimbonmnoglaaGreatDoor
open Go.RowKit Go.Rel Go.Draw
set_option maxRecDepth 100000
/-- new blocks alone, and no draw is taken back -/
def Dw (w w' : World) : Prop := Below w.heap.size w w' ∧ w.drawn ≤ w'.drawn
theorem Dw.refl (w : World) : Dw w w := ⟨Below.refl _ _, Nat.le_refl _⟩
theorem Dw.trans {a b c : World} (h : Dw a b) (k : Dw b c) : Dw a c := ⟨bel_trans h.1 k.1, Nat.le_trans h.2 k.2⟩
theorem Dw.alloc {a b : World} (h : Dw a b) (o : Obj) : Dw a (b.alloc o) := ⟨bel_alloc h.1 _, h.2⟩
theorem Dw.grow {w w' : World} (h : Dw w w') : ∃ q os, w' = Go.Sort.grow (w.drewN q) os := by
 refine ⟨w'.drawn - w.drawn, w'.heap.extract w.heap.size w'.heap.size, ?_⟩
 obtain ⟨hb, hd⟩ := h
 have e1 := hb.os; have e2 := hb.tape; have e3 := hb.output; have e4 := hb.size; have e5 := hb.block
 have hh : w.heap ++ w'.heap.extract w.heap.size w'.heap.size = w'.heap := by
  apply Array.ext_getElem?
  intro k
  rw [Array.getElem?_append]
  split
  ·rename_i hk; exact (e5 k hk).symm
  ·rename_i hk
   rw [Array.getElem?_extract]
   split
   ·rw [show w.heap.size + (k - w.heap.size) = k by omega]
   ·rw [Array.getElem?_eq_none (by omega)]
 obtain ⟨h1, t1, d1, o1, u1⟩ := w
 obtain ⟨h2, t2, d2, o2, u2⟩ := w'
 simp only at e1 e2 e3 hd hh
 subst e1 e2 e3
 simp only [Go.Sort.grow, World.drewN, hh, World.mk.injEq, true_and, and_true]
 omega
end Go.Proofs.YtkfimbonmnoglaaGreatDoor
end
section
namespace Go.Proofs.YtkfimbonmnoglaaGreatDoor
open Go.RowKit Go.Rel Go.Draw
set_option maxRecDepth 100000
theorem add_u (a b : U) : IntKind.u64.wrap (uI a + uI b) = uI (a + b) := by
 have h : uI a + uI b = ((a.toNat + b.toNat : Nat) : Int) := by unfold uI; rw [Int.natCast_add]
 rw [h, wrap_toNat]
 unfold uI
 rw [BitVec.toNat_add]
theorem upopA (q : U) : IntKind.u64.wrap (bits .and .u64 (uI q / 2) 6148914691236517205 + bits .and .u64 (uI q) 6148914691236517205) = uI (popA q) := by
 have h1 := shr_u q 1
 have e : (6148914691236517205 : Int) = uI 0x5555555555555555#64 := by unfold uI; rfl
 rw [show ((2 ^ 1 : Nat) : Int) = 2 from rfl] at h1
 rw [e, h1, bits_and_u, bits_and_u, add_u]; rfl
theorem upopB (q : U) : IntKind.u64.wrap (bits .and .u64 (uI q / 4) 3689348814741910323 + bits .and .u64 (uI q) 3689348814741910323) = uI (popB q) := by
 have h1 := shr_u q 2
 have e : (3689348814741910323 : Int) = uI 0x3333333333333333#64 := by unfold uI; rfl
 rw [show ((2 ^ 2 : Nat) : Int) = 4 from rfl] at h1
 rw [e, h1, bits_and_u, bits_and_u, add_u]; rfl
theorem upopC (q : U) : bits .and .u64 (IntKind.u64.wrap (uI q / 16 + uI q)) 1085102592571150095 = uI (popC q) := by
 have h1 := shr_u q 4
 have e : (1085102592571150095 : Int) = uI 0x0f0f0f0f0f0f0f0f#64 := by unfold uI; rfl
 rw [show ((2 ^ 4 : Nat) : Int) = 16 from rfl] at h1
 rw [e, h1, add_u, bits_and_u]; rfl
theorem upopD (q : U) : IntKind.u64.wrap (uI q + uI q / 256) = uI (popD q) := by
 have h1 := shr_u q 8
 rw [show ((2 ^ 8 : Nat) : Int) = 256 from rfl] at h1
 rw [h1, add_u]; rfl
theorem upopE (q : U) : IntKind.u64.wrap (uI q + uI q / 65536) = uI (popE q) := by
 have h1 := shr_u q 16
 rw [show ((2 ^ 16 : Nat) : Int) = 65536 from rfl] at h1
 rw [h1, add_u]; rfl
theorem upopF (q : U) : IntKind.u64.wrap (uI q + uI q / 4294967296) = uI (popF q) := by
 have h1 := shr_u q 32
 rw [show ((2 ^ 32 : Nat) : Int) = 4294967296 from rfl] at h1
 rw [h1, add_u]; rfl
theorem ofInt_wrap64 (q : U) : BitVec.ofInt 64 (wrap64 (uI q)) = q := by
 apply BitVec.eq_of_toNat_eq
 rw [BitVec.toNat_ofInt]
 unfold wrap64 uI
 have := q.isLt
 omega
theorem upopL (q : U) : bits .and .i64 (wrap64 (uI q)) 127 = ((q &&& 127#64).toNat : Int) := by
 show IntKind.i64.wrap ((BitVec.ofInt 64 (wrap64 (uI q)) &&& BitVec.ofInt 64 127).toNat : Int) = _
 rw [ofInt_wrap64]
 have h1 : (q &&& 127#64).toNat < 128 := by
  rw [BitVec.toNat_and]
  exact Nat.lt_of_le_of_lt Nat.and_le_right (by decide)
 have e : BitVec.ofInt 64 127 = 127#64 := by decide
 rw [e]
 generalize (q &&& 127#64).toNat = x at h1
 exact IntWalk.i64_in _ (by omega)
set_option maxHeartbeats 4000000 in
theorem ones64_core (p : U) (w : World) : Calls Tryz.prog 123 #[.int .u64 (uI p)] w fun e w' => e = .returned (.int .i64 ((popU p).toNat : Int)) ∧ w' = w := by
 have e1 := upopA p
 have e2 := upopB (popA p)
 have e3 := upopC (popB (popA p))
 have e4 := upopD (popC (popB (popA p)))
 have e5 := upopE (popD (popC (popB (popA p))))
 have e6 := upopF (popE (popD (popC (popB (popA p)))))
 have e7 := upopL (popF (popE (popD (popC (popB (popA p))))))
 go_enter Tryz.func123, Tryz.ntmps123
 go_wp2_with fail
 go_ret
 exact ⟨ret_int (by unfold popU; rw [BitVec.toNat_and]; rfl), rfl⟩
end Go.Proofs.YtkfimbonmnoglaaGreatDoor
end
