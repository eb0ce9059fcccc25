import Derived.Test.YtkcpnhigekopaaaDoorG03
import Derived.OwnWalk
import Derived.Maps.AppendAt
import Derived.Test.YtkcpnhigekopaaaDoorProg
import Derived.WalkKit
import Derived.WalkLawsBesides
import Derived.WalkSpells
import Derived.StillTailTactics
import Derived.Deep.QuietTactic
import Derived.BigQuiet
import Derived.Outline
import Derived.Recover
import Derived.Laws.BitsLemmas
import Derived.Lib.Hide
import Derived.Laws.EntriesVeiled
/-
  Given contracts of functions of the program, and laws for them, one behind the other.
-/
set_option linter.unusedVariables false
set_option linter.unusedSimpArgs false
set_option linter.unusedSectionVars false
section
namespace Go.Rel
open Go
/-! An append to a list of one's own draws, and takes no draw back. -/
theorem append_drawn {P : Program} (w : World) (base : Nat) (t ty e : TypeId) (i : TypeInfo) (z : Value) (size bytes : Nat) (ht : P.underlying t = some (.slice e)) (hi : P.info? e = some i) (hz : i.zero = some z)
  (hsize : i.size = size) (hby : i.bytes = bytes) (v : Value) (n : Nat) (xs : List Value) (hown : w.ownsRow base e size v n xs)
  (a : Addr) (m c : Nat) (news : List Value) (hl : news.length = m * size) (hnews : ∀ j u, news[j]? = some u → w.cell? (a.add j) = some u) (h1 : ∀ u ∈ news, u.oneCell' = true)
  (h63 : n + m ≤ maxLen) (hbytes : (n + m) * bytes ≤ 140737488355328) (hm : 0 < m) {v' : Value} {w' : World}
  (hr : (Builtin.append_ #[t, t] ty #[v, .slice (some a) m c]).run P w = .ok v' w') : w.drawn ≤ w'.drawn := by
 subst hsize
 subst hby
 have hsmall : n + m ≤ 9223372036854775807 := by simp only [maxLen] at h63; omega
 rcases hown.2 with ⟨rfl, rfl⟩ | ⟨g, cap, cur, rfl, hbg, hg, hnc, hcm, hcs, htake⟩
 ·have h := run_append_nil (P := P) w t ty e i z ht hi hz a m c news hl hnews hm (by omega) (by simp only [Nat.zero_add] at hbytes; omega)
  rw [h] at hr
  injection hr with _ hw
  rw [← hw]
  exact Nat.le_succ _
 ·by_cases hroom : n + m ≤ cap
  ·have hfit : n * i.size + news.length ≤ cur.size := by rw [hl, hcs, ← Nat.add_mul]; exact Nat.mul_le_mul_right _ hroom
   have h := run_append_room (P := P) w t ty e i ht hi g n cap cur hg a m c news hl hnews h1 hroom hfit
   rw [h] at hr
   injection hr with _ hw
   rw [← hw]
   exact Nat.le_refl _
  ·have holds : ∀ j u, xs[j]? = some u → w.cell? ((⟨g, 0, none⟩ : Addr).add j) = some u := hown.cells (g := g) rfl
   have h := run_append_grow (P := P) w t ty e i z ht hi hz ⟨g, 0, none⟩ n cap xs hown.1 holds a m c news hl hnews (by omega) (by omega) (growslice_fits (by omega) hbytes)
   rw [h] at hr
   injection hr with _ hw
   rw [← hw]
   exact Nat.le_succ _
theorem wpList_append_ownD {P : Program} {w : World} {ops : Array Oper} {rest : List Oper} {o : Oper} {a : Act} {Q : Exit → Act → World → Prop} (hgd : o.guard = none) (s x : Operand) (t : TypeId)
  (ho : o.op = .call { callee := .builtin .append, args := #[s, x], argTypes := #[t, t] })
  (base : Nat) (e : TypeId) (i : TypeInfo) (z : Value) (size bytes : Nat) (ht : P.underlying t = some (.slice e)) (hi : P.info? e = some i) (hz : i.zero = some z)
  (hsize : i.size = size) (hby : i.bytes = bytes) (hzs : z.cells.size = size) (hsz : 0 < size)
  (v : Value) (n : Nat) (xs : List Value) (hs : a.eval s = v) (hown : w.ownsRow base e size v n xs)
  (ad : Addr) (m c : Nat) (news : List Value) (hx : a.eval x = .slice (some ad) m c) (hl : news.length = m * size) (hnews : ∀ j u, news[j]? = some u → w.cell? (ad.add j) = some u) (h1 : ∀ u ∈ news, u.oneCell' = true)
  (h63 : n + m ≤ maxLen) (hbytes : (n + m) * bytes ≤ 140737488355328) (hbase : base ≤ w.heap.size) (hm : 0 < m)
  (h : ∀ v' w', w'.ownsRow base e size v' (n + m) (xs ++ news) → w.grownBy w' v.ownBlock → w.drawn ≤ w'.drawn → wpList P ops Q rest (a.put o.dst v') w') : wpList P ops Q (o :: rest) a w := by
 obtain ⟨v', w', hr, h2, h3, _⟩ := run_append_own (P := P) w base t o.type e i z size bytes ht hi hz hsize hby hzs hsz v n xs hown ad m c news hl hnews h1 h63 hbytes hbase
 have hd := append_drawn (P := P) w base t o.type e i z size bytes ht hi hz hsize hby v n xs hown ad m c news hl hnews h1 h63 hbytes hm hr
 refine wpList_plain hgd fun _ hK => ?_
 unfold Oper.wp execOp
 simp only [ho, resolve, invoke, builtin, Sem.run_bind, Sem.run_pure, Result.andThen_ok, List.map_toArray, List.map_cons, List.map_nil, hs, hx, hr]
 exact hK _ _ (h v' w' h2 h3 hd)
end Go.Rel
end
section
namespace Go.Rel
open Go.RowKit
variable {P : Program}
theorem run_all (w : World) (g : Nat → Option Bool × Unit → Sem (ForInStep (Option Bool × Unit))) (b : Nat → Bool) (l : List Nat)
  (h : ∀ i ∈ l, (g i (none, ())).run P w = .ok (if b i then ForInStep.yield (none, ()) else ForInStep.done (some false, ())) w) :
  ((forIn l (none, ()) g : Sem (Option Bool × Unit)).run P w) = .ok (if l.all b then (none, ()) else (some false, ())) w := by
 induction l with
 | nil => rfl
 | cons i l ih =>
  simp only [List.forIn_cons, Sem.run_bind, h i (by simp), Result.andThen_ok, List.all_cons]
  rcases Bool.eq_false_or_eq_true (b i) with hb | hb
  ·simpa [hb] using ih (fun j hj => h j (by simp [hj]))
  ·simp [hb]
theorem run_equalIn_array (w : World) (d : Nat) (t e : TypeId) (len n : Nat) (xs ys : Array Value) (b : Nat → Bool) (ht : P.underlying t = some (.array len e)) (hn : (sizeOf e).run P w = .ok n w)
   (h : ∀ i, i < len → (do Op.equalIn d e (← part e xs (i * n)) (← part e ys (i * n)) : Sem Bool).run P w = .ok (b i) w) :
   (Op.equalIn (d+1) t (.agg xs) (.agg ys)).run P w = .ok ((List.range len).all b) w := by
  simp only [Op.equalIn, Sem.run_bind, run_underlying ht, Result.andThen_ok, hn]
  simp only [Std.Legacy.Range.forIn_eq_forIn_range', Std.Legacy.Range.size, Nat.sub_zero, Nat.add_sub_cancel, Nat.div_one, ← List.range_eq_range']
  rw [run_all w _ b (List.range len) (fun i hi => ?_)]
  · cases (List.range len).all b <;> rfl
  · have h1 := h i (List.mem_range.1 hi)
    simp only [Sem.run_bind] at h1 ⊢
    generalize (part e xs (i * n)).run P w = r1 at h1 ⊢
    cases r1 with
    | halt x w' => cases h1
    | ok x w1 =>
      simp only [Result.andThen_ok] at h1 ⊢
      generalize (part e ys (i * n)).run P w1 = r2 at h1 ⊢
      cases r2 with
      | halt x w' => cases h1
      | ok y w2 =>
        simp only [Result.andThen_ok] at h1 ⊢
        rw [h1]
        simp only [Result.andThen_ok]
        rcases Bool.eq_false_or_eq_true (b i) with hb | hb <;> simp [hb]
end Go.Rel

namespace Go.Proofs.YtkcpnhigekopaaaDoor
open Go.RowKit Go.Draw

/-! ### SOLIDS: 512 bits, eight planes -/
def pl (s : Sol) (k : Nat) : Int := ((plv s k).toNat : Int)
theorem pl_nonneg (s : Sol) (k : Nat) : 0 ≤ pl s k := by unfold pl; omega
theorem pl_lt (s : Sol) (k : Nat) : pl s k < 18446744073709551616 := by unfold pl; have := (plv s k).isLt; omega
theorem pl_eq {s t : Sol} {k : Nat} : pl s k = pl t k ↔ plv s k = plv t k := by
 unfold pl; rw [Int.ofNat_inj, BitVec.toNat_inj]
theorem plv_xor (a b : Sol) (k : Nat) : plv (a ^^^ b) k = plv a k ^^^ plv b k := by
 apply BitVec.eq_of_getLsbD_eq; intro i hi; simp [plv]
 cases decide (i < 64) <;> simp
theorem plv_andNot (a b : Sol) (k : Nat) (hk : k < 8) : plv (a &&& ~~~b) k = plv a k &&& ~~~(plv b k) := by
 apply BitVec.eq_of_getLsbD_eq; intro i hi; simp [plv, hi, show 64 * k + i < 512 by omega]
theorem pl_zero (k : Nat) : pl 0 k = 0 := by unfold pl; rw [plv_zero]; rfl

theorem ofInt_pl (s : Sol) (k : Nat) : BitVec.ofInt 64 (pl s k) = plv s k := by
 unfold pl; rw [BitVec.ofInt_natCast, BitVec.ofNat_toNat]; simp
theorem wrap_u64_toNat (x : BitVec 64) : IntKind.u64.wrap (x.toNat : Int) = (x.toNat : Int) := IntWalk.u64_in _ (by have := x.isLt; omega)
theorem bits_and_pl (a b : Sol) (k : Nat) : bits .and .u64 (pl a k) (pl b k) = pl (a &&& b) k := by
 show IntKind.u64.wrap ((BitVec.ofInt 64 (pl a k) &&& BitVec.ofInt 64 (pl b k)).toNat : Int) = _
 rw [ofInt_pl, ofInt_pl, wrap_u64_toNat, ← plv_and]; rfl
theorem bits_or_pl (a b : Sol) (k : Nat) : bits .or .u64 (pl a k) (pl b k) = pl (a ||| b) k := by
 show IntKind.u64.wrap ((BitVec.ofInt 64 (pl a k) ||| BitVec.ofInt 64 (pl b k)).toNat : Int) = _
 rw [ofInt_pl, ofInt_pl, wrap_u64_toNat, ← plv_or]; rfl
theorem bits_xor_pl (a b : Sol) (k : Nat) : bits .xor .u64 (pl a k) (pl b k) = pl (a ^^^ b) k := by
 show IntKind.u64.wrap ((BitVec.ofInt 64 (pl a k) ^^^ BitVec.ofInt 64 (pl b k)).toNat : Int) = _
 rw [ofInt_pl, ofInt_pl, wrap_u64_toNat, ← plv_xor]; rfl
theorem bits_andNot_pl (a b : Sol) (k : Nat) (hk : k < 8) : bits .andNot .u64 (pl a k) (pl b k) = pl (a &&& ~~~b) k := by
 show IntKind.u64.wrap ((BitVec.ofInt 64 (pl a k) &&& ~~~(BitVec.ofInt 64 (pl b k))).toNat : Int) = _
 rw [ofInt_pl, ofInt_pl, wrap_u64_toNat, ← plv_andNot _ _ _ hk]; rfl

attribute [irreducible] pl

/-- a solid as the value that the model has -/
abbrev solL (s : Sol) : List Value := [.int .u64 (pl s 0), .int .u64 (pl s 1), .int .u64 (pl s 2), .int .u64 (pl s 3), .int .u64 (pl s 4), .int .u64 (pl s 5), .int .u64 (pl s 6), .int .u64 (pl s 7)]
abbrev solV (s : Sol) : Value := .agg #[.int .u64 (pl s 0), .int .u64 (pl s 1), .int .u64 (pl s 2), .int .u64 (pl s 3), .int .u64 (pl s 4), .int .u64 (pl s 5), .int .u64 (pl s 6), .int .u64 (pl s 7)]

theorem sol_eq_iff (a b : Sol) : a = b ↔ (pl a 0 = pl b 0 ∧ pl a 1 = pl b 1 ∧ pl a 2 = pl b 2 ∧ pl a 3 = pl b 3 ∧ pl a 4 = pl b 4 ∧ pl a 5 = pl b 5 ∧ pl a 6 = pl b 6 ∧ pl a 7 = pl b 7) := by
 constructor
 ·rintro rfl; simp
 ·rintro ⟨h0, h1, h2, h3, h4, h5, h6, h7⟩
  refine sol_ext fun k hk => pl_eq.1 ?_
  obtain rfl | rfl | rfl | rfl | rfl | rfl | rfl | rfl : k = 0 ∨ k = 1 ∨ k = 2 ∨ k = 3 ∨ k = 4 ∨ k = 5 ∨ k = 6 ∨ k = 7 := by omega
  ·exact h0
  ·exact h1
  ·exact h2
  ·exact h3
  ·exact h4
  ·exact h5
  ·exact h6
  ·exact h7

theorem eqArr (ty : TypeId) (hty : Tryd.prog.underlying ty = some (.array 8 27)) (d : Nat) (a0 a1 a2 a3 a4 a5 a6 a7 b0 b1 b2 b3 b4 b5 b6 b7 : Int) (w : World) :
  (Op.equalIn (d+2) ty (.agg #[.int .u64 a0, .int .u64 a1, .int .u64 a2, .int .u64 a3, .int .u64 a4, .int .u64 a5, .int .u64 a6, .int .u64 a7]) (.agg #[.int .u64 b0, .int .u64 b1, .int .u64 b2, .int .u64 b3, .int .u64 b4, .int .u64 b5, .int .u64 b6, .int .u64 b7])).run Tryd.prog w = 
   .ok (a0 == b0 && (a1 == b1 && (a2 == b2 && (a3 == b3 && (a4 == b4 && (a5 == b5 && (a6 == b6 && a7 == b7))))))) w := by
  rw [Go.Rel.run_equalIn_array w (d+1) ty 27 8 1 _ _ (fun i => match i with | 0 => a0 == b0 | 1 => a1 == b1 | 2 => a2 == b2 | 3 => a3 == b3 | 4 => a4 == b4 | 5 => a5 == b5 | 6 => a6 == b6 | _ => a7 == b7) hty (by kernel_rfl)]
  · simp [List.range, List.range.loop]
  · intro i hi
    have e : ∀ x y : Int, (Op.equalIn (d+1) 27 (.int .u64 x) (.int .u64 y)).run Tryd.prog w = .ok (x == y) w := fun x y => run_equalIn_int w d 27 .u64 .u64 x y (by kernel_rfl)
    obtain rfl | rfl | rfl | rfl | rfl | rfl | rfl | rfl : i = 0 ∨ i = 1 ∨ i = 2 ∨ i = 3 ∨ i = 4 ∨ i = 5 ∨ i = 6 ∨ i = 7 := by omega
    · exact Eq.trans (b := (Op.equalIn (d+1) 27 (.int .u64 a0) (.int .u64 b0)).run Tryd.prog w) (by kernel_rfl) (e a0 b0)
    · exact Eq.trans (b := (Op.equalIn (d+1) 27 (.int .u64 a1) (.int .u64 b1)).run Tryd.prog w) (by kernel_rfl) (e a1 b1)
    · exact Eq.trans (b := (Op.equalIn (d+1) 27 (.int .u64 a2) (.int .u64 b2)).run Tryd.prog w) (by kernel_rfl) (e a2 b2)
    · exact Eq.trans (b := (Op.equalIn (d+1) 27 (.int .u64 a3) (.int .u64 b3)).run Tryd.prog w) (by kernel_rfl) (e a3 b3)
    · exact Eq.trans (b := (Op.equalIn (d+1) 27 (.int .u64 a4) (.int .u64 b4)).run Tryd.prog w) (by kernel_rfl) (e a4 b4)
    · exact Eq.trans (b := (Op.equalIn (d+1) 27 (.int .u64 a5) (.int .u64 b5)).run Tryd.prog w) (by kernel_rfl) (e a5 b5)
    · exact Eq.trans (b := (Op.equalIn (d+1) 27 (.int .u64 a6) (.int .u64 b6)).run Tryd.prog w) (by kernel_rfl) (e a6 b6)
    · exact Eq.trans (b := (Op.equalIn (d+1) 27 (.int .u64 a7) (.int .u64 b7)).run Tryd.prog w) (by kernel_rfl) (e a7 b7)
theorem beq_pl (a b : Sol) : (pl a 0 == pl b 0 && (pl a 1 == pl b 1 && (pl a 2 == pl b 2 && (pl a 3 == pl b 3 && (pl a 4 == pl b 4 && (pl a 5 == pl b 5 && (pl a 6 == pl b 6 && pl a 7 == pl b 7))))))) = (a == b) := by
 rw [Bool.eq_iff_iff]
 simp only [Bool.and_eq_true, beq_iff_eq, sol_eq_iff a b]
@[go_sem] theorem eqSol (d : Nat) (a b : Sol) (w : World) : (Op.equalIn (d+2) 29 (solV a) (solV b)).run Tryd.prog w = .ok (a == b) w := by
 rw [eqArr 29 (by kernel_rfl), beq_pl]
@[go_sem] theorem eqSol0 (d : Nat) (a : Sol) (w : World) : (Op.equalIn (d+2) 29 (solV a) (.agg #[.int .u64 0, .int .u64 0, .int .u64 0, .int .u64 0, .int .u64 0, .int .u64 0, .int .u64 0, .int .u64 0])).run Tryd.prog w = .ok (a == 0#512) w := by
 have := eqSol d a 0 w
 simp only [solV, pl_zero] at this
 exact this
@[go_sem] theorem eqBody (d : Nat) (a b : Sol) (w : World) : (Op.equalIn (d+2) 72 (solV a) (solV b)).run Tryd.prog w = .ok (a == b) w := by
 rw [eqArr 72 (by kernel_rfl), beq_pl]
@[go_sem] theorem eqBody0 (d : Nat) (a : Sol) (w : World) : (Op.equalIn (d+2) 72 (solV a) (.agg #[.int .u64 0, .int .u64 0, .int .u64 0, .int .u64 0, .int .u64 0, .int .u64 0, .int .u64 0, .int .u64 0])).run Tryd.prog w = .ok (a == 0#512) w := by
 have := eqBody d a 0 w
 simp only [solV, pl_zero] at this
 exact this
end Go.Proofs.YtkcpnhigekopaaaDoor
namespace Go.Proofs.YtkcpnhigekopaaaDoor
open Go.RowKit Go.Draw
/-! ### WORLDS THAT HAVE GROWN -/
theorem bel_refl (w : World) : Below w.heap.size w w := Below.refl _ _
theorem bel_alloc {w0 w : World} (h : Below w0.heap.size w0 w) (o : Obj) : Below w0.heap.size w0 (w.alloc o) := h.alloc h.size o
theorem bel_drew {w0 w : World} (h : Below w0.heap.size w0 w) : Below w0.heap.size w0 w.drew := h.drew
theorem bel_drewN {w0 w : World} (h : Below w0.heap.size w0 w) (n : Nat) : Below w0.heap.size w0 (w.drewN n) := below_drewN h n
theorem bel_trans {a b c : World} (h : Below a.heap.size a b) (k : Below b.heap.size b c) : Below a.heap.size a c := h.trans (k.mono h.size)
theorem bcell {W w1 : World} (hb : Below W.heap.size W w1) : (∀ b o, b < W.heap.size → w1.cell? ⟨b, o, none⟩ = W.cell? ⟨b, o, none⟩) ∧ (∀ b o, b < W.heap.size → w1.frozen? ⟨b, o, none⟩ = W.frozen? ⟨b, o, none⟩) :=
 ⟨fun b o h => hb.cell (p := ⟨b, o, none⟩) h, fun b o h => hb.frozen (p := ⟨b, o, none⟩) h⟩
end Go.Proofs.YtkcpnhigekopaaaDoor
namespace Go.Rel
open Go.RowKit
variable {P : Program} {ops : Array Oper} {R : World → World → Prop} {w0 : World} {Q : Act → World → Prop}
/-- the value is this one -/
abbrev Is (c : Value) : Value → World → Prop := fun v _ => v = c
theorem rel_cons {o : Oper} {rest : List Oper} {φ : Value → World → Prop} {φs : List (Value → World → Prop)} {k : Nat} {a : Act} {F : Nat → World → Prop}
  (h1 : ∀ w, R w0 w → facts F o w → step P ops R o a φ w) (h2 : ∀ v, wpRel P ops R w0 Q rest φs (k + 1) (a.put o.dst v) (fun j w => if j = k then φ v w else F j w)) :
  wpRel P ops R w0 Q (o :: rest) (φ :: φs) k a F := ⟨h1, h2⟩
theorem rel_nil {φs : List (Value → World → Prop)} {k : Nat} {a : Act} {F : Nat → World → Prop} (h : ∀ w, R w0 w → (∀ j, j < k → F j w) → Q a w) : wpRel P ops R w0 Q [] φs k a F := h
theorem upon_value {w w' : World} {φ : Value → World → Prop} {v : Value} : upon P R w φ (.ok (.value v) w') = (R w w' ∧ φ v w') := rfl
theorem upon_skip {w w' : World} {φ : Value → World → Prop} : upon P R w φ (.ok .skip w') = (R w w' ∧ φ undef w') := rfl
theorem upon_enter {w w' : World} {φ : Value → World → Prop} {f : FuncId} {args : Array Value} : upon P R w φ (.ok (.enter f args) w') = Calls P f args w' (fun e w'' => ∃ v, e = .returned v ∧ R w w'' ∧ φ v w'') := rfl
attribute [go_sem] step upon_value upon_skip upon_enter
def stable (R : World → World → Prop) : List (Value → World → Prop) → Prop
 | [] => True
 | φ :: φs => (∀ v w w', φ v w → R w w' → φ v w') ∧ stable R φs
theorem stable_mem : ∀ {Vs : List (Value → World → Prop)}, stable R Vs → ∀ φ ∈ Vs, ∀ v w w', φ v w → R w w' → φ v w'
 | [], _, φ, hφ => by cases hφ
 | ψ :: Vs, h, φ, hφ => by
  rcases List.mem_cons.1 hφ with rfl | h'
  ·exact h.1
  ·exact stable_mem h.2 φ h'
/-- nothing that lay there is turned -/
def Grows (w w' : World) : Prop := Below w.heap.size w w'
theorem Grows.refl (w : World) : Grows w w := Below.refl _ _
theorem Grows.trans {a b c : World} (h : Grows a b) (k : Grows b c) : Grows a c := Below.trans h (Below.mono k h.size)
theorem Grows.cells {W w1 : World} (hb : Grows W w1) : (∀ b o, b < W.heap.size → w1.cell? ⟨b, o, none⟩ = W.cell? ⟨b, o, none⟩) ∧ (∀ b o, b < W.heap.size → w1.frozen? ⟨b, o, none⟩ = W.frozen? ⟨b, o, none⟩) :=
 ⟨fun b o h => Below.cell (p := ⟨b, o, none⟩) hb h, fun b o h => Below.frozen (p := ⟨b, o, none⟩) hb h⟩
/-- the law, where the operations before the tail only make memory (nothing that lay there is turned) -/
theorem wp_region_grow {id : Nat} {Q : Exit → Act → World → Prop} {a : Act} {w : World} {l : List Oper} (n : Nat) (Vs : List (Value → World → Prop))
  (hm : P.follows .mixedOrders = true) (hB : relB l.toArray n = true) (hlen : Vs.length = n) (hst : stable Grows Vs)
  (h : wpRel P l.toArray Grows w (fun a' w' => wpList P l.toArray Q (l.drop n) a' w') (l.take n) Vs 0 a (fun _ _ => True)) : (Code.region id l.toArray true).wp P Q a w :=
 wp_region_rel n Grows Vs hm hB hlen Grows.refl (fun _ _ _ => Grows.trans) (stable_mem hst) w (Below.drew (Below.refl _ w)) h
end Go.Rel
namespace Go.Proofs.YtkcpnhigekopaaaDoor
open Go.RowKit Go.Draw
/-! ### SLICES THAT READ AS A LIST -/
/-- from ⟨b, off⟩ on lie the cells of the rows xs, k cells each -/
def Cells (w : World) (b off k : Nat) (xs : List (List Value)) : Prop :=
 b < w.heap.size ∧ ∀ (i j : Nat) (u : Value), (xs[i]?).bind (·[j]?) = some u → w.cell? ⟨b, off + i * k + j, none⟩ = some u
def Sl (w : World) (k : Nat) (v : Value) (xs : List (List Value)) : Prop :=
 ∃ a c, v = .slice a xs.length c ∧ xs.length ≤ c ∧ c ≤ 9223372036854775807 ∧ (xs = [] ∨ ∃ b off, a = some ⟨b, off, none⟩ ∧ Cells w b off k xs)
theorem Cells.mono {w w' : World} {b off k : Nat} {xs : List (List Value)} (h : Cells w b off k xs) {B : Nat} (hb : Below B w w') (hB : b < B) : Cells w' b off k xs :=
 ⟨Nat.lt_of_lt_of_le h.1 hb.size, fun i j u hu => (hb.cell (p := ⟨b, _, none⟩) hB).trans (h.2 i j u hu)⟩
theorem Sl.mono {w w' : World} {k : Nat} {v : Value} {xs : List (List Value)} (h : Sl w k v xs) (hb : Below w.heap.size w w') : Sl w' k v xs := by
 obtain ⟨a, c, hv, hc, hm, h | ⟨b, off, ha, hcs⟩⟩ := h
 ·exact ⟨a, c, hv, hc, hm, .inl h⟩
 ·exact ⟨a, c, hv, hc, hm, .inr ⟨b, off, ha, hcs.mono hb hcs.1⟩⟩
theorem Sl.cases {w : World} {k : Nat} {v : Value} {xs : List (List Value)} (h : Sl w k v xs) :
  (xs = [] ∧ ∃ a c, v = .slice a 0 c ∧ c ≤ 9223372036854775807) ∨ (∃ b off c, v = .slice (some ⟨b, off, none⟩) xs.length c ∧ xs.length ≤ c ∧ c ≤ 9223372036854775807 ∧ 0 < xs.length ∧ Cells w b off k xs) := by
 obtain ⟨a, c, hv, hc, hm, h | ⟨b, off, ha, hcs⟩⟩ := h
 ·subst h; exact .inl ⟨rfl, a, c, hv, hm⟩
 ·by_cases hx : xs = []
  ·subst hx; exact .inl ⟨rfl, a, c, hv, hm⟩
  ·subst ha
   exact .inr ⟨b, off, c, hv, hc, hm, List.length_pos_iff.2 hx, hcs⟩
abbrev SlS (w : World) (v : Value) (l : List Sol) : Prop := Sl w 8 v (l.map solL)
theorem sol_cells {w : World} {b off : Nat} {l : List Sol} (h : Cells w b off 8 (l.map solL)) {k : Nat} {x : Sol} (hx : l[k]? = some x) :
  w.cell? ⟨b, off + k * 8, none⟩ = some (.int .u64 (pl x 0)) ∧ w.cell? ⟨b, off + k * 8 + 1, none⟩ = some (.int .u64 (pl x 1)) ∧ w.cell? ⟨b, off + k * 8 + 2, none⟩ = some (.int .u64 (pl x 2)) ∧
  w.cell? ⟨b, off + k * 8 + 3, none⟩ = some (.int .u64 (pl x 3)) ∧ w.cell? ⟨b, off + k * 8 + 4, none⟩ = some (.int .u64 (pl x 4)) ∧ w.cell? ⟨b, off + k * 8 + 5, none⟩ = some (.int .u64 (pl x 5)) ∧
  w.cell? ⟨b, off + k * 8 + 6, none⟩ = some (.int .u64 (pl x 6)) ∧ w.cell? ⟨b, off + k * 8 + 7, none⟩ = some (.int .u64 (pl x 7)) :=
 ⟨h.2 k 0 _ (by simp [hx]), h.2 k 1 _ (by simp [hx]), h.2 k 2 _ (by simp [hx]), h.2 k 3 _ (by simp [hx]), h.2 k 4 _ (by simp [hx]), h.2 k 5 _ (by simp [hx]), h.2 k 6 _ (by simp [hx]), h.2 k 7 _ (by simp [hx])⟩

/-! ### THE FIRST INDEX AT WHICH -/
def idx {α : Type} (p : α → Bool) (l : List α) : Int := match l.findIdx? p with | some i => (i : Int) | none => -1
theorem idx_found {α : Type} {p : α → Bool} {l : List α} {k : Nat} {x : α} (hx : l[k]? = some x) (hp : p x = true) (hb : ∀ (j : Nat) (y : α), j < k → l[j]? = some y → p y = false) : idx p l = (k : Int) := by
 have hk : k < l.length := (List.getElem?_eq_some_iff.1 hx).1
 have : l.findIdx? p = some k := by
  rw [List.findIdx?_eq_some_iff_getElem]
  refine ⟨hk, ?_, fun j hj => ?_⟩
  ·have := (List.getElem?_eq_some_iff.1 hx).2; rw [this]; exact hp
  ·have := hb j (l[j]'(by omega)) hj (by simp [show j < l.length by omega]); simp [this]
 unfold idx; rw [this]
theorem idx_none {α : Type} {p : α → Bool} {l : List α} (hb : ∀ (j : Nat) (y : α), l[j]? = some y → p y = false) : idx p l = -1 := by
 have : l.findIdx? p = none := by
  rw [List.findIdx?_eq_none_iff]
  intro x hx
  obtain ⟨j, hj⟩ := List.mem_iff_getElem?.1 hx
  exact hb j x hj
 unfold idx; rw [this]
theorem idx_nonneg {α : Type} {p : α → Bool} {l : List α} : (0 ≤ idx p l) = (l.any p = true) := by
 unfold idx
 cases h : l.findIdx? p with
 | none =>
  have := List.findIdx?_eq_none_iff.1 h
  simp only [eq_iff_iff]
  constructor
  ·intro h; omega
  ·intro h'
   obtain ⟨x, hx, hp⟩ := List.any_eq_true.1 h'
   rw [this x hx] at hp; cases hp
 | some i =>
  obtain ⟨hi, hp, _⟩ := List.findIdx?_eq_some_iff_getElem.1 h
  simp only [eq_iff_iff]
  constructor
  ·intro _; exact List.any_eq_true.2 ⟨l[i], by simp, hp⟩
  ·intro _; omega
theorem idx_lt {α : Type} {p : α → Bool} {l : List α} : idx p l < l.length ∨ idx p l = -1 := by
 unfold idx
 cases h : l.findIdx? p with
 | none => exact .inr rfl
 | some i =>
  obtain ⟨hi, _, _⟩ := List.findIdx?_eq_some_iff_getElem.1 h
  exact .inl (by simpa using hi)
theorem idx_ge {α : Type} (p : α → Bool) (l : List α) : -1 ≤ idx p l := by
 unfold idx; cases l.findIdx? p <;> simp <;> omega
end Go.Proofs.YtkcpnhigekopaaaDoor
namespace Go.Proofs.YtkcpnhigekopaaaDoor
theorem ret_int {k : IntKind} {a b : Int} (h : a = b) : Ending.returned (.int k a) = .returned (.int k b) := by rw [h]
theorem ret_bool {a b : Bool} (h : a = b) : Ending.returned (.bool a) = .returned (.bool b) := by rw [h]
end Go.Proofs.YtkcpnhigekopaaaDoor
end
section
namespace Go.Proofs.YtkcpnhigekopaaaDoor
open Go.RowKit Go.Rel Go.Draw
set_option maxRecDepth 100000
/-! a block known whole -/
def Blk (w : World) (b : Nat) (c : Array Value) (t : TypeId) : Prop := w.heap[b]? = some (.cells c t (0, 0))
theorem Blk.cell {w : World} {b : Nat} {c : Array Value} {t : TypeId} (h : Blk w b c t) (o : Nat) : w.cell? ⟨b, o, none⟩ = c[o]? := by
 unfold Blk at h; simp [World.cell?, h]
theorem Blk.free {w : World} {b : Nat} {c : Array Value} {t : TypeId} (h : Blk w b c t) (o : Nat) : w.frozen? ⟨b, o, none⟩ = false := by
 unfold Blk at h; simp [World.frozen?, h]
theorem Blk.lt {w : World} {b : Nat} {c : Array Value} {t : TypeId} (h : Blk w b c t) : b < w.heap.size := (Array.getElem?_eq_some_iff.1 h).1
theorem Blk.set {w : World} {b : Nat} {c : Array Value} {t : TypeId} (h : Blk w b c t) (o : Nat) (v : Value) : Blk (w.setCell ⟨b, o, none⟩ v) b (c.setIfInBounds o v) t := by
 unfold Blk at *
 simp [World.setCell, Array.getElem?_modify, h]
theorem Blk.other {w : World} {b : Nat} {c : Array Value} {t : TypeId} (h : Blk w b c t) {a : Addr} (hne : a.block ≠ b) (v : Value) : Blk (w.setCell a v) b c t :=
 (Below.heap_setCell w a v b (Ne.symm hne)).trans h
theorem Blk.below {w w' : World} {b : Nat} {c : Array Value} {t : TypeId} (h : Blk w b c t) {B : Nat} (hb : Below B w w') (hlt : b < B) : Blk w' b c t := (hb.block b hlt).trans h
theorem Blk.grow {w w' : World} {b : Nat} {c : Array Value} {t : TypeId} (h : Blk w b c t) (hb : Below w.heap.size w w') : Blk w' b c t := h.below hb h.lt
theorem Blk.alloc {w : World} {b : Nat} {c : Array Value} {t : TypeId} (h : Blk w b c t) (o : Obj) : Blk (w.alloc o) b c t := (Below.heap_alloc w o b h.lt).trans h
theorem Blk.drew {w : World} {b : Nat} {c : Array Value} {t : TypeId} (h : Blk w b c t) : Blk w.drew b c t := h
theorem Blk.new (w : World) (c : Array Value) (t : TypeId) : Blk (w.alloc (.cells c t)) w.heap.size c t := by
 unfold Blk; show (w.heap.push _)[w.heap.size]? = _; simp
theorem Blk.new1 (w : World) (o : Obj) (c : Array Value) (t : TypeId) : Blk ((w.alloc o).alloc (.cells c t)) (w.heap.size + 1) c t := by
 have := Blk.new (w.alloc o) c t; rwa [World.size_alloc] at this
theorem Blk.new2 (w : World) (o o' : Obj) (c : Array Value) (t : TypeId) : Blk (((w.alloc o).alloc o').alloc (.cells c t)) (w.heap.size + 1 + 1) c t := by
 have := Blk.new1 (w.alloc o) o' c t; rwa [World.size_alloc] at this
theorem Blk.new3 (w : World) (o o' o'' : Obj) (c : Array Value) (t : TypeId) : Blk ((((w.alloc o).alloc o').alloc o'').alloc (.cells c t)) (w.heap.size + 1 + 1 + 1) c t := by
 have := Blk.new2 (w.alloc o) o' o'' c t; rwa [World.size_alloc] at this
theorem setRow_setCell (w : World) (g i : Nat) (cs : Array Value) (v : Value) : (w.setRow g cs).setCell ⟨g, i, none⟩ v = w.setRow g (cs.setIfInBounds i v) := by
 unfold World.setCell World.setRow
 congr 1
 apply Array.ext
 ·simp
 ·intro k h1 h2
  simp only [Array.getElem_modify]
  split
  ·cases w.heap[k]'(by simpa using h1) <;> rfl
  ·rfl
theorem setRow_setCell_other (w : World) (g k i : Nat) (cs : Array Value) (v : Value) (h : k ≠ g) : (w.setRow g cs).setCell ⟨k, i, none⟩ v = (w.setCell ⟨k, i, none⟩ v).setRow g cs := by
 unfold World.setCell World.setRow
 congr 1
 apply Array.ext
 ·simp
 ·intro j h1 h2
  simp only [Array.getElem_modify]
  by_cases e1 : g = j
  ·by_cases e2 : k = j
   ·exact absurd (e2.trans e1.symm) h
   ·simp [e1, e2]
  ·simp [e1]
theorem cell_row_other (w : World) (g k i : Nat) (cs : Array Value) (h : k ≠ g) : (w.setRow g cs).cell? ⟨k, i, none⟩ = w.cell? ⟨k, i, none⟩ := cell_setRow_other w g cs ⟨k, i, none⟩ h
theorem frozen_row_other (w : World) (g k i : Nat) (cs : Array Value) (h : k ≠ g) : (w.setRow g cs).frozen? ⟨k, i, none⟩ = w.frozen? ⟨k, i, none⟩ := by
 simp [World.frozen?, setRow_other w g k cs h]
theorem row_drew (w : World) (g : Nat) (cs : Array Value) : w.drew.setRow g cs = (w.setRow g cs).drew := rfl
attribute [go_sem] setRow_size setRow_setCell setRow_setCell_other cell_row_other frozen_row_other row_drew
/-- there is a row of cells at g, none of them frozen -/
def Row (w : World) (g : Nat) : Prop := ∃ c t, Blk w g c t
theorem cell_row_at (w : World) (g i : Nat) (cs : Array Value) (h : Row w g) : (w.setRow g cs).cell? ⟨g, i, none⟩ = cs[i]? := by
 obtain ⟨c, t, h⟩ := h; exact cell_setRow_same w g i c cs t (0, 0) h
theorem frozen_row_at (w : World) (g i : Nat) (cs : Array Value) (h : Row w g) : (w.setRow g cs).frozen? ⟨g, i, none⟩ = false := by
 obtain ⟨c, t, h⟩ := h; exact frozen_of_row _ g i cs t (setRow_heap w g c cs t (0, 0) h)
theorem row_setRow (w : World) (g k : Nat) (cs : Array Value) : Row (w.setRow k cs) g = Row w g := by
 by_cases e : g = k
 ·subst e
  refine propext ⟨fun ⟨c, t, h⟩ => ?_, fun ⟨c, t, h⟩ => ⟨_, _, setRow_heap w g c cs t (0, 0) h⟩⟩
  unfold Blk World.setRow at h
  simp only [Array.getElem?_modify] at h
  cases hh : w.heap[g]? with
  | none => rw [hh] at h; simp at h
  | some o =>
   rw [hh] at h
   cases o with
   | cells c' t' fr => simp at h; exact ⟨c', t', by unfold Blk; rw [hh]; simp [h]⟩
   | _ => simp at h
 ·refine propext ⟨fun ⟨c, t, h⟩ => ⟨c, t, ?_⟩, fun ⟨c, t, h⟩ => ⟨c, t, ?_⟩⟩
  ·unfold Blk at *; rwa [setRow_other w k g cs e] at h
  ·unfold Blk at *; rwa [setRow_other w k g cs e]
attribute [go_sem] cell_row_at frozen_row_at row_setRow
theorem Blk.row {w : World} {b : Nat} {c : Array Value} {t : TypeId} (h : Blk w b c t) : Row w b := ⟨c, t, h⟩
theorem Blk.rw {w : World} {b : Nat} {c : Array Value} {t : TypeId} (h : Blk w b c t) : w.setRow b c = w := setRow_self w b c t (0, 0) h
theorem Blk.rowS {w : World} {b : Nat} {c : Array Value} {t : TypeId} (h : Blk w b c t) (cs : Array Value) : Blk (w.setRow b cs) b cs t := setRow_heap w b c cs t (0, 0) h
theorem Blk.at {w : World} {n : Nat} (c : Array Value) (t : TypeId) (h : n = w.heap.size) : Blk (w.alloc (.cells c t)) n c t := by subst h; exact Blk.new w c t
theorem add1_ne (x : Nat) : (x + 1 = x) = False := by simp
theorem add2_ne (x : Nat) : (x + 1 + 1 = x) = False := eq_false (by omega)
theorem add3_ne (x : Nat) : (x + 1 + 1 + 1 = x) = False := eq_false (by omega)
theorem add4_ne (x : Nat) : (x + 1 + 1 + 1 + 1 = x) = False := eq_false (by omega)
theorem ne_add1 (x : Nat) : (x = x + 1) = False := by simp
theorem ne_add2 (x : Nat) : (x = x + 1 + 1) = False := eq_false (by omega)
theorem ne_add3 (x : Nat) : (x = x + 1 + 1 + 1) = False := eq_false (by omega)
theorem ne_add4 (x : Nat) : (x = x + 1 + 1 + 1 + 1) = False := eq_false (by omega)
attribute [go_sem] add1_ne add2_ne add3_ne add4_ne ne_add1 ne_add2 ne_add3 ne_add4
theorem Blk.rowO {w : World} {b : Nat} {c : Array Value} {t : TypeId} (h : Blk w b c t) {g : Nat} (cs : Array Value) (hne : b ≠ g) : Blk (w.setRow g cs) b c t := (setRow_other w g b cs hne).trans h
theorem bel_row {w0 w : World} (h : Below w0.heap.size w0 w) {g : Nat} (hg : w0.heap.size ≤ g) (cs : Array Value) : Below w0.heap.size w0 (w.setRow g cs) :=
 ⟨h.os, h.tape, h.output, by rw [setRow_size]; exact h.size, fun k hk => (setRow_other w g k cs (by omega)).trans (h.block k hk)⟩
theorem blw_row {B : Nat} {w0 w : World} (h : Below B w0 w) {g : Nat} (hg : B ≤ g) (cs : Array Value) : Below B w0 (w.setRow g cs) :=
 ⟨h.os, h.tape, h.output, by rw [setRow_size]; exact h.size, fun k hk => (setRow_other w g k cs (by omega)).trans (h.block k hk)⟩
theorem bel_set {w0 w : World} (h : Below w0.heap.size w0 w) {p : Addr} (hp : w0.heap.size ≤ p.block) (u : Value) : Below w0.heap.size w0 (w.setCell p u) := h.setCell hp u
@[irreducible] def Veil (p : Prop) : Prop := p
theorem Veil.out {p : Prop} (h : Veil p) : p := by unfold Veil at h; exact h
theorem Veil.on {p : Prop} (h : p) : Veil p := by unfold Veil; exact h
theorem Sl.out {w : World} {k : Nat} {v : Value} {xs : List (List Value)} (h : Sl w k v xs) : ∃ a n c, v = .slice a n c ∧ n = xs.length ∧ n ≤ c ∧ c ≤ 9223372036854775807 := by
 obtain ⟨a, c, hv, hc, hm, _⟩ := h
 exact ⟨a, xs.length, c, hv, rfl, hc, hm⟩
theorem SlS.out {w : World} {v : Value} {l : List Sol} (h : SlS w v l) : ∃ a n c, v = .slice a n c ∧ n = l.length ∧ n ≤ c ∧ c ≤ 9223372036854775807 := by
 obtain ⟨a, n, c, h1, h2, h3⟩ := Sl.out h
 exact ⟨a, n, c, h1, by simpa using h2, h3⟩
end Go.Proofs.YtkcpnhigekopaaaDoor
end
section
namespace Go.Proofs.YtkcpnhigekopaaaDoor
open Go.RowKit Go.Rel Go.Draw
set_option maxRecDepth 100000
/-! an array of eight words, indexed -/
@[go_sem] theorem idxB0 (a0 a1 a2 a3 a4 a5 a6 a7 : Int) (w : World) : (Instr.index 72 (.agg #[.int .u64 a0, .int .u64 a1, .int .u64 a2, .int .u64 a3, .int .u64 a4, .int .u64 a5, .int .u64 a6, .int .u64 a7]) (.int .i64 0)).run Tryd.prog w = .ok (.int .u64 a0) w := by kernel_rfl
@[go_sem] theorem idxB1 (a0 a1 a2 a3 a4 a5 a6 a7 : Int) (w : World) : (Instr.index 72 (.agg #[.int .u64 a0, .int .u64 a1, .int .u64 a2, .int .u64 a3, .int .u64 a4, .int .u64 a5, .int .u64 a6, .int .u64 a7]) (.int .i64 1)).run Tryd.prog w = .ok (.int .u64 a1) w := by kernel_rfl
@[go_sem] theorem idxB2 (a0 a1 a2 a3 a4 a5 a6 a7 : Int) (w : World) : (Instr.index 72 (.agg #[.int .u64 a0, .int .u64 a1, .int .u64 a2, .int .u64 a3, .int .u64 a4, .int .u64 a5, .int .u64 a6, .int .u64 a7]) (.int .i64 2)).run Tryd.prog w = .ok (.int .u64 a2) w := by kernel_rfl
@[go_sem] theorem idxB3 (a0 a1 a2 a3 a4 a5 a6 a7 : Int) (w : World) : (Instr.index 72 (.agg #[.int .u64 a0, .int .u64 a1, .int .u64 a2, .int .u64 a3, .int .u64 a4, .int .u64 a5, .int .u64 a6, .int .u64 a7]) (.int .i64 3)).run Tryd.prog w = .ok (.int .u64 a3) w := by kernel_rfl
@[go_sem] theorem idxB4 (a0 a1 a2 a3 a4 a5 a6 a7 : Int) (w : World) : (Instr.index 72 (.agg #[.int .u64 a0, .int .u64 a1, .int .u64 a2, .int .u64 a3, .int .u64 a4, .int .u64 a5, .int .u64 a6, .int .u64 a7]) (.int .i64 4)).run Tryd.prog w = .ok (.int .u64 a4) w := by kernel_rfl
@[go_sem] theorem idxB5 (a0 a1 a2 a3 a4 a5 a6 a7 : Int) (w : World) : (Instr.index 72 (.agg #[.int .u64 a0, .int .u64 a1, .int .u64 a2, .int .u64 a3, .int .u64 a4, .int .u64 a5, .int .u64 a6, .int .u64 a7]) (.int .i64 5)).run Tryd.prog w = .ok (.int .u64 a5) w := by kernel_rfl
@[go_sem] theorem idxB6 (a0 a1 a2 a3 a4 a5 a6 a7 : Int) (w : World) : (Instr.index 72 (.agg #[.int .u64 a0, .int .u64 a1, .int .u64 a2, .int .u64 a3, .int .u64 a4, .int .u64 a5, .int .u64 a6, .int .u64 a7]) (.int .i64 6)).run Tryd.prog w = .ok (.int .u64 a6) w := by kernel_rfl
@[go_sem] theorem idxB7 (a0 a1 a2 a3 a4 a5 a6 a7 : Int) (w : World) : (Instr.index 72 (.agg #[.int .u64 a0, .int .u64 a1, .int .u64 a2, .int .u64 a3, .int .u64 a4, .int .u64 a5, .int .u64 a6, .int .u64 a7]) (.int .i64 7)).run Tryd.prog w = .ok (.int .u64 a7) w := by kernel_rfl
end Go.Proofs.YtkcpnhigekopaaaDoor
end
section
namespace Go.Proofs.YtkcpnhigekopaaaDoor
open Go.RowKit Go.Rel Go.Draw
set_option maxRecDepth 100000
/-! sets of pieces, and planes, as the numbers that the model has -/
def uI (p : U) : Int := (p.toNat : Int)
theorem uI_nonneg (p : U) : 0 ≤ uI p := by unfold uI; omega
theorem uI_lt (p : U) : uI p < 18446744073709551616 := by unfold uI; have := p.isLt; omega
theorem uI_inj {p q : U} : uI p = uI q ↔ p = q := by unfold uI; rw [Int.ofNat_inj, BitVec.toNat_inj]
theorem uI_zero : uI 0 = 0 := rfl
theorem uI_one : uI 1 = 1 := rfl
theorem ofInt_uI (p : U) : BitVec.ofInt 64 (uI p) = p := by
 unfold uI; rw [BitVec.ofInt_natCast, BitVec.ofNat_toNat]; simp
theorem wrap_uI (p : U) : IntKind.u64.wrap (uI p) = uI p := IntWalk.u64_in _ (by have := uI_nonneg p; have := uI_lt p; omega)
theorem bits_and_u (a b : U) : bits .and .u64 (uI a) (uI b) = uI (a &&& b) := by
 show IntKind.u64.wrap ((BitVec.ofInt 64 (uI a) &&& BitVec.ofInt 64 (uI b)).toNat : Int) = _
 rw [ofInt_uI, ofInt_uI]; exact wrap_uI _
theorem bits_or_u (a b : U) : bits .or .u64 (uI a) (uI b) = uI (a ||| b) := by
 show IntKind.u64.wrap ((BitVec.ofInt 64 (uI a) ||| BitVec.ofInt 64 (uI b)).toNat : Int) = _
 rw [ofInt_uI, ofInt_uI]; exact wrap_uI _
theorem bits_andNot_u (a b : U) : bits .andNot .u64 (uI a) (uI b) = uI (a &&& ~~~b) := by
 show IntKind.u64.wrap ((BitVec.ofInt 64 (uI a) &&& ~~~(BitVec.ofInt 64 (uI b))).toNat : Int) = _
 rw [ofInt_uI, ofInt_uI]; exact wrap_uI _
theorem beq_u (a b : U) : (uI a == uI b) = (a == b) := by
 rw [Bool.eq_iff_iff, beq_iff_eq, beq_iff_eq]; exact uI_inj
theorem beq_u0 (a : U) : (uI a == 0) = (a == 0) := beq_u a 0
theorem bne_u0 (a : U) : (uI a != 0) = (a != 0) := by unfold bne; rw [beq_u0]
theorem pl_uI (s : Sol) (k : Nat) : pl s k = uI (plv s k) := by unfold pl; rfl
theorem uI_lit (n : Nat) (h : n < 18446744073709551616) : ((n : Nat) : Int) = uI (BitVec.ofNat 64 n) := by
 unfold uI; rw [BitVec.toNat_ofNat, Nat.mod_eq_of_lt h]
theorem shl_u (p : U) (n : Nat) : IntKind.u64.wrap (uI p * ((2 ^ n : Nat) : Int)) = uI (p <<< n) := by
 have h1 : uI p * ((2 ^ n : Nat) : Int) = ((p.toNat * 2 ^ n : Nat) : Int) := by unfold uI; rw [Int.natCast_mul]
 have h2 : IntKind.u64.wrap ((p.toNat * 2 ^ n : Nat) : Int) = ((p.toNat * 2 ^ n % 2 ^ 64 : Nat) : Int) := by
  have e : ∀ x : Int, IntKind.u64.wrap x = x % 18446744073709551616 := fun x => by
   unfold IntKind.wrap
   rw [if_neg (by simp [IntKind.signed])]
   rfl
  rw [e, Int.natCast_emod]; rfl
 rw [h1, h2]
 unfold uI
 rw [BitVec.toNat_shiftLeft, Nat.shiftLeft_eq]
theorem shr_u (p : U) (n : Nat) : uI p / ((2 ^ n : Nat) : Int) = uI (p >>> n) := by
 unfold uI
 rw [BitVec.toNat_ushiftRight, Nat.shiftRight_eq_div_pow, Int.natCast_ediv]
theorem u_hiX : (9259542123273814144 : Int) = uI hiXP := by unfold uI; rfl
theorem u_lowX : (72340172838076673 : Int) = uI lowXP := by unfold uI; rfl
theorem u_lowY : (255 : Int) = uI 0xff#64 := by unfold uI; rfl
attribute [irreducible] uI
theorem uon1 (p : U) : IntKind.u64.wrap (bits .andNot .u64 (uI p) 9259542123273814144 * 2) = uI (onP 1 p) := by rw [u_hiX, bits_andNot_u]; exact shl_u _ 1
theorem uoff1 (p : U) : bits .and .u64 (uI p) 9259542123273814144 = uI (offP 1 p) := by rw [u_hiX, bits_and_u]; rfl
theorem uon2 (p : U) : IntKind.u64.wrap (uI p * 256) = uI (onP 2 p) := shl_u _ 8
theorem uoff2 (p : U) : uI p / 72057594037927936 = uI (offP 2 p) := shr_u _ 56
theorem uon3 (p : U) : bits .andNot .u64 (uI p) 72340172838076673 / 2 = uI (onP 3 p) := by rw [u_lowX, bits_andNot_u]; exact shr_u _ 1
theorem uoff3 (p : U) : bits .and .u64 (uI p) 72340172838076673 = uI (offP 3 p) := by rw [u_lowX, bits_and_u]; rfl
theorem uon4 (p : U) : uI p / 256 = uI (onP 4 p) := shr_u _ 8
theorem uoff4 (p : U) : bits .and .u64 (uI p) 255 = uI (offP 4 p) := by rw [u_lowY, bits_and_u]; rfl
set_option maxHeartbeats 400000 in
theorem east1_spec (p : U) (w : World) : Calls Tryd.prog 90 #[.int .u64 (uI p)] w fun e w' => e = .returned (.tuple #[.int .u64 (uI (onP 1 p)), .int .u64 (uI (offP 1 p))]) ∧ w' = w := by
 go_enter Tryd.func90, Tryd.ntmps90
 go_wp2
 rw [uon1, uoff1]
 exact bodyPost_ret (v := .tuple #[.int .u64 (uI (onP 1 p)), .int .u64 (uI (offP 1 p))]) (by simp [results, Tryd.results90, go_sem]) rfl ⟨rfl, rfl⟩
set_option maxHeartbeats 400000 in
theorem south1_spec (p : U) (w : World) : Calls Tryd.prog 91 #[.int .u64 (uI p)] w fun e w' => e = .returned (.tuple #[.int .u64 (uI (onP 2 p)), .int .u64 (uI (offP 2 p))]) ∧ w' = w := by
 go_enter Tryd.func91, Tryd.ntmps91
 go_wp2
 rw [uon2, uoff2]
 exact bodyPost_ret (v := .tuple #[.int .u64 (uI (onP 2 p)), .int .u64 (uI (offP 2 p))]) (by simp [results, Tryd.results91, go_sem]) rfl ⟨rfl, rfl⟩
set_option maxHeartbeats 400000 in
theorem west1_spec (p : U) (w : World) : Calls Tryd.prog 92 #[.int .u64 (uI p)] w fun e w' => e = .returned (.tuple #[.int .u64 (uI (onP 3 p)), .int .u64 (uI (offP 3 p))]) ∧ w' = w := by
 go_enter Tryd.func92, Tryd.ntmps92
 go_wp2
 rw [uon3, uoff3]
 exact bodyPost_ret (v := .tuple #[.int .u64 (uI (onP 3 p)), .int .u64 (uI (offP 3 p))]) (by simp [results, Tryd.results92, go_sem]) rfl ⟨rfl, rfl⟩
set_option maxHeartbeats 400000 in
theorem north1_spec (p : U) (w : World) : Calls Tryd.prog 93 #[.int .u64 (uI p)] w fun e w' => e = .returned (.tuple #[.int .u64 (uI (onP 4 p)), .int .u64 (uI (offP 4 p))]) ∧ w' = w := by
 go_enter Tryd.func93, Tryd.ntmps93
 go_wp2
 rw [uon4, uoff4]
 exact bodyPost_ret (v := .tuple #[.int .u64 (uI (onP 4 p)), .int .u64 (uI (offP 4 p))]) (by simp [results, Tryd.results93, go_sem]) rfl ⟨rfl, rfl⟩
end Go.Proofs.YtkcpnhigekopaaaDoor
end
