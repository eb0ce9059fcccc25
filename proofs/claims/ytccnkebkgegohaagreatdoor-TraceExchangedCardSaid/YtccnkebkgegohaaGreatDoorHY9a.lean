import Derived.Test.YtccnkebkgegohaaGreatDoorG29
import Derived.Test.YtccnkebkgegohaaGreatDoorHY3
import Derived.Laws.CopyRow
import Derived.Laws.Tables
import Derived.Laws.AppendOwn
/-
  Given contracts of functions of the program, and laws for them, one behind the other.
-/
set_option linter.unusedVariables false
set_option linter.unusedSimpArgs false
set_option linter.unusedSectionVars false
section
namespace Go.Proofs.YtccnkebkgegohaaGreatDoor
open Go.RowKit Go.Rel
set_option maxRecDepth 100000
theorem samePat_eq {b b' : Sol} {l l' : List Sol} (h : samePat b l b' l' = true) : b' = b ∧ l' = l := by
  unfold samePat at h
  simp only [Bool.and_eq_true, beq_iff_eq] at h
  exact ⟨h.1.symm, h.2.symm⟩
theorem pre_of {l : List Sol} {g h : List Ac} (p : Tra.Pre (depA l) g h) : preB l g h = true := pre_iff.2 p
theorem of_pre {l : List Sol} {g h : List Ac} (p : preB l g h = true) : Tra.Pre (depA l) g h := pre_iff.1 p
theorem bad_or {b : Sol} {l : List Sol} {m : List Ac} : Bad b l m ∨ ∃ t, Runs b l m t := by
  cases h : begunM b l m with
  | inl x => exact .inl ⟨x, h⟩
  | inr s =>
    obtain ⟨t, R, _⟩ := Runs.of h
    exact .inr ⟨t, R⟩
theorem Check_ok {b : Sol} {l : List Sol} {m : List Ac} {t : StB} (R : Runs b l m t) {v av : Value} (w : World) (Hv : SlS w v l) (Hav : SlA w av m) :
    Calls Tryz.prog 27 #[.agg #[.int .u64 (pl b 0), .int .u64 (pl b 1), .int .u64 (pl b 2), .int .u64 (pl b 3), .int .u64 (pl b 4), .int .u64 (pl b 5), .int .u64 (pl b 6), .int .u64 (pl b 7), v, av]] w fun e w' => e = .returned (.tuple #[.int .i64 0, .int .i64 0]) ∧ Below w.heap.size w w' := by
  have := Check_spec b v av l m w Hv Hav
  unfold checkR at this
  rw [R.good] at this
  exact this
theorem Check_any (b : Sol) (l : List Sol) (m : List Ac) : ∃ x y : Int, (Bad b l m → (y != 0) = true) ∧ ∀ {v av : Value} (w : World), SlS w v l → SlA w av m →
    Calls Tryz.prog 27 #[.agg #[.int .u64 (pl b 0), .int .u64 (pl b 1), .int .u64 (pl b 2), .int .u64 (pl b 3), .int .u64 (pl b 4), .int .u64 (pl b 5), .int .u64 (pl b 6), .int .u64 (pl b 7), v, av]] w fun e w' => e = .returned (.tuple #[.int .i64 x, .int .i64 y]) ∧ Below w.heap.size w w' := by
  refine ⟨_, (checkR b l m).2, fun ⟨x, hx⟩ => ?_, fun w h1 h2 => Check_spec b _ _ l m w h1 h2⟩
  unfold checkR
  rw [hx]; exact begunM_bad hx
/-- the greatest common beginning -/
theorem meets_law {l : List Sol} (g h k : List Ac) : preB l (nrm l (beyA l g h).1) g = true ∧ preB l (nrm l (beyA l g h).1) h = true ∧ (preB l k g = true → preB l k h = true → preB l k (nrm l (beyA l g h).1) = true) := by
  have B := bey_A l g h
  have e := nrm_eqv l (beyA l g h).1
  exact ⟨pre_of (B.pre1.eqv e (Tra.Eqv.refl _)), pre_of (B.pre2.eqv e (Tra.Eqv.refl _)), fun h1 h2 => pre_of ((B.great (depA_refl l) (depA_symm l) (of_pre h1) (of_pre h2)).eqv (Tra.Eqv.refl _) e)⟩
end Go.Proofs.YtccnkebkgegohaaGreatDoor
end
section
namespace Go.Proofs.YtccnkebkgegohaaGreatDoor
open Go.RowKit Go.Rel
set_option maxRecDepth 100000
/-- a world that grew by what a walk lays: found by its form -/
class BelI (w0 w : World) : Prop where
  out : Below w0.heap.size w0 w
instance (w : World) : BelI w w := ⟨bel_refl w⟩
instance (w0 w : World) [h : BelI w0 w] (o : Obj) : BelI w0 (w.alloc o) := ⟨bel_alloc h.out o⟩
instance (w0 w : World) [h : BelI w0 w] : BelI w0 w.drew := ⟨bel_drew h.out⟩
instance (w0 w : World) [h : BelI w0 w] (n : Nat) : BelI w0 (w.drewN n) := ⟨bel_drewN h.out n⟩
theorem bni {w0 w : World} [h : BelI w0 w] : Below w0.heap.size w0 w := h.out
/-- two acts of a history that hang together are not independent -/
theorem Indep_dep {b : Sol} {l : List Sol} {g h : List Ac} {t u : StB} (R : Runs b l g t) (R2 : Runs b l h u) {x y : Ac} (hx : x ∈ g) (hy : y ∈ h) (hd : depA l x y = true) {v : Value} (w : World) (Hv : SlS w v l) :
    Calls Tryz.prog 32 #[.agg #[.int .u64 (pl b 0), .int .u64 (pl b 1), .int .u64 (pl b 2), .int .u64 (pl b 3), .int .u64 (pl b 4), .int .u64 (pl b 5), .int .u64 (pl b 6), .int .u64 (pl b 7), v], .agg #[.int .u8 x.1, .int .i64 x.2.1, .int .u64 (pl x.2.2 0), .int .u64 (pl x.2.2 1), .int .u64 (pl x.2.2 2), .int .u64 (pl x.2.2 3), .int .u64 (pl x.2.2 4), .int .u64 (pl x.2.2 5), .int .u64 (pl x.2.2 6), .int .u64 (pl x.2.2 7)], .agg #[.int .u8 y.1, .int .i64 y.2.1, .int .u64 (pl y.2.2 0), .int .u64 (pl y.2.2 1), .int .u64 (pl y.2.2 2), .int .u64 (pl y.2.2 3), .int .u64 (pl y.2.2 4), .int .u64 (pl y.2.2 5), .int .u64 (pl y.2.2 6), .int .u64 (pl y.2.2 7)]] w fun e w' => e = .returned (.tuple #[.bool false, .int .i64 0]) ∧ Below w.heap.size w w' := by
  have hs := Independent_spec b v l x y w Hv
  have hx0 : chkAc b l x = 0 := by unfold chkAc; rw [if_pos R.pat, if_pos (R.fine.fit x hx)]
  have hy0 : chkAc b l y = 0 := by unfold chkAc; rw [if_pos R.pat, if_pos (R2.fine.fit y hy)]
  have hi : indErr b l x y = 0 := by unfold indErr; rw [if_pos hx0, hy0]
  have ha : apartB l x y = false := by
    unfold apartB
    rw [depA_meets (R.fine.ne x hx)] at hd
    rw [hd]; rfl
  rw [hi, ha] at hs
  exact hs
theorem few_len {m n : Nat} (h : many m n = false) (h60 : m ≤ 60) : m ≤ 14 := by
  unfold many at h
  have := of_decide_eq_false h
  omega
end Go.Proofs.YtccnkebkgegohaaGreatDoor
end
section
namespace Go.Proofs.YtccnkebkgegohaaGreatDoor
open Go Go.Tra
/-! ### neighbours exchanged; projections -/
def swp (m : List Ac) (i : Nat) : List Ac := (m.set i (m.getD (i + 1) (0, 0, 0))).set (i + 1) (m.getD i (0, 0, 0))
theorem swp_len (m : List Ac) (i : Nat) : (swp m i).length = m.length := by simp [swp]
theorem set_mid {α : Type} : ∀ (u : List α) (x y a b : α) (v : List α), ((u ++ x :: y :: v).set u.length a).set (u.length + 1) b = u ++ a :: b :: v
  | [], x, y, a, b, v => rfl
  | z :: u, x, y, a, b, v => by simp [List.set_cons_succ, set_mid u x y a b v]
theorem two_at {m : List Ac} {i : Nat} (hi : i + 1 < m.length) : ∃ u v, u.length = i ∧ m = u ++ m.getD i (0, 0, 0) :: m.getD (i + 1) (0, 0, 0) :: v := by
  refine ⟨m.take i, m.drop (i + 2), by rw [List.length_take]; omega, ?_⟩
  have h0 : m.getD i (0, 0, 0) = m[i] := by simp [List.getD_eq_getElem?_getD, List.getElem?_eq_getElem (show i < m.length by omega)]
  have h1 : m.getD (i + 1) (0, 0, 0) = m[i + 1] := by simp [List.getD_eq_getElem?_getD, List.getElem?_eq_getElem hi]
  rw [h0, h1, ← List.drop_eq_getElem_cons hi, ← List.drop_eq_getElem_cons (show i < m.length by omega), List.take_append_drop]
theorem swp_eqv {l : List Sol} {m : List Ac} {i : Nat} (hi : i + 1 < m.length) (hd : depA l (m.getD i (0, 0, 0)) (m.getD (i + 1) (0, 0, 0)) = false) : Eqv (depA l) m (swp m i) := by
  obtain ⟨u, v, hu, hm⟩ := two_at hi
  have e : swp m i = u ++ m.getD (i + 1) (0, 0, 0) :: m.getD i (0, 0, 0) :: v := by
    unfold swp
    generalize m.getD i (0, 0, 0) = x at *
    generalize m.getD (i + 1) (0, 0, 0) = y at *
    subst hu
    rw [hm, set_mid]
  rw [e]
  have := Eqv.swap (depA_symm l) hd v
  have h2 := Eqv.app (Eqv.refl (D := depA l) u) this
  rw [← hm] at h2
  exact h2
theorem apart_dep {l : List Sol} {m : List Ac} (F : Fine l m) {x y : Ac} (hx : x ∈ m) : (!meetsB (acCells l x) (acCells l y)) = !depA l x y := by rw [depA_meets (F.ne x hx)]
/-- of a list only two acts, as the law keeps them -/
def prj (a b : Ac) (m : List Ac) : List Ac := m.filter fun x => !((!(x == a)) && (!(x == b)))
theorem prj_eq (a b : Ac) (m : List Ac) : prj a b m = pj a b m := by
  unfold prj pj
  congr 1
  funext x
  rw [Bool.eq_iff_iff]; simp
def freeOrSame (l : List Sol) (g h : List Ac) (a b : Ac) : Bool := !meetsB (acCells l a) (acCells l b) || (prj a b g == prj a b h)
theorem pj_out {a b : Ac} {m : List Ac} (h : a ∉ m) : pj a b m = pj b b m := by
  unfold pj
  refine List.filter_congr fun x hx => ?_
  have : x ≠ a := fun e => h (e ▸ hx)
  simp [this]
theorem pj_comm (a b : Ac) (m : List Ac) : pj a b m = pj b a m := by
  unfold pj; congr 1; funext x; rw [Bool.or_comm]
theorem projected_law {l : List Sol} {g h : List Ac} (F : Fine l g) (G : Fine l h) : (nrm l g == nrm l h) = (g ++ h).all fun a => (g ++ h).all fun b => freeOrSame l g h a b := by
  have FG := F.app G
  rw [Bool.eq_iff_iff, beq_iff_eq, nrm_iff]
  have key : ∀ a ∈ g ++ h, ∀ b, (freeOrSame l g h a b = true ↔ (depA l a b = true → pj a b g = pj a b h)) := by
    intro a ha b
    unfold freeOrSame
    rw [apart_dep FG ha, prj_eq, prj_eq]
    cases depA l a b <;> simp
  simp only [List.all_eq_true]
  constructor
  · intro e a ha b hb
    exact (key a ha b).2 fun hd => e a b hd
  · intro H a b hd
    by_cases ha : a ∈ g ++ h
    · by_cases hb : b ∈ g ++ h
      · exact (key a ha b).1 (H a ha b hb) hd
      · have hb1 : b ∉ g := fun h => hb (List.mem_append_left _ h)
        have hb2 : b ∉ h := fun h => hb (List.mem_append_right _ h)
        rw [pj_comm a b g, pj_comm a b h, pj_out hb1, pj_out hb2]
        exact (key a ha a).1 (H a ha a ha) (depA_refl l a)
    · have ha1 : a ∉ g := fun h => ha (List.mem_append_left _ h)
      have ha2 : a ∉ h := fun h => ha (List.mem_append_right _ h)
      rw [pj_out ha1, pj_out ha2]
      by_cases hb : b ∈ g ++ h
      · exact (key b hb b).1 (H b hb b hb) (depA_refl l b)
      · have hb1 : b ∉ g := fun h => hb (List.mem_append_left _ h)
        have hb2 : b ∉ h := fun h => hb (List.mem_append_right _ h)
        have h0 : ∀ {m : List Ac}, b ∉ m → pj b b m = [] := by
          intro m hm
          unfold pj
          rw [List.filter_eq_nil_iff]
          intro x hx
          have : x ≠ b := fun e => hm (e ▸ hx)
          simp [this]
        rw [h0 hb1, h0 hb2]
end Go.Proofs.YtccnkebkgegohaaGreatDoor
end
section
namespace Go.Proofs.YtccnkebkgegohaaGreatDoor
open Go
/-! a struct stored into a list in place -/
def spl (cur : Array Value) (o : Nat) (vs : List Value) : Array Value := (cur.toList.take o ++ vs ++ cur.toList.drop (o + vs.length)).toArray
theorem spl_size {cur : Array Value} {o : Nat} {vs : List Value} (h : o + vs.length ≤ cur.size) : (spl cur o vs).size = cur.size := by
  unfold spl; simp; omega
theorem run_storeVar_at {P : Program} (w : World) (g of : Nat) (t ty : TypeId) (cur cells : Array Value) (hg : w.heap[g]? = some (.cells cur t (0, 0))) (hi : (P.info? ty).map (·.size) = some cells.size)
    (hfit : of + cells.size ≤ cur.size) (h1 : cells.all (·.oneCell') = true) : (storeVar ty ⟨g, of, none⟩ (.agg cells)).run P w = .ok () (w.setRow g (spl cur of cells.toList)) := by
  have := run_storeCells_at (P := P) g of t cells.toList 0 cur w hg (by simpa using hfit) (fun v hv => (Array.all_eq_true_iff_forall_mem.1 h1) v (by simpa using hv))
  cases hq : P.info? ty with
  | none => simp [hq] at hi
  | some i =>
    have hs : cells.size = i.size := by simp [hq] at hi; omega
    simp only [Nat.add_zero] at this
    simp [storeVar, sizeOf, typeInfo, hq, Value.cells, hs, this, spl]
theorem wpList_store_at {P : Program} {ops : Array Oper} {rest : List Oper} {o : Oper} {a : Act} {w : World} {Q : Exit → Act → World → Prop} (hgd : o.guard = none) (ty : TypeId) (x y : Operand) (ho : o.op = .store ty x y)
    (g of : Nat) (cells : Array Value) (hx : a.eval x = .pointer (some ⟨g, of, none⟩)) (hy : a.eval y = .agg cells)
    (t : TypeId) (cur : Array Value) (hg : w.heap[g]? = some (.cells cur t (0, 0))) (hi : (P.info? ty).map (·.size) = some cells.size)
    (hfit : of + cells.size ≤ cur.size) (h1 : cells.all (·.oneCell') = true)
    (h : wpList P ops Q rest (a.put o.dst undef) (w.setRow g (spl cur of cells.toList))) : wpList P ops Q (o :: rest) a w :=
  wpList_plain hgd fun _ hK => by
    unfold Oper.wp execOp
    simp only [ho, hx, hy, Instr.storeAt, Instr.sureAddr, Sem.run_bind, Sem.run_pure, Result.andThen_ok, run_storeVar_at w g of t ty cur cells hg hi hfit h1]
    exact hK _ _ h
/-- rows of k cells, one of them set -/
theorem flat_set {k : Nat} {α : Type} (row : α → List Value) (hk : ∀ a, (row a).length = k) (x : α) : ∀ (m : List α) (i : Nat), i < m.length → ((m.set i x).map row).flatten = (m.map row).flatten.take (i * k) ++ row x ++ (m.map row).flatten.drop (i * k + k)
  | y :: m, 0, _ => by
    have h : (row y).length = k := hk y
    simp only [List.set_cons_zero, List.map_cons, List.flatten_cons, Nat.zero_mul, List.take_zero, List.nil_append, Nat.zero_add]
    rw [← h, List.drop_left]
  | y :: m, i + 1, h => by
    have hy : (row y).length = k := hk y
    have ih := flat_set row hk x m i (by simpa using h)
    simp only [List.set_cons_succ, List.map_cons, List.flatten_cons, ih]
    have e1 : (i + 1) * k = (row y).length + i * k := by rw [hy, Nat.add_mul, Nat.one_mul, Nat.add_comm]
    rw [e1, List.take_length_add_append, Nat.add_assoc, List.drop_length_add_append]
    simp
theorem flat_len10 {k : Nat} {α : Type} (row : α → List Value) (hk : ∀ a, (row a).length = k) : ∀ m : List α, ((m.map row).flatten).length = m.length * k
  | [] => by simp
  | y :: m => by simp [flat_len10 row hk m, hk y, Nat.add_mul]; omega
/-- a block whose first cells are the rows of a list, one row stored -/
theorem spl_take {k : Nat} {α : Type} (row : α → List Value) (hk : ∀ a, (row a).length = k) {m : List α} {cur : Array Value} {i : Nat} (hi : i < m.length) (hc : m.length * k ≤ cur.size) (ht : cur.toList.take (m.length * k) = (m.map row).flatten) (x : α) :
    (spl cur (i * k) (row x)).toList.take (m.length * k) = ((m.set i x).map row).flatten := by
  rw [flat_set row hk x m i hi, ← ht]
  have hik : i * k + k ≤ m.length * k := by
    have := Nat.mul_le_mul_right k (show i + 1 ≤ m.length from hi)
    rwa [Nat.add_mul, Nat.one_mul] at this
  unfold spl
  simp only [hk]
  rw [List.take_take, Nat.min_eq_left (by omega), List.drop_take]
  have hP : (cur.toList.take (i * k) ++ row x).length = i * k + k := by
    rw [List.length_append, List.length_take, Array.length_toList, hk]; omega
  have hN : m.length * k = (cur.toList.take (i * k) ++ row x).length + (m.length * k - (i * k + k)) := by rw [hP]; omega
  show (cur.toList.take (i * k) ++ row x ++ cur.toList.drop (i * k + k)).take (m.length * k) = _
  generalize hM : m.length * k - (i * k + k) = M at *
  rw [hN, List.take_length_add_append]
end Go.Proofs.YtccnkebkgegohaaGreatDoor
end
section
namespace Go.Proofs.YtccnkebkgegohaaGreatDoor
open Go.RowKit Go.Rel
set_option maxRecDepth 100000
/-! a list of acts of our own, one act stored in place -/
structure OwnB (W : World) (base : Nat) (m : List Ac) (g cap : Nat) (cur : Array Value) : Prop where
  base : base ≤ g
  blk : Blk W g cur 46
  le : m.length ≤ cap
  lim : cap ≤ maxLen
  size : cur.size = cap * 10
  rows : cur.toList.take (m.length * 10) = (m.map acL).flatten
theorem OwnA.opn {W : World} {base : Nat} {v : Value} {m : List Ac} (h : OwnA W base v m) (h0 : m ≠ []) : ∃ g cap cur, v = .slice (some ⟨g, 0, none⟩) m.length cap ∧ OwnB W base m g cap cur := by
  obtain ⟨_, h | ⟨g, cap, cur, hv, hg, hh, hr⟩⟩ := h
  · exact absurd (List.eq_nil_of_length_eq_zero h.2) h0
  · exact ⟨g, cap, cur, hv, hg, hh, hr.1, hr.2.1, hr.2.2.1, hr.2.2.2⟩
theorem acL_len (a : Ac) : (acL a).length = 10 := rfl
@[irreducible] def VBk (base : Nat) (C : Array Value) (t : TypeId) (v : Value) (W : World) : Prop := ∃ g, v = .pointer (some ⟨g, 0, none⟩) ∧ base ≤ g ∧ Blk W g C t
theorem VBk.stab {base : Nat} {C : Array Value} {t : TypeId} (v : Value) (W W' : World) (h : VBk base C t v W) (g : Grows W W') : VBk base C t v W' := by unfold VBk at *; obtain ⟨q, h1, h2, h3⟩ := h; exact ⟨q, h1, h2, h3.grow g⟩
section
variable {W : World} {base g cap : Nat} {m : List Ac} {cur : Array Value}
theorem OwnB.own (h : OwnB W base m g cap cur) : OwnA W base (.slice (some ⟨g, 0, none⟩) m.length cap) m :=
  ⟨flat_len10 acL acL_len m, .inr ⟨g, cap, cur, rfl, h.base, h.blk, h.le, h.lim, h.size, h.rows⟩⟩
theorem OwnB.fit (h : OwnB W base m g cap cur) {i : Nat} (hi : i < m.length) (x : Ac) : i * 10 + (acL x).length ≤ cur.size := by
  rw [h.size, acL_len]
  have := h.le
  omega
theorem OwnB.set (h : OwnB W base m g cap cur) {i : Nat} (hi : i < m.length) (x : Ac) : OwnB (W.setRow g (spl cur (i * 10) (acL x))) base (m.set i x) g cap (spl cur (i * 10) (acL x)) := by
  have hf := h.fit hi x
  have hl : (m.set i x).length = m.length := List.length_set ..
  refine ⟨h.base, h.blk.rowS _, by rw [hl]; exact h.le, h.lim, by rw [spl_size hf]; exact h.size, ?_⟩
  rw [hl]
  exact spl_take acL acL_len hi (by rw [h.size]; have := h.le; omega) h.rows x
end
theorem own_rowT {w : World} {base bp : Nat} {e t : TypeId} {size : Nat} {u : Value} {n : Nat} {zs : List Value} {C : Array Value} (hu : w.ownsRow base e size u n zs) (hb : Blk w bp C t) (hne : t ≠ e) (c : Array Value) : (w.setRow bp c).ownsRow base e size u n zs := by
  obtain ⟨hl, h | ⟨g, cap, cur, hv, hg, hh, hr⟩⟩ := hu
  · exact ⟨hl, .inl h⟩
  · refine ⟨hl, .inr ⟨g, cap, cur, hv, hg, (setRow_other w bp g c ?_).trans hh, hr⟩⟩
    rintro rfl
    have h2 : w.heap[g]? = some (.cells C t (0, 0)) := hb
    rw [h2] at hh
    exact hne (by injection hh with hh; injection hh)
end Go.Proofs.YtccnkebkgegohaaGreatDoor
end
section
namespace Go.Proofs.YtccnkebkgegohaaGreatDoor
open Go.RowKit Go.Rel Go.ChangeShapes Go.WideShapes
set_option maxRecDepth 100000
/-! a list of bytes -/
abbrev u8L (a : Fin 256) : List Value := [.int .u8 (a.1 : Int)]
section
variable {H : Type} {enc : TypeId × Value → H} {W : World} {base : Nat} {sp : Nat → Bool} {held : Bool}
theorem trod_u8 {f : Nat} {cs : List Value} {x : DataW H × List MemPlace} (h : DataW.trod enc Tryz.prog W base sp held f 5 cs = some x) : ∃ a : Fin 256, cs = u8L a := by
  obtain ⟨n, rfl, _, h3⟩ := DataW.trod_int Tryz.underlying5 h
  have := wf_u8 h3
  exact ⟨⟨n.toNat, by omega⟩, by rw [show u8L ⟨n.toNat, by omega⟩ = [.int .u8 ((n.toNat : Nat) : Int)] from rfl, show ((n.toNat : Nat) : Int) = n by omega]⟩
theorem trod_bytes {f : Nat} {cs : List Value} {x : DataW H × List MemPlace} (h : DataW.trod enc Tryz.prog W base sp held f 72 cs = some x) : ∃ (v : Value) (l : List (Fin 256)), cs = [v] ∧ Sl W 1 v (l.map u8L) ∧ ∀ n c, v = .slice none n c → c = 0 :=
  trod_slice_of u8L Tryz.underlying72 cellsOf5 (by decide) (fun _ => rfl) (fun _ _ _ h => trod_u8 h) h
variable {r : Reach} {b0 : Nat} {v : Value} {d : DataW H} {p : List MemPlace}
theorem open_u8s (hv : Value.okWide Tryz.prog W r b0 72 v) (h : DataW.Trod enc Tryz.prog W base sp held 72 v d p) : ∃ (l : List (Fin 256)), Sl W 1 v (l.map u8L) := by
  obtain ⟨a, n, c, rfl⟩ := okWide_slice Tryz.underlying72 hv
  obtain ⟨fuel, hf⟩ := h
  obtain ⟨u, l, e, hs, _⟩ := trod_bytes hf
  have e' : [Value.slice a n c] = [u] := e
  cases e'
  exact ⟨l, hs⟩
end
end Go.Proofs.YtccnkebkgegohaaGreatDoor
end
