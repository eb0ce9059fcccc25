import Derived.Test.YtkcpnhigekopaaaDoorG10
import Derived.Laws.CopyRow
import Derived.Maps.OwnSet
import Derived.Maps.Views
import Derived.DeepKeys4
/-
  Given contracts of functions of the program, and laws for them, one behind the other.
-/
set_option linter.unusedVariables false
set_option linter.unusedSimpArgs false
set_option linter.unusedSectionVars false
section
namespace Go.Proofs.YtkcpnhigekopaaaDoor
open Go.RowKit Go.Rel Go.Draw
set_option maxRecDepth 100000
set_option maxHeartbeats 1000000 in
theorem up_any (a0 a1 a2 a3 a4 a5 a6 a7 : Int) (w : World) : Calls Tryd.prog 69 #[.agg #[.int .u64 a0, .int .u64 a1, .int .u64 a2, .int .u64 a3, .int .u64 a4, .int .u64 a5, .int .u64 a6, .int .u64 a7]] w fun e w' => e = .returned (.agg #[.int .u64 0, .int .u64 a0, .int .u64 a1, .int .u64 a2, .int .u64 a3, .int .u64 a4, .int .u64 a5, .int .u64 a6]) ∧ Below w.heap.size w w' := by
 go_enter Tryd.func69, Tryd.ntmps69
 go_wp2
 refine Go.Rel.region_still_tail 2 (by kernel_rfl) (by kernel_rfl) ?_
 simp only [List.take_succ_cons, List.take_zero, List.drop_succ_cons, List.drop_zero]
 repeat still_step
 refine wpStill_nil ?_
 obtain ⟨W, hW⟩ : ∃ W, ((w.alloc (.cells #[.int .u64 a0, .int .u64 a1, .int .u64 a2, .int .u64 a3, .int .u64 a4, .int .u64 a5, .int .u64 a6, .int .u64 a7] 72)).alloc (.cells #[.int .u64 0, .int .u64 0, .int .u64 0, .int .u64 0, .int .u64 0, .int .u64 0, .int .u64 0, .int .u64 0] 72)).drew = W := ⟨_, rfl⟩
 have g0 : Blk W w.heap.size #[.int .u64 a0, .int .u64 a1, .int .u64 a2, .int .u64 a3, .int .u64 a4, .int .u64 a5, .int .u64 a6, .int .u64 a7] 72 := by rw [← hW]; exact (by repeat (first | with_reducible assumption | (refine Blk.at _ _ ?_; (simp; done)) | with_reducible refine Blk.alloc ?_ _ | with_reducible refine Blk.drew ?_ | with_reducible refine Blk.rowS ?_ _ | with_reducible refine Blk.rowO ?_ _ (by simp)))
 have g1 : Blk W (w.heap.size + 1) #[.int .u64 0, .int .u64 0, .int .u64 0, .int .u64 0, .int .u64 0, .int .u64 0, .int .u64 0, .int .u64 0] 72 := by rw [← hW]; exact (by repeat (first | with_reducible assumption | (refine Blk.at _ _ ?_; (simp; done)) | with_reducible refine Blk.alloc ?_ _ | with_reducible refine Blk.drew ?_ | with_reducible refine Blk.rowS ?_ _ | with_reducible refine Blk.rowO ?_ _ (by simp)))
 have hB : Below w.heap.size w W := by rw [← hW]; exact (by repeat (first | with_reducible exact bel_refl _ | with_reducible assumption | with_reducible refine bel_drewN ?_ _ | with_reducible refine bel_drew ?_ | with_reducible refine bel_alloc ?_ _ | with_reducible refine bel_row ?_ ?_ _ | with_reducible refine bel_set ?_ ?_ _ | refine bel_trans ?_ (by with_reducible assumption) | (simp; done) | (simp; omega)))
 rw [hW]
 have HC : (Builtin.copy_ #[133, 133] 3 #[.slice (some ⟨w.heap.size, 1, none⟩) 7 7, .slice (some ⟨w.heap.size, 0, none⟩) 7 7]).run Tryd.prog W = .ok (.int .i64 7) (W.setRow w.heap.size #[.int .u64 a0, .int .u64 a0, .int .u64 a1, .int .u64 a2, .int .u64 a3, .int .u64 a4, .int .u64 a5, .int .u64 a6]) := by
  have := run_copy_row (P := Tryd.prog) W 133 133 3 27 w.heap.size 1 7 7 ⟨w.heap.size, 0, none⟩ 7 7 _ _ [.int .u64 a0, .int .u64 a1, .int .u64 a2, .int .u64 a3, .int .u64 a4, .int .u64 a5, .int .u64 a6] Tryd.underlying133 (by kernel_rfl) g0 rfl (fun j v hj => by
   have hl : j < 7 := (List.getElem?_eq_some_iff.1 hj).1
   have hc := g0.cell
   obtain rfl | rfl | rfl | rfl | rfl | rfl | rfl : j = 0 ∨ j = 1 ∨ j = 2 ∨ j = 3 ∨ j = 4 ∨ j = 5 ∨ j = 6 := by omega
   all_goals
    injection hj with hj
    subst hj
    show W.cell? ⟨w.heap.size, _, none⟩ = _
    rw [hc]; rfl) (by simp) (fun v hv => by
   simp only [List.mem_cons, List.not_mem_nil, or_false] at hv
   rcases hv with rfl | rfl | rfl | rfl | rfl | rfl | rfl <;> rfl)
  exact this
 have r0 := g0.row
 have r1 := g1.row
 have c0 := g0.cell
 have l0 := g0.lt
 have l1 := g1.lt
 rw [← g1.rw] at HC ⊢
 clear g0 g1 hW
 go_wp2
 exact bodyPost_ret (v := .agg #[.int .u64 0, .int .u64 a0, .int .u64 a1, .int .u64 a2, .int .u64 a3, .int .u64 a4, .int .u64 a5, .int .u64 a6]) (by simp [results, Tryd.results69, go_sem, *]) rfl ⟨rfl, blw_row (blw_row hB (by omega) _) (by omega) _⟩
theorem up_spec (b : Sol) (w : World) : Calls Tryd.prog 69 #[solV b] w fun e w' => e = .returned (solV (upS b)) ∧ Below w.heap.size w w' := by
 refine (up_any (pl b 0) (pl b 1) (pl b 2) (pl b 3) (pl b 4) (pl b 5) (pl b 6) (pl b 7) w).mono ?_
 rintro e w' ⟨rfl, hb⟩
 refine ⟨?_, hb⟩
 have h0 : pl (upS b) 0 = 0 := by rw [pl_uI]; unfold upS; rw [plv_mkS _ 0 (by omega)]; exact uI_zero
 have h1 : pl (upS b) 1 = pl b 0 := by rw [pl_uI, pl_uI]; unfold upS; rw [plv_mkS _ 1 (by omega)]; rfl
 have h2 : pl (upS b) 2 = pl b 1 := by rw [pl_uI, pl_uI]; unfold upS; rw [plv_mkS _ 2 (by omega)]; rfl
 have h3 : pl (upS b) 3 = pl b 2 := by rw [pl_uI, pl_uI]; unfold upS; rw [plv_mkS _ 3 (by omega)]; rfl
 have h4 : pl (upS b) 4 = pl b 3 := by rw [pl_uI, pl_uI]; unfold upS; rw [plv_mkS _ 4 (by omega)]; rfl
 have h5 : pl (upS b) 5 = pl b 4 := by rw [pl_uI, pl_uI]; unfold upS; rw [plv_mkS _ 5 (by omega)]; rfl
 have h6 : pl (upS b) 6 = pl b 5 := by rw [pl_uI, pl_uI]; unfold upS; rw [plv_mkS _ 6 (by omega)]; rfl
 have h7 : pl (upS b) 7 = pl b 6 := by rw [pl_uI, pl_uI]; unfold upS; rw [plv_mkS _ 7 (by omega)]; rfl
 show _ = Ending.returned (.agg #[.int .u64 (pl (upS b) 0), .int .u64 (pl (upS b) 1), .int .u64 (pl (upS b) 2), .int .u64 (pl (upS b) 3), .int .u64 (pl (upS b) 4), .int .u64 (pl (upS b) 5), .int .u64 (pl (upS b) 6), .int .u64 (pl (upS b) 7)])
 rw [h0, h1, h2, h3, h4, h5, h6, h7]
end Go.Proofs.YtkcpnhigekopaaaDoor
end
section
namespace Go.Proofs.YtkcpnhigekopaaaDoor
open Go.RowKit Go.Rel Go.Draw
set_option maxRecDepth 100000
/-! worlds of which one block alone has turned -/
theorem gb_drew {w w' : World} {r : Option Nat} (h : w.grownBy w' r) : w.grownBy w'.drew r := ⟨h.os, h.tape, h.output, h.size, h.block⟩
theorem gb_alloc {w w' : World} {r : Option Nat} (h : w.grownBy w' r) (o : Obj) : w.grownBy (w'.alloc o) r := h.trans (World.grownBy_alloc _ _ _)
theorem gb_set {w w' : World} {g : Nat} (h : w.grownBy w' (some g)) (p : Addr) (hp : p.block = g) (v : Value) : w.grownBy (w'.setCell p v) (some g) :=
 h.trans ⟨rfl, rfl, rfl, by simp [World.setCell], fun k _ hk => Below.heap_setCell _ _ _ k (fun e => hk (by rw [e, hp]))⟩
theorem gb_row {w w' : World} {g : Nat} (h : w.grownBy w' (some g)) (cs : Array Value) : w.grownBy (w'.setRow g cs) (some g) :=
 h.trans ⟨rfl, rfl, rfl, Nat.le_of_eq (setRow_size _ _ _).symm, fun k _ hk => setRow_other _ _ _ _ (fun e => hk (by rw [e]))⟩
theorem gb_below {w w' w2 : World} {r : Option Nat} (h : w.grownBy w' r) (hb : Below w'.heap.size w' w2) : w.grownBy w2 r :=
 h.trans ⟨hb.os, hb.tape, hb.output, hb.size, fun k hk _ => hb.block k hk⟩
theorem gb_refl (w : World) (r : Option Nat) : w.grownBy w r := ⟨rfl, rfl, rfl, Nat.le_refl _, fun _ _ _ => rfl⟩
/-- of it, what is above a world -/
theorem gb_bel {w0 w w' : World} {r : Nat} (h0 : Below w0.heap.size w0 w) (h : w.grownBy w' (some r)) (hr : w0.heap.size ≤ r) : Below w0.heap.size w0 w' := h0.grown h h0.size (fun k hk => by cases hk; exact hr)
theorem Blk.gb {w w' : World} {b : Nat} {c : Array Value} {t : TypeId} {r : Option Nat} (h : Blk w b c t) (hg : w.grownBy w' r) (hne : some b ≠ r) : Blk w' b c t := (hg.block b h.lt hne).trans h
/-- eight words by their numbers -/
abbrev mixA (f : Nat → Int) : Array Value := #[.int .u64 (f 0), .int .u64 (f 1), .int .u64 (f 2), .int .u64 (f 3), .int .u64 (f 4), .int .u64 (f 5), .int .u64 (f 6), .int .u64 (f 7)]
theorem mixA_get (f : Nat → Int) {k : Nat} (hk : k < 8) : (mixA f)[k]? = some (.int .u64 (f k)) := by
 obtain rfl | rfl | rfl | rfl | rfl | rfl | rfl | rfl : k = 0 ∨ k = 1 ∨ k = 2 ∨ k = 3 ∨ k = 4 ∨ k = 5 ∨ k = 6 ∨ k = 7 := by omega
 all_goals rfl
theorem mixA_set (f : Nat → Int) {k : Nat} (hk : k < 8) (v : Int) : (mixA f).setIfInBounds k (.int .u64 v) = mixA fun i => if i = k then v else f i := by
 obtain rfl | rfl | rfl | rfl | rfl | rfl | rfl | rfl : k = 0 ∨ k = 1 ∨ k = 2 ∨ k = 3 ∨ k = 4 ∨ k = 5 ∨ k = 6 ∨ k = 7 := by omega
 all_goals rfl
theorem mixA_eq {f g : Nat → Int} (h : ∀ i, i < 8 → f i = g i) : mixA f = mixA g := by
 simp only [mixA, h 0 (by omega), h 1 (by omega), h 2 (by omega), h 3 (by omega), h 4 (by omega), h 5 (by omega), h 6 (by omega), h 7 (by omega)]
/-! a mould in memory, and the map of what is known to be in the way of its moves -/
theorem mvLaid : laidOutB Tryd.prog = true := by kernel_rfl
theorem mvRow : 50 < Tryd.prog.types.size := by decide +kernel
theorem mvKey : Maps.Keyed Tryd.prog 50 := Maps.Keyed.of_law (deep_law_laid mvLaid (m := 2) (by omega) mvRow (by kernel_rfl) (by kernel_rfl))
theorem wayT : Tryd.prog.underlying 73 = some (.map 50 99) := by kernel_rfl
theorem wayZ (w : World) : (zeroValue 99).run Tryd.prog w = .ok (.agg #[.int .u64 0, .bool false]) w := by kernel_rfl
abbrev blkV (y : U × Bool) : Value := .agg #[.int .u64 (uI y.1), .bool y.2]
theorem blkZ : blkV (0, false) = .agg #[.int .u64 0, .bool false] := by show Value.agg #[.int .u64 (uI 0), .bool false] = _; rw [uI_zero]
theorem wayZ' (w : World) : (zeroValue 99).run Tryd.prog w = .ok (blkV (0, false)) w := by rw [blkZ]; exact wayZ w
def blkD (y : U × Bool) : DataW Unit := .agg [.lit (.int .u64 (uI y.1)), .lit (.bool y.2)]
def blkP : List Value → Option (DataW Unit × List MemPlace)
 | [.int .u64 a, .bool b] => some (.agg [.lit (.int .u64 a), .lit (.bool b)], [])
 | _ => none
def blkR (v : Value) : Option (DataW Unit × List MemPlace) := match v with
 | .agg cs => blkP cs.toList
 | _ => none
theorem blkR_mk (y : U × Bool) : blkR (blkV y) = some (blkD y, []) := rfl
theorem blkR_inv {v : Value} {y : U × Bool} {ps : List MemPlace} (h : blkR v = some (blkD y, ps)) : v = blkV y := by
 unfold blkR at h
 split at h
 ·next cs =>
  unfold blkP at h
  split at h
  ·next a b e =>
   unfold blkD at h
   simp only [Option.some.injEq, Prod.mk.injEq, DataW.agg.injEq, List.cons.injEq, DataW.lit.injEq, Lit.int.injEq, Lit.bool.injEq] at h
   have e2 : cs = #[.int .u64 a, .bool b] := by rw [← Array.toArray_toList (xs := cs), e]
   rw [e2, h.1.1.2, h.1.2.1]
  ·cases h
 ·cases h
def allMv : List Mo := (List.range 12).flatMap movesL
theorem mem_allMv (x : Mo) : x ∈ allMv ↔ x.1 < 12 ∧ (x.2.1 = 0 ∧ x.2.2 = 0 ∨ (1 ≤ x.2.1 ∧ x.2.1 ≤ 4) ∧ 1 ≤ x.2.2 ∧ x.2.2 ≤ 7) := by
 unfold allMv
 rw [List.mem_flatMap]
 constructor
 ·rintro ⟨p, hp, hx⟩
  rw [mem_movesL] at hx
  exact ⟨by rw [hx.1]; exact List.mem_range.1 hp, hx.2⟩
 ·rintro ⟨h1, h2⟩
  exact ⟨x.1, List.mem_range.2 h1, (mem_movesL _ _).2 ⟨rfl, h2⟩⟩
theorem mv_keys : ∀ x ∈ allMv, (keyOf Tryd.prog 50 (mvV x)).isSome = true := by decide +kernel
noncomputable def keyL (x : Mo) : Lit := (keyOf Tryd.prog 50 (mvV x)).getD (.bool false)
theorem keyL_is {x : Mo} (hx : x ∈ allMv) : keyOf Tryd.prog 50 (mvV x) = some (keyL x) := by
 obtain ⟨l, hl⟩ := Option.isSome_iff_exists.1 (mv_keys x hx)
 unfold keyL; rw [hl]; rfl
theorem mvV_inj {x y : Mo} (h : mvV x = mvV y) : x = y := by
 simp only [mvV, Value.agg.injEq, Array.mk.injEq, List.cons.injEq, Value.int.injEq, true_and, and_true, Int.ofNat_inj] at h
 obtain ⟨a, b, c⟩ := x
 obtain ⟨a', b', c'⟩ := y
 simp only at h
 rw [h.1, h.2.1, h.2.2]
theorem keyL_inj {x y : Mo} (hx : x ∈ allMv) (hy : y ∈ allMv) (h : keyL x = keyL y) : x = y := mvV_inj (mvKey.inj (keyL_is hx) (by rw [h]; exact keyL_is hy))
noncomputable def cntW (D : DataW Unit) : Nat := (allMv.filter fun x => Maps.has D (keyL x)).length
theorem cntW_le (D : DataW Unit) : cntW D ≤ 348 := by
 have h := List.length_filter_le (fun x => Maps.has D (keyL x)) allMv
 have e : allMv.length = 348 := by decide +kernel
 unfold cntW; omega
def Ways (w : World) (mb : Nat) (m : List Sol) : Prop :=
 ∃ D, w.ownsMap Tryd.prog 50 blkR mb (Maps.size D) D ∧ Maps.size D ≤ cntW D ∧ ∀ x ∈ allMv, Maps.has D (keyL x) = true → ∀ z, D.atKey (keyL x) z = blkD (inWayM m x)
theorem Ways.made (w : World) (m : List Sol) : Ways (w.alloc (.map #[] 0)) w.heap.size m :=
 ⟨.map [], World.ownsMap_made _ _ _ _, Nat.zero_le _, fun x _ h => by cases h⟩
theorem Ways.kept {w w' : World} {mb : Nat} {m : List Sol} {row : Option Nat} (h : Ways w mb m) (hg : w.grownBy w' row) (hne : some mb ≠ row) : Ways w' mb m := by
 obtain ⟨D, h1, h2, h3⟩ := h
 exact ⟨D, h1.kept hg hne, h2, h3⟩
theorem Ways.below {w w' : World} {mb B : Nat} {m : List Sol} (h : Ways w mb m) (hb : Below B w w') (hm : mb < B) : Ways w' mb m := by
 obtain ⟨D, h1, h2, h3⟩ := h
 obtain ⟨es, clock, e, F, hs, hD⟩ := h1
 exact ⟨D, ⟨es, clock, (hb.block mb hm).trans e, F, hs, hD⟩, h2, h3⟩
theorem Ways.lt {w : World} {mb : Nat} {m : List Sol} (h : Ways w mb m) : mb < w.heap.size := by
 obtain ⟨D, h1, _⟩ := h
 exact h1.lt
theorem Ways.ismap {w : World} {mb : Nat} {m : List Sol} (h : Ways w mb m) : ∃ es clock, w.heap[mb]? = some (.map es clock) := by
 obtain ⟨D, ⟨es, clock, e, _⟩, _⟩ := h
 exact ⟨es, clock, e⟩
theorem Ways.look {w : World} {mb : Nat} {m : List Sol} (h : Ways w mb m) {x : Mo} (hx : x ∈ allMv) :
  (Instr.lookup 73 (.map (some mb)) (mvV x) true).run Tryd.prog w = .ok (.tuple #[blkV (inWayM m x), .bool true]) w ∨
  (Instr.lookup 73 (.map (some mb)) (mvV x) true).run Tryd.prog w = .ok (.tuple #[blkV (0, false), .bool false]) w := by
 obtain ⟨D, h1, _, h3⟩ := h
 obtain ⟨v, ps, hrun, hv⟩ := h1.look_ok mvKey wayT (wayZ' w) (blkR_mk (0, false)) (keyL_is hx)
 cases hh : Maps.has D (keyL x)
 ·rw [Maps.atKey_of_not_has hh] at hv
  have := blkR_inv hv
  subst this
  rw [hh] at hrun
  exact .inr hrun
 ·rw [h3 x hx hh] at hv
  have := blkR_inv hv
  subst this
  rw [hh] at hrun
  exact .inl hrun
theorem ownsMap_size {w : World} {P : Program} {k : TypeId} {R : Value → Option (DataW Unit × List MemPlace)} {b n : Nat} {D : DataW Unit} (h : w.ownsMap P k R b n D) : w.ownsMap P k R b (Maps.size D) D := by
 obtain ⟨es, clock, hb, F, _, rfl⟩ := h
 exact ⟨es, clock, hb, F, by simp [Maps.size, Go.length_sorted], rfl⟩
theorem Ways.put {w : World} {mb : Nat} {m : List Sol} (h : Ways w mb m) {x : Mo} (hx : x ∈ allMv) : ∃ w', (Instr.mapUpdate 73 (.map (some mb)) (mvV x) (blkV (inWayM m x))).run Tryd.prog w = .ok () w' ∧ Ways w' mb m ∧ w.grownBy w' (some mb) := by
 obtain ⟨D, h1, h2, h3⟩ := h
 have hle := cntW_le D
 have hkl := mvKey.key (keyL_is hx)
 obtain ⟨w', hrun, r1, r2⟩ := h1.update mvKey wayT (by unfold maxLen; omega) (keyL_is hx) (blkR_mk (inWayM m x))
 have hT := h1.tidy mvKey
 have hM := hT.isMap
 refine ⟨w', hrun, ⟨D.put (keyL x) (blkD (inWayM m x)), ownsMap_size r1, ?_, fun y hy hh z => ?_⟩, r2⟩
 ·rw [Maps.size_put hT]
  have hmono : ∀ y ∈ allMv, Maps.has D (keyL y) = true → Maps.has (D.put (keyL x) (blkD (inWayM m x))) (keyL y) = true := fun y hy hh => by
   by_cases e : keyL y = keyL x
   ·rw [e]; exact Maps.has_put_same hM hkl _
   ·rw [Maps.has_put_other e]; exact hh
  cases hh : Maps.has D (keyL x)
  ·have := filter_length_lt allMv (fun y => Maps.has D (keyL y)) (fun y => Maps.has (D.put (keyL x) (blkD (inWayM m x))) (keyL y)) hmono x hx hh (Maps.has_put_same hM hkl _)
   unfold cntW at *
   simp only [Bool.false_eq_true, if_false]
   omega
  ·simp only [if_true]
   refine Nat.le_trans h2 ?_
   unfold cntW
   have key : ∀ l : List Mo, (∀ y ∈ l, Maps.has D (keyL y) = true → Maps.has (D.put (keyL x) (blkD (inWayM m x))) (keyL y) = true) → (l.filter fun y => Maps.has D (keyL y)).length ≤ (l.filter fun y => Maps.has (D.put (keyL x) (blkD (inWayM m x))) (keyL y)).length := by
    intro l
    induction l with
    | nil => intro _; simp
    | cons b l ih =>
     intro H
     have h4 := ih (fun y hy => H y (by simp [hy]))
     have hb := H b (by simp)
     rw [List.filter_cons, List.filter_cons]
     cases hf : Maps.has D (keyL b)
     ·cases Maps.has (D.put (keyL x) (blkD (inWayM m x))) (keyL b) <;> simp <;> omega
     ·rw [hb hf]; simpa using h4
   exact key allMv hmono
 ·by_cases e : keyL y = keyL x
  ·have := keyL_inj hy hx e
   subst this
   exact Maps.atKey_put_same hM hkl _ _
  ·rw [Maps.atKey_put_other e]
   rw [Maps.has_put_other e] at hh
   exact h3 y hy hh z
/-- a mould -/
structure Mould (w : World) (g mb : Nat) (m : List Sol) : Prop where
 blk : ∃ a c, Blk w g #[.slice a m.length c, .int .u64 (pl (sandM m) 0), .int .u64 (pl (sandM m) 1), .int .u64 (pl (sandM m) 2), .int .u64 (pl (sandM m) 3), .int .u64 (pl (sandM m) 4), .int .u64 (pl (sandM m) 5), .int .u64 (pl (sandM m) 6), .int .u64 (pl (sandM m) 7), .map (some mb)] 75 ∧ SlS w (.slice a m.length c) m
 ways : Ways w mb m
theorem Mould.lt {w : World} {g mb : Nat} {m : List Sol} (h : Mould w g mb m) : g < w.heap.size := by
 obtain ⟨a, c, h1, _⟩ := h.blk
 exact h1.lt
theorem Mould.ne {w : World} {g mb : Nat} {m : List Sol} (h : Mould w g mb m) : g ≠ mb := by
 obtain ⟨a, c, h1, _⟩ := h.blk
 obtain ⟨es, clock, h2⟩ := h.ways.ismap
 intro e; subst e
 unfold Blk at h1; rw [h1] at h2; cases h2
theorem cell_ne_map {w : World} {b o mb : Nat} {u : Value} {es : Array MapEntry} {clock : Nat} (hc : w.cell? ⟨b, o, none⟩ = some u) (hm : w.heap[mb]? = some (.map es clock)) : b ≠ mb := by
 intro e; subst e
 simp [World.cell?, hm] at hc
theorem SlS.grown {w w' : World} {v : Value} {l : List Sol} {mb : Nat} {es : Array MapEntry} {clock : Nat} (h : SlS w v l) (hm : w.heap[mb]? = some (.map es clock)) (hg : w.grownBy w' (some mb)) : SlS w' v l := by
 obtain ⟨a, c, hv, hc, hx, h | ⟨b, off, ha, hcs⟩⟩ := h
 ·exact ⟨a, c, hv, hc, hx, .inl h⟩
 ·by_cases hl : l = []
  ·exact ⟨a, c, hv, hc, hx, .inl (by rw [hl]; rfl)⟩
  ·have hne : b ≠ mb := by
    obtain ⟨s, l', rfl⟩ := List.exists_cons_of_ne_nil hl
    exact cell_ne_map (sol_cells hcs (k := 0) (x := s) rfl).1 hm
   exact ⟨a, c, hv, hc, hx, .inr ⟨b, off, ha, Nat.lt_of_lt_of_le hcs.1 hg.size, fun i j u hu => hg.cell (hcs.2 i j u hu) (by simpa using hne)⟩⟩
theorem Mould.grown {w w' : World} {g mb : Nat} {m : List Sol} (h : Mould w g mb m) (hg : w.grownBy w' (some mb)) (hw : Ways w' mb m) : Mould w' g mb m := by
 obtain ⟨a, c, h1, h2⟩ := h.blk
 obtain ⟨es, clock, hm⟩ := h.ways.ismap
 exact ⟨⟨a, c, (hg.block g h1.lt (by simpa using h.ne)).trans h1, SlS.grown h2 hm hg⟩, hw⟩
theorem Mould.grow {w w' : World} {g mb : Nat} {m : List Sol} (h : Mould w g mb m) (hb : Below w.heap.size w w') : Mould w' g mb m := by
 obtain ⟨a, c, h1, h2⟩ := h.blk
 exact ⟨⟨a, c, h1.grow hb, Sl.mono h2 hb⟩, h.ways.below hb h.ways.lt⟩
end Go.Proofs.YtkcpnhigekopaaaDoor
end
