import Derived.Test.YtccnkebkgegohaaGreatDoorHY7
/-
  Given contracts of functions of the program, and laws for them, one behind the other.
-/
set_option linter.unusedVariables false
set_option linter.unusedSimpArgs false
set_option linter.unusedSectionVars false
section
namespace Go.Proofs.YtccnkebkgegohaaGreatDoor
open Go.RowKit Go.Rel
set_option maxRecDepth 100000
/-! neighbours exchanged, as numbers say -/
theorem step_store_at {P : Program} {ops : Array Oper} {R : World → World → Prop} {o : Oper} {a : Act} {φ : Value → World → Prop} {W : World} {ty : TypeId} {x y : Operand}
    (hgd : o.guard = none) (ho : o.op = .store ty x y) (g of : Nat) (cells : Array Value) (hx : a.eval x = .pointer (some ⟨g, of, none⟩)) (hy : a.eval y = .agg cells)
    (t : TypeId) (cur : Array Value) (hg : W.heap[g]? = some (.cells cur t (0, 0))) (hi : (P.info? ty).map (·.size) = some cells.size) (hfit : of + cells.size ≤ cur.size) (h1 : cells.all (·.oneCell') = true)
    (h : R W (W.setRow g (spl cur of cells.toList)) ∧ φ undef (W.setRow g (spl cur of cells.toList))) : Rel.step P ops R o a φ W := by
  unfold Rel.step
  have hw : Region.wanted o (yielded ops a.tmps) = true := by unfold Region.wanted; rw [hgd]
  rw [if_pos hw]
  unfold execOp
  simp only [ho, hx, hy, Instr.storeAt, Instr.sureAddr, Sem.run_bind, Sem.run_pure, Result.andThen_ok, run_storeVar_at W g of t ty cur cells hg hi hfit h1]
  exact h
@[irreducible] def VH5 (base : Nat) (b : Sol) (p : Option Addr) (n c : Nat) (m : List Ac) (v : Value) (W : World) : Prop := ∃ bv, v = .agg #[.int .u64 (pl b 0), .int .u64 (pl b 1), .int .u64 (pl b 2), .int .u64 (pl b 3), .int .u64 (pl b 4), .int .u64 (pl b 5), .int .u64 (pl b 6), .int .u64 (pl b 7), .slice p n c, bv] ∧ OwnA W base bv m
theorem VH5.stab {base : Nat} {b : Sol} {p : Option Addr} {n c : Nat} {m : List Ac} (v : Value) (W W' : World) (h : VH5 base b p n c m v W) (g : Grows W W') : VH5 base b p n c m v W' := by
  unfold VH5 at *; obtain ⟨bv, h1, h2⟩ := h; exact ⟨bv, h1, own_grow h2 g⟩
/-- while neighbours are exchanged: their list lies as it was, with the one stored, with both -/
structure InvX (G5 : Nat) (hdr : Array Value) (base g cap i : Nat) (m : List Ac) (cur : Array Value) (x y : Ac) (d1 d2 : Bool) (W : World) : Prop where
  hd : Blk W G5 hdr 30
  own : d1 = false → OwnB W base m g cap cur
  own1 : d1 = true → d2 = false → OwnB W base (m.set i y) g cap (spl cur (i * 10) (acL y))
  own2 : d2 = true → OwnB W base ((m.set i y).set (i + 1) x) g cap (spl (spl cur (i * 10) (acL y)) ((i + 1) * 10) (acL x))
theorem OwnB.grow {W W' : World} {base g cap : Nat} {m : List Ac} {cur : Array Value} (h : OwnB W base m g cap cur) (hb : Below W.heap.size W W') : OwnB W' base m g cap cur := ⟨h.base, h.blk.grow hb, h.le, h.lim, h.size, h.rows⟩
theorem swp_at {m : List Ac} {i : Nat} {x y : Ac} (hx : m[i]? = some x) (hy : m[i + 1]? = some y) : swp m i = (m.set i y).set (i + 1) x := by
  unfold swp; rw [List.getD_eq_getElem?_getD, List.getD_eq_getElem?_getD, hx, hy]; rfl
theorem swp_eqv' {l : List Sol} {m m' : List Ac} {i : Nat} {x y : Ac} (e : Tra.Eqv (depA l) m m') (hx : m'[i]? = some x) (hy : m'[i + 1]? = some y) (hr : (!depA l x y) = true) : Tra.Eqv (depA l) m ((m'.set i y).set (i + 1) x) := by
  rw [← swp_at hx hy]
  refine e.trans (swp_eqv (List.getElem?_eq_some_iff.1 hy).1 ?_)
  rw [List.getD_eq_getElem?_getD, List.getD_eq_getElem?_getD, hx, hy]
  simpa using hr
set_option maxHeartbeats 16000000 in
theorem exch_main (b : Sol) (p q : Option Addr) (n c k d : Nat) (l : List Sol) (m : List Ac) (uq : Option Addr) (un ud : Nat) (bs : List (Fin 256)) (w : World) (hk : m.length = k) (H75 : Hid (∀ w', Below w.heap.size w w' → Calls Tryz.prog 75 #[.slice q k d] w' fun e w'' => ∃ u, e = .returned u ∧ OwnA w'' w'.heap.size u m ∧ Below w'.heap.size w' w'')) (H32 : Hid (∀ m', Tra.Eqv (depA l) m m' → ∀ (i j : Nat) (x y : Ac), m'[i]? = some x → m'[j]? = some y → ∀ w', Below w.heap.size w w' → Calls Tryz.prog 32 #[.agg #[.int .u64 (pl b 0), .int .u64 (pl b 1), .int .u64 (pl b 2), .int .u64 (pl b 3), .int .u64 (pl b 4), .int .u64 (pl b 5), .int .u64 (pl b 6), .int .u64 (pl b 7), .slice p n c], .agg #[.int .u8 x.1, .int .i64 x.2.1, .int .u64 (pl x.2.2 0), .int .u64 (pl x.2.2 1), .int .u64 (pl x.2.2 2), .int .u64 (pl x.2.2 3), .int .u64 (pl x.2.2 4), .int .u64 (pl x.2.2 5), .int .u64 (pl x.2.2 6), .int .u64 (pl x.2.2 7)], .agg #[.int .u8 y.1, .int .i64 y.2.1, .int .u64 (pl y.2.2 0), .int .u64 (pl y.2.2 1), .int .u64 (pl y.2.2 2), .int .u64 (pl y.2.2 3), .int .u64 (pl y.2.2 4), .int .u64 (pl y.2.2 5), .int .u64 (pl y.2.2 6), .int .u64 (pl y.2.2 7)]] w' fun e w'' => e = .returned (.tuple #[.bool (!depA l x y), .int .i64 0]) ∧ Below w'.heap.size w' w'')) (HCU : Hid (∀ (j : Nat) (z : Fin 256), bs[j]? = some z → ∃ ub uo, uq = some ⟨ub, uo, none⟩ ∧ w.cell? ⟨ub, uo + j, none⟩ = some (.int .u8 (z.1 : Int)))) (hun : bs.length = un) (hu40 : un ≤ 40) :
    Calls Tryz.prog 54 #[.agg #[.int .u64 (pl b 0), .int .u64 (pl b 1), .int .u64 (pl b 2), .int .u64 (pl b 3), .int .u64 (pl b 4), .int .u64 (pl b 5), .int .u64 (pl b 6), .int .u64 (pl b 7), .slice p n c, .slice q k d], .slice uq un ud] w fun e w' => ∃ q' k' d' m', e = .returned (.agg #[.int .u64 (pl b 0), .int .u64 (pl b 1), .int .u64 (pl b 2), .int .u64 (pl b 3), .int .u64 (pl b 4), .int .u64 (pl b 5), .int .u64 (pl b 6), .int .u64 (pl b 7), .slice p n c, .slice q' k' d']) ∧ SlA w' (.slice q' k' d') m' ∧ Tra.Eqv (depA l) m m' ∧ Below w.heap.size w w' := by
  have HUN := Lib.hid hun; clear hun
  have HK := Lib.hid hk; clear hk
  go_enter Tryz.func54, Tryz.ntmps54
  go_wp2_with fail
  refine wp_region_grow 7 [Is (.pointer (some ⟨w.heap.size, 0, none⟩)), Is (.agg #[.int .u64 (pl b 0), .int .u64 (pl b 1), .int .u64 (pl b 2), .int .u64 (pl b 3), .int .u64 (pl b 4), .int .u64 (pl b 5), .int .u64 (pl b 6), .int .u64 (pl b 7), .slice p n c]), Is (.pointer (some ⟨w.heap.size, 9, none⟩)), Is (.slice q k d), VAc (w.heap.size + 1 + 1) m, VH5 (w.heap.size + 1 + 1) b p n c m, VBk (w.heap.size + 1 + 1) #[.int .u64 0, .int .u64 0, .int .u64 0, .int .u64 0, .int .u64 0, .int .u64 0, .int .u64 0, .int .u64 0, .slice none 0 0, .slice none 0 0] 30] (by kernel_rfl) (by kernel_rfl) rfl ⟨fun _ _ _ h _ => h, fun _ _ _ h _ => h, fun _ _ _ h _ => h, fun _ _ _ h _ => h, VAc.stable, VH5.stab, VBk.stab, trivial⟩ ?_
  simp only [List.take_succ_cons, List.take_zero, List.drop_succ_cons, List.drop_zero]
  refine rel_cons ?_ (fun v0 => ?_)
  · intro w1 hb hF
    have hc := (Grows.cells hb).1
    have hf := (Grows.cells hb).2
    try simp [facts, Is] at hF
    go_simp
    exact Grows.refl _
  refine rel_cons ?_ (fun v1 => ?_)
  · intro w1 hb hF
    have hc := (Grows.cells hb).1
    have hf := (Grows.cells hb).2
    try simp [facts, Is] at hF
    go_simp
    exact Grows.refl _
  refine rel_cons ?_ (fun v2 => ?_)
  · intro w1 hb hF
    have hc := (Grows.cells hb).1
    have hf := (Grows.cells hb).2
    try simp [facts, Is] at hF
    go_simp
    exact Grows.refl _
  refine rel_cons ?_ (fun v3 => ?_)
  · intro w1 hb hF
    have hc := (Grows.cells hb).1
    have hf := (Grows.cells hb).2
    try simp [facts, Is] at hF
    go_simp
    exact Grows.refl _
  refine rel_cons ?_ (fun v4 => ?_)
  · intro w1 hb hF
    have hc := (Grows.cells hb).1
    have hf := (Grows.cells hb).2
    try simp [facts, Is] at hF
    have hbw : Below w.heap.size w w1 := bel_trans bel_by hb
    have hsz := hb.size
    simp only [World.size_alloc] at hsz
    go_simp
    refine (H75.out _ hbw).mono ?_
    rintro e w2 ⟨x, rfl, hO, hB⟩
    exact ⟨_, rfl, hB, by unfold VAc; exact own_weak hO hsz⟩
  refine rel_cons ?_ (fun v5 => ?_)
  · intro w1 hb hF
    have hc := (Grows.cells hb).1
    have hf := (Grows.cells hb).2
    try simp [facts, Is] at hF
    have hV := hF.2
    have h0 := hF.1
    clear hF
    subst h0
    unfold VAc at hV
    refine Exists.elim (own_shape' hV) (fun p' h => Exists.elim h (fun c' h => ?_))
    have hv := h.1
    subst hv
    have HH := Lib.hid hV
    clear hV h
    go_simp
    exact ⟨Grows.refl _, by unfold VH5; exact ⟨_, rfl, HH.out⟩⟩
  refine rel_cons ?_ (fun v6 => ?_)
  · intro w1 hb hF
    have hc := (Grows.cells hb).1
    have hf := (Grows.cells hb).2
    try simp [facts, Is] at hF
    have hsz := hb.size
    simp only [World.size_alloc] at hsz
    go_simp
    exact ⟨bel_alloc (bel_refl _) _, by unfold VBk; exact ⟨_, rfl, (by omega), Blk.new _ _ _⟩⟩
  refine rel_nil ?_
  intro w1 hb hF
  simp [Is, Nat.forall_lt_succ_right] at hF
  have e0 := hF.1.1.1.1.1.1
  have e1 := hF.1.1.1.1.1.2
  have e2 := hF.1.1.1.1.2
  have e3 := hF.1.1.1.2
  have e4 := hF.1.1.2
  have e5 := hF.1.2
  have e6 := hF.2
  clear hF
  simp only [Act.put, List.setIfInBounds_toArray, List.set_cons_succ, List.set_cons_zero, e0, e1, e2, e3]
  clear e0 e1 e2 e3
  unfold VH5 at e5
  unfold VBk at e6
  refine Veil.out ?_
  obtain ⟨bv, rfl, hO⟩ := e5
  obtain ⟨G5, rfl, hG5, g5⟩ := e6
  obtain ⟨bq, bd, rfl, hkbd, hbdM⟩ := own_shapeK hO HK.out
  refine Veil.on ?_
  clear e4
  have hsz := hb.size
  simp only [World.size_alloc] at hsz
  have hbw : Below w.heap.size w w1 := bel_trans bel_by hb
  have g0 : Blk w1 w.heap.size #[.int .u64 (pl b 0), .int .u64 (pl b 1), .int .u64 (pl b 2), .int .u64 (pl b 3), .int .u64 (pl b 4), .int .u64 (pl b 5), .int .u64 (pl b 6), .int .u64 (pl b 7), .slice p n c, .slice q k d] 30 := Blk.grow blk_by hb
  have g4 : Blk w1 (w.heap.size + 1) #[.int .u64 0, .int .u64 0, .int .u64 0, .int .u64 0, .int .u64 0, .int .u64 0, .int .u64 0, .int .u64 0, .slice none 0 0, .slice none 0 0] 30 := Blk.grow blk_by hb
  have HO := Lib.hid (own_rowT hO g5 (by decide) #[.int .u64 (pl b 0), .int .u64 (pl b 1), .int .u64 (pl b 2), .int .u64 (pl b 3), .int .u64 (pl b 4), .int .u64 (pl b 5), .int .u64 (pl b 6), .int .u64 (pl b 7), .slice p n c, .slice bq k bd])
  have g0' := g0.rowO (g := G5) #[.int .u64 (pl b 0), .int .u64 (pl b 1), .int .u64 (pl b 2), .int .u64 (pl b 3), .int .u64 (pl b 4), .int .u64 (pl b 5), .int .u64 (pl b 6), .int .u64 (pl b 7), .slice p n c, .slice bq k bd] (by omega)
  have g4' := g4.rowO (g := G5) #[.int .u64 (pl b 0), .int .u64 (pl b 1), .int .u64 (pl b 2), .int .u64 (pl b 3), .int .u64 (pl b 4), .int .u64 (pl b 5), .int .u64 (pl b 6), .int .u64 (pl b 7), .slice p n c, .slice bq k bd] (by omega)
  have g5' := g5.rowS #[.int .u64 (pl b 0), .int .u64 (pl b 1), .int .u64 (pl b 2), .int .u64 (pl b 3), .int .u64 (pl b 4), .int .u64 (pl b 5), .int .u64 (pl b 6), .int .u64 (pl b 7), .slice p n c, .slice bq k bd]
  have hB' : Below w.heap.size w (w1.setRow G5 #[.int .u64 (pl b 0), .int .u64 (pl b 1), .int .u64 (pl b 2), .int .u64 (pl b 3), .int .u64 (pl b 4), .int .u64 (pl b 5), .int .u64 (pl b 6), .int .u64 (pl b 7), .slice p n c, .slice bq k bd]) := blw_row hbw (by omega) _
  have r5 := g5.row
  have l5 := g5.lt
  rw [← g5.rw]
  clear hO hb hbw g0 g4 g5
  go_wp2_with fail
  generalize w1.setRow G5 #[.int .u64 (pl b 0), .int .u64 (pl b 1), .int .u64 (pl b 2), .int .u64 (pl b 3), .int .u64 (pl b 4), .int .u64 (pl b 5), .int .u64 (pl b 6), .int .u64 (pl b 7), .slice p n c, .slice bq k bd] = w2 at *
  clear l5 r5
  go_loopw [19] (fun i wr => ∃ (j : Nat) (m' : List Ac), j ≤ un ∧ i = .int .i64 j ∧ Blk wr w.heap.size #[.int .u64 (pl b 0), .int .u64 (pl b 1), .int .u64 (pl b 2), .int .u64 (pl b 3), .int .u64 (pl b 4), .int .u64 (pl b 5), .int .u64 (pl b 6), .int .u64 (pl b 7), .slice p n c, .slice q k d] 30 ∧ Blk wr (w.heap.size + 1) #[.int .u64 0, .int .u64 0, .int .u64 0, .int .u64 0, .int .u64 0, .int .u64 0, .int .u64 0, .int .u64 0, .slice none 0 0, .slice none 0 0] 30 ∧ Blk wr G5 #[.int .u64 (pl b 0), .int .u64 (pl b 1), .int .u64 (pl b 2), .int .u64 (pl b 3), .int .u64 (pl b 4), .int .u64 (pl b 5), .int .u64 (pl b 6), .int .u64 (pl b 7), .slice p n c, .slice bq k bd] 30 ∧ Hid (OwnA wr (w.heap.size + 1 + 1) (.slice bq k bd) m' ∧ Tra.Eqv (depA l) m m' ∧ m'.length = k) ∧ Below w.heap.size w wr) (fun i _ => un - (intOf i).toNat)
  case atStart => exact ⟨0, m, Nat.zero_le _, rfl, g0', g4', g5', ⟨HO.out, Tra.Eqv.refl _, HK.out⟩, hB'⟩
  case round =>
    clear g0' g4' g5' HO hB'
    obtain ⟨j, m', hj, rfl, g0, g4, g5, HO, hB⟩ := hrel
    by_cases hlt : j < un
    · have hx : bs[j]? = some (bs[j]'(by rw [HUN.out]; exact hlt)) := by simp
      generalize bs[j]'(by rw [HUN.out]; exact hlt) = z at hx
      obtain ⟨ub, uo, huq, cz⟩ := HCU.out j z hx
      subst huq
      have czr := (hB.cell (p := ⟨ub, uo + j, none⟩) (block_lt_of_cell cz)).trans cz
      have lub : ub < w.heap.size := block_lt_of_cell cz
      have hneu : ub ≠ w.heap.size + 1 := by omega
      have hz : z.1 < 256 := z.2
      generalize z.1 = zz at czr hz
      clear hx cz
      by_cases hk2 : k < 2
      · have c5 := g5.cell
        have l5 := g5.lt
        have r4 := g4.row
        have l4 := g4.lt
        have hne5 : G5 ≠ w.heap.size + 1 := by omega
        rw [← g4.rw]
        go_wp2_with fail
        refine bodyPost_ret (v := .agg #[.int .u64 (pl b 0), .int .u64 (pl b 1), .int .u64 (pl b 2), .int .u64 (pl b 3), .int .u64 (pl b 4), .int .u64 (pl b 5), .int .u64 (pl b 6), .int .u64 (pl b 7), .slice p n c, .slice bq k bd]) (by simp [results, Tryz.results54, go_sem, *]) rfl ?_
        exact ⟨bq, k, bd, m', rfl, OwnA.sl (own_rowT HO.out.1 g4 (by decide) _), HO.out.2.1, blw_row hB (by omega) _⟩
      · have c5 := g5.cell
        have l5 := g5.lt
        have c0 := g0.cell
        have l0 := g0.lt
        go_wp2_with fail
        have hik : zz % (k - 1) < k - 1 := Nat.mod_lt _ (by omega)
        have hmod : (zz : Int) % ((k : Int) - 1) = ((zz % (k - 1) : Nat) : Int) := by
          rw [Int.natCast_emod]; congr 1; omega
        rw [hmod]
        clear hmod czr
        generalize zz % (k - 1) = i at hik
        have hi1 : i < k := by omega
        have hi2 : i + 1 < k := by omega
        have hne : m' ≠ [] := fun e => by have := HO.out.2.2; rw [e] at this; simp at this; omega
        refine Veil.out ?_
        obtain ⟨g, cur, hbq, hOB⟩ := OwnA.opnK HO.out.1 hne
        subst hbq
        have hl' := HO.out.2.2
        have hx : m'[i]? = some (m'[i]'(by omega)) := by simp
        have hy : m'[i + 1]? = some (m'[i + 1]'(by omega)) := by simp
        generalize m'[i]'(by omega) = x at hx
        generalize m'[i + 1]'(by omega) = y at hy
        obtain ⟨r, hr⟩ : ∃ r, (!depA l x y) = r := ⟨_, rfl⟩
        have HI : Hid (∀ w', Below wr.heap.size wr w' → Calls Tryz.prog 32 #[.agg #[.int .u64 (pl b 0), .int .u64 (pl b 1), .int .u64 (pl b 2), .int .u64 (pl b 3), .int .u64 (pl b 4), .int .u64 (pl b 5), .int .u64 (pl b 6), .int .u64 (pl b 7), .slice p n c], .agg #[.int .u8 x.1, .int .i64 x.2.1, .int .u64 (pl x.2.2 0), .int .u64 (pl x.2.2 1), .int .u64 (pl x.2.2 2), .int .u64 (pl x.2.2 3), .int .u64 (pl x.2.2 4), .int .u64 (pl x.2.2 5), .int .u64 (pl x.2.2 6), .int .u64 (pl x.2.2 7)], .agg #[.int .u8 y.1, .int .i64 y.2.1, .int .u64 (pl y.2.2 0), .int .u64 (pl y.2.2 1), .int .u64 (pl y.2.2 2), .int .u64 (pl y.2.2 3), .int .u64 (pl y.2.2 4), .int .u64 (pl y.2.2 5), .int .u64 (pl y.2.2 6), .int .u64 (pl y.2.2 7)]] w' fun e w'' => e = .returned (.tuple #[.bool r, .int .i64 0]) ∧ Below w'.heap.size w' w'') := by
          have := fun w' (hw : Below wr.heap.size wr w') => H32.out m' HO.out.2.1 i (i + 1) x y hx hy w' (bel_trans hB hw)
          rw [hr] at this
          exact Lib.hid this
        obtain ⟨a0, a1, a2, a3, a4, a5, a6, a7, a8, a9⟩ := ac_cells (hOB.cells hne) hx
        obtain ⟨b0, b1, b2, b3, b4, b5, b6, b7, b8, b9⟩ := ac_cells (hOB.cells hne) hy
        simp only [Nat.zero_add] at a0 a1 a2 a3 a4 a5 a6 a7 a8 a9 b0 b1 b2 b3 b4 b5 b6 b7 b8 b9
        have lg := hOB.blk.lt
        have HR := Lib.hid (And.intro hr (And.intro hx hy))
        have HOB := Lib.hid hOB
        have HOE := Lib.hid HO.out.2
        refine Veil.on ?_
        clear hr hx hy hOB HO hne hl'
        refine wp_region_inv Grows (fun _ _ => True) [Is (.pointer (some ⟨w.heap.size, 0, none⟩)), Is (.agg #[.int .u64 (pl b 0), .int .u64 (pl b 1), .int .u64 (pl b 2), .int .u64 (pl b 3), .int .u64 (pl b 4), .int .u64 (pl b 5), .int .u64 (pl b 6), .int .u64 (pl b 7), .slice p n c]), Is (.pointer (some ⟨G5, 9, none⟩)), Is (.slice (some ⟨g, 0, none⟩) k bd), Is (.int .i64 (i : Int)), Is (.pointer (some ⟨g, i * 10, none⟩)), Is (.agg #[.int .u8 x.1, .int .i64 x.2.1, .int .u64 (pl x.2.2 0), .int .u64 (pl x.2.2 1), .int .u64 (pl x.2.2 2), .int .u64 (pl x.2.2 3), .int .u64 (pl x.2.2 4), .int .u64 (pl x.2.2 5), .int .u64 (pl x.2.2 6), .int .u64 (pl x.2.2 7)]), Is (.pointer (some ⟨G5, 9, none⟩)), Is (.slice (some ⟨g, 0, none⟩) k bd), Is (.int .i64 (i : Int)), Is (.int .i64 (i + 1 : Int)), Is (.pointer (some ⟨g, (i + 1) * 10, none⟩)), Is (.agg #[.int .u8 y.1, .int .i64 y.2.1, .int .u64 (pl y.2.2 0), .int .u64 (pl y.2.2 1), .int .u64 (pl y.2.2 2), .int .u64 (pl y.2.2 3), .int .u64 (pl y.2.2 4), .int .u64 (pl y.2.2 5), .int .u64 (pl y.2.2 6), .int .u64 (pl y.2.2 7)]), Is (.tuple #[.bool r, .int .i64 0]), Is (.tuple #[.bool r, .int .i64 0]), Is (.bool r), Is (.int .i64 0), Is (.bool r), Is (.int .i64 0)] (by kernel_rfl) (by kernel_rfl) rfl Grows.refl (fun _ _ _ => Grows.trans) (stable_mem ⟨fun _ _ _ h _ => h, fun _ _ _ h _ => h, fun _ _ _ h _ => h, fun _ _ _ h _ => h, fun _ _ _ h _ => h, fun _ _ _ h _ => h, fun _ _ _ h _ => h, fun _ _ _ h _ => h, fun _ _ _ h _ => h, fun _ _ _ h _ => h, fun _ _ _ h _ => h, fun _ _ _ h _ => h, fun _ _ _ h _ => h, fun _ _ _ h _ => h, fun _ _ _ h _ => h, fun _ _ _ h _ => h, fun _ _ _ h _ => h, fun _ _ _ h _ => h, fun _ _ _ h _ => h, trivial⟩) _ (Below.drew (Below.refl _ _)) trivial ?_
        refine inv_cons ?_ (fun v0 => ?_)
        · intro L w1 hat hb hI hF
          have hc := (Grows.cells hb).1
          try simp [factsI, Region.binds, Is] at hF
          go_simp
          try exact Grows.refl _
        refine inv_cons ?_ (fun v1 => ?_)
        · intro L w1 hat hb hI hF
          have hc := (Grows.cells hb).1
          try simp [factsI, Region.binds, Is] at hF
          go_simp
          try exact Grows.refl _
        refine inv_cons ?_ (fun v2 => ?_)
        · intro L w1 hat hb hI hF
          have hc := (Grows.cells hb).1
          try simp [factsI, Region.binds, Is] at hF
          go_simp
          try exact Grows.refl _
        refine inv_cons ?_ (fun v3 => ?_)
        · intro L w1 hat hb hI hF
          have hc := (Grows.cells hb).1
          try simp [factsI, Region.binds, Is] at hF
          go_simp
          try exact Grows.refl _
        refine inv_cons ?_ (fun v4 => ?_)
        · intro L w1 hat hb hI hF
          have hc := (Grows.cells hb).1
          try simp [factsI, Region.binds, Is] at hF
          go_simp
          try exact Grows.refl _
        refine inv_cons ?_ (fun v5 => ?_)
        · intro L w1 hat hb hI hF
          have hc := (Grows.cells hb).1
          try simp [factsI, Region.binds, Is] at hF
          go_simp
          try exact Grows.refl _
        refine inv_cons ?_ (fun v6 => ?_)
        · intro L w1 hat hb hI hF
          have hc := (Grows.cells hb).1
          try simp [factsI, Region.binds, Is] at hF
          go_simp
          try exact Grows.refl _
        refine inv_cons ?_ (fun v7 => ?_)
        · intro L w1 hat hb hI hF
          have hc := (Grows.cells hb).1
          try simp [factsI, Region.binds, Is] at hF
          go_simp
          try exact Grows.refl _
        refine inv_cons ?_ (fun v8 => ?_)
        · intro L w1 hat hb hI hF
          have hc := (Grows.cells hb).1
          try simp [factsI, Region.binds, Is] at hF
          go_simp
          try exact Grows.refl _
        refine inv_cons ?_ (fun v9 => ?_)
        · intro L w1 hat hb hI hF
          have hc := (Grows.cells hb).1
          try simp [factsI, Region.binds, Is] at hF
          go_simp
          try exact Grows.refl _
        refine inv_cons ?_ (fun v10 => ?_)
        · intro L w1 hat hb hI hF
          have hc := (Grows.cells hb).1
          try simp [factsI, Region.binds, Is] at hF
          go_simp
          exact ⟨Grows.refl _, IntWalk.i64_in _ (by omega)⟩
        refine inv_cons ?_ (fun v11 => ?_)
        · intro L w1 hat hb hI hF
          have hc := (Grows.cells hb).1
          try simp [factsI, Region.binds, Is] at hF
          have hc2 : (0 : Int) ≤ (i : Int) + 1 ∧ (i : Int) + 1 < (k : Int) := by omega
          go_simp
          exact Grows.refl _
        refine inv_cons ?_ (fun v12 => ?_)
        · intro L w1 hat hb hI hF
          have hc := (Grows.cells hb).1
          try simp [factsI, Region.binds, Is] at hF
          go_simp
          try exact Grows.refl _
        refine inv_cons ?_ (fun v13 => ?_)
        · intro L w1 hat hb hI hF
          have hc := (Grows.cells hb).1
          try simp [factsI, Region.binds, Is] at hF
          go_simp
          refine (HI.out _ hb).mono ?_
          rintro e w2 ⟨rfl, hb2⟩
          exact ⟨rfl, hb2⟩
        refine inv_cons ?_ (fun v14 => ?_)
        · intro L w1 hat hb hI hF
          have hc := (Grows.cells hb).1
          try simp [factsI, Region.binds, Is] at hF
          go_simp
          try exact Grows.refl _
        refine inv_cons ?_ (fun v15 => ?_)
        · intro L w1 hat hb hI hF
          have hc := (Grows.cells hb).1
          try simp [factsI, Region.binds, Is] at hF
          go_simp
          try exact Grows.refl _
        refine inv_cons ?_ (fun v16 => ?_)
        · intro L w1 hat hb hI hF
          have hc := (Grows.cells hb).1
          try simp [factsI, Region.binds, Is] at hF
          go_simp
          try exact Grows.refl _
        refine inv_cons ?_ (fun v17 => ?_)
        · intro L w1 hat hb hI hF
          have hc := (Grows.cells hb).1
          try simp [factsI, Region.binds, Is] at hF
          go_simp
          try exact Grows.refl _
        refine inv_cons ?_ (fun v18 => ?_)
        · intro L w1 hat hb hI hF
          have hc := (Grows.cells hb).1
          try simp [factsI, Region.binds, Is] at hF
          go_simp
          try exact Grows.refl _
        refine inv_nil ?_
        intro w1 hb hI hF
        simp [Is, Nat.forall_lt_succ_right] at hF
        have e0 := hF.1.1.1.1.1.1.1.1.1.1.1.1.1.1.1.1.1.1
        have e1 := hF.1.1.1.1.1.1.1.1.1.1.1.1.1.1.1.1.1.2
        have e2 := hF.1.1.1.1.1.1.1.1.1.1.1.1.1.1.1.1.2
        have e3 := hF.1.1.1.1.1.1.1.1.1.1.1.1.1.1.1.2
        have e4 := hF.1.1.1.1.1.1.1.1.1.1.1.1.1.1.2
        have e5 := hF.1.1.1.1.1.1.1.1.1.1.1.1.1.2
        have e6 := hF.1.1.1.1.1.1.1.1.1.1.1.1.2
        have e7 := hF.1.1.1.1.1.1.1.1.1.1.1.2
        have e8 := hF.1.1.1.1.1.1.1.1.1.1.2
        have e9 := hF.1.1.1.1.1.1.1.1.1.2
        have e10 := hF.1.1.1.1.1.1.1.1.2
        have e11 := hF.1.1.1.1.1.1.1.2
        have e12 := hF.1.1.1.1.1.1.2
        have e13 := hF.1.1.1.1.1.2
        have e14 := hF.1.1.1.1.2
        have e15 := hF.1.1.1.2
        have e16 := hF.1.1.2
        have e17 := hF.1.2
        have e18 := hF.2
        clear hF
        simp only [Act.put, List.setIfInBounds_toArray, List.set_cons_succ, List.set_cons_zero, e0, e1, e2, e3, e4, e5, e6, e7, e8, e9, e10, e11, e12, e13, e14, e15, e16, e17, e18]
        clear e0 e1 e2 e3 e4 e5 e6 e7 e8 e9 e10 e11 e12 e13 e14 e15 e16 e17 e18
        have hBr := bel_trans hB hb
        replace g0 := g0.grow hb
        replace g4 := g4.grow hb
        replace g5 := g5.grow hb
        have HOB1 := Lib.hid (HOB.out.grow hb)
        have hne : m' ≠ [] := fun e => by have := HOE.out.2; rw [e] at this; simp at this; omega
        have hiL : i < m'.length := by have := HOE.out.2; omega
        have hG5g : G5 ≠ g := fun e => by
          have h1 := g5
          have h2 := HOB1.out.blk
          rw [e] at h1
          unfold Blk at h1 h2
          rw [h1] at h2
          injection h2 with h2
          injection h2 with _ h2
          exact absurd h2 (by decide)
        clear hB a0 a1 a2 a3 a4 a5 a6 a7 a8 a9 b0 b1 b2 b3 b4 b5 b6 b7 b8 b9 c5 l5 c0 l0 lg hb HOB HI
        cases r with
        | false =>
          go_wp2_with fail
          go_roundw
          case rel => exact ⟨j + 1, m', by omega, by go_num, g0, g4, g5, ⟨own_len HOB1.out.own HOE.out.2, HOE.out⟩, hBr⟩
          case measure => simp [intOf]; omega
        | true =>
          go_wp2_with fail
          have hiL1 : i + 1 < (m'.set i y).length := by rw [List.length_set]; have := HOE.out.2; omega
          refine wp_region_val (Below (w.heap.size + 1 + 1)) (fun L vs W => InvX G5 #[.int .u64 (pl b 0), .int .u64 (pl b 1), .int .u64 (pl b 2), .int .u64 (pl b 3), .int .u64 (pl b 4), .int .u64 (pl b 5), .int .u64 (pl b 6), .int .u64 (pl b 7), .slice p n c, .slice (some ⟨g, 0, none⟩) k bd] (w.heap.size + 1 + 1) g bd i m' cur x y (L 19) (L 21) W) [Is (.pointer (some ⟨G5, 9, none⟩)), Is (.slice (some ⟨g, 0, none⟩) k bd), Is (.int .i64 (i : Int)), Is (.pointer (some ⟨G5, 9, none⟩)), Is (.slice (some ⟨g, 0, none⟩) k bd), Is (.int .i64 (i : Int)), Is (.int .i64 (i + 1 : Int)), Is (.pointer (some ⟨G5, 9, none⟩)), Is (.slice (some ⟨g, 0, none⟩) k bd), Is (.int .i64 (i : Int)), Is (.int .i64 (i + 1 : Int)), Is (.pointer (some ⟨g, (i + 1) * 10, none⟩)), Is (.agg #[.int .u8 y.1, .int .i64 y.2.1, .int .u64 (pl y.2.2 0), .int .u64 (pl y.2.2 1), .int .u64 (pl y.2.2 2), .int .u64 (pl y.2.2 3), .int .u64 (pl y.2.2 4), .int .u64 (pl y.2.2 5), .int .u64 (pl y.2.2 6), .int .u64 (pl y.2.2 7)]), Is (.pointer (some ⟨G5, 9, none⟩)), Is (.slice (some ⟨g, 0, none⟩) k bd), Is (.int .i64 (i : Int)), Is (.pointer (some ⟨g, i * 10, none⟩)), Is (.agg #[.int .u8 x.1, .int .i64 x.2.1, .int .u64 (pl x.2.2 0), .int .u64 (pl x.2.2 1), .int .u64 (pl x.2.2 2), .int .u64 (pl x.2.2 3), .int .u64 (pl x.2.2 4), .int .u64 (pl x.2.2 5), .int .u64 (pl x.2.2 6), .int .u64 (pl x.2.2 7)]), Is (.pointer (some ⟨g, i * 10, none⟩)), AnyV, Is (.pointer (some ⟨g, (i + 1) * 10, none⟩)), AnyV] (by kernel_rfl) (by kernel_rfl) rfl (Below.refl (w.heap.size + 1 + 1)) (fun _ _ _ => Below.trans) (stable_mem ⟨fun _ _ _ h _ => h, fun _ _ _ h _ => h, fun _ _ _ h _ => h, fun _ _ _ h _ => h, fun _ _ _ h _ => h, fun _ _ _ h _ => h, fun _ _ _ h _ => h, fun _ _ _ h _ => h, fun _ _ _ h _ => h, fun _ _ _ h _ => h, fun _ _ _ h _ => h, fun _ _ _ h _ => h, fun _ _ _ h _ => h, fun _ _ _ h _ => h, fun _ _ _ h _ => h, fun _ _ _ h _ => h, fun _ _ _ h _ => h, fun _ _ _ h _ => h, fun _ _ _ h _ => h, fun _ _ _ h _ => h, fun _ _ _ h _ => h, fun _ _ _ h _ => h, trivial⟩) w1 (Below.drew (Below.refl _ _)) (⟨g5, (fun _ => HOB1.out.grow (bel_drew (bel_refl _))), (fun e => by cases e), (fun e => by cases e)⟩) ?_
          refine val_cons ?_ (fun v0 => ?_)
          · intro L vs w1 hvs hat hb hI hF
            try simp [factsI, Region.binds, Is] at hF
            go_simp
            exact Below.refl _ _
          refine val_cons ?_ (fun v1 => ?_)
          · intro L vs w1 hvs hat hb hI hF
            try simp [factsI, Region.binds, Is] at hF
            have c5 := hI.hd.cell
            go_simp
            exact Below.refl _ _
          refine val_cons ?_ (fun v2 => ?_)
          · intro L vs w1 hvs hat hb hI hF
            try simp [factsI, Region.binds, Is] at hF
            go_simp
            exact Below.refl _ _
          refine val_cons ?_ (fun v3 => ?_)
          · intro L vs w1 hvs hat hb hI hF
            try simp [factsI, Region.binds, Is] at hF
            go_simp
            exact Below.refl _ _
          refine val_cons ?_ (fun v4 => ?_)
          · intro L vs w1 hvs hat hb hI hF
            try simp [factsI, Region.binds, Is] at hF
            have c5 := hI.hd.cell
            go_simp
            exact Below.refl _ _
          refine val_cons ?_ (fun v5 => ?_)
          · intro L vs w1 hvs hat hb hI hF
            try simp [factsI, Region.binds, Is] at hF
            go_simp
            exact Below.refl _ _
          refine val_cons ?_ (fun v6 => ?_)
          · intro L vs w1 hvs hat hb hI hF
            try simp [factsI, Region.binds, Is] at hF
            have hw : IntKind.i64.wrap ((i : Int) + 1) = (i : Int) + 1 := IntWalk.i64_in _ (by omega)
            go_simp
            first | exact Below.refl _ _ | exact ⟨Below.refl _ _, hw⟩
          refine val_cons ?_ (fun v7 => ?_)
          · intro L vs w1 hvs hat hb hI hF
            try simp [factsI, Region.binds, Is] at hF
            go_simp
            exact Below.refl _ _
          refine val_cons ?_ (fun v8 => ?_)
          · intro L vs w1 hvs hat hb hI hF
            try simp [factsI, Region.binds, Is] at hF
            have c5 := hI.hd.cell
            go_simp
            exact Below.refl _ _
          refine val_cons ?_ (fun v9 => ?_)
          · intro L vs w1 hvs hat hb hI hF
            try simp [factsI, Region.binds, Is] at hF
            go_simp
            exact Below.refl _ _
          refine val_cons ?_ (fun v10 => ?_)
          · intro L vs w1 hvs hat hb hI hF
            try simp [factsI, Region.binds, Is] at hF
            have hw : IntKind.i64.wrap ((i : Int) + 1) = (i : Int) + 1 := IntWalk.i64_in _ (by omega)
            go_simp
            first | exact Below.refl _ _ | exact ⟨Below.refl _ _, hw⟩
          refine val_cons ?_ (fun v11 => ?_)
          · intro L vs w1 hvs hat hb hI hF
            try simp [factsI, Region.binds, Is] at hF
            have hc2 : (0 : Int) ≤ (i : Int) + 1 ∧ (i : Int) + 1 < (k : Int) := by omega
            go_simp
            exact Below.refl _ _
          refine val_cons ?_ (fun v12 => ?_)
          · intro L vs w1 hvs hat hb hI hF
            try simp [factsI, Region.binds, Is] at hF
            have h19 := hat.later 21 19 (by kernel_rfl)
            obtain ⟨b0, b1, b2, b3, b4, b5, b6, b7, b8, b9⟩ := ac_cells ((hI.own h19).cells hne) HR.out.2.2
            simp only [Nat.zero_add] at b0 b1 b2 b3 b4 b5 b6 b7 b8 b9
            go_simp
            exact ⟨Below.refl _ _, by rw [h19] at hI; exact hI⟩
          refine val_cons ?_ (fun v13 => ?_)
          · intro L vs w1 hvs hat hb hI hF
            try simp [factsI, Region.binds, Is] at hF
            go_simp
            exact Below.refl _ _
          refine val_cons ?_ (fun v14 => ?_)
          · intro L vs w1 hvs hat hb hI hF
            try simp [factsI, Region.binds, Is] at hF
            have c5 := hI.hd.cell
            go_simp
            exact Below.refl _ _
          refine val_cons ?_ (fun v15 => ?_)
          · intro L vs w1 hvs hat hb hI hF
            try simp [factsI, Region.binds, Is] at hF
            go_simp
            exact Below.refl _ _
          refine val_cons ?_ (fun v16 => ?_)
          · intro L vs w1 hvs hat hb hI hF
            try simp [factsI, Region.binds, Is] at hF
            go_simp
            exact Below.refl _ _
          refine val_cons ?_ (fun v17 => ?_)
          · intro L vs w1 hvs hat hb hI hF
            try simp [factsI, Region.binds, Is] at hF
            have h19 := hat.later 21 19 (by kernel_rfl)
            obtain ⟨a0, a1, a2, a3, a4, a5, a6, a7, a8, a9⟩ := ac_cells ((hI.own h19).cells hne) HR.out.2.1
            simp only [Nat.zero_add] at a0 a1 a2 a3 a4 a5 a6 a7 a8 a9
            go_simp
            exact ⟨Below.refl _ _, by rw [h19] at hI; exact hI⟩
          refine val_cons ?_ (fun v18 => ?_)
          · intro L vs w1 hvs hat hb hI hF
            try simp [factsI, Region.binds, Is] at hF
            go_simp
            exact Below.refl _ _
          refine val_cons ?_ (fun v19 => ?_)
          · intro L vs w1 hvs hat hb hI hF
            try simp [factsI, Region.binds, Is] at hF
            have h19 := hat.self
            have h21 := hat.later 21 21 (by kernel_rfl)
            obtain ⟨rfl, rfl, -⟩ := hF
            have OB := hI.own h19
            refine step_store_at (ty := 46) (x := .tmp 74) (y := .tmp 68) rfl rfl g (i * 10) (acA y) ?_ ?_ 46 cur OB.blk act_size (OB.fit hiL y) (ac_one y) ?_
            · go_simp
            · go_simp
            simp only [upd]
            exact ⟨blw_row (Below.refl _ _) OB.base _, ⟨hI.hd.rowO _ hG5g, fun e => (by cases e), fun _ _ => OB.set hiL y, fun e => (by rw [h21] at e; cases e)⟩, trivial⟩
          refine val_cons ?_ (fun v20 => ?_)
          · intro L vs w1 hvs hat hb hI hF
            try simp [factsI, Region.binds, Is] at hF
            have hc2 : (0 : Int) ≤ (i : Int) + 1 ∧ (i : Int) + 1 < (k : Int) := by omega
            go_simp
            exact Below.refl _ _
          refine val_cons ?_ (fun v21 => ?_)
          · intro L vs w1 hvs hat hb hI hF
            try simp [factsI, Region.binds, Is] at hF
            have h19 := hat.ahead 21 19 (by kernel_rfl)
            have h21 := hat.self
            obtain ⟨rfl, rfl, -⟩ := hF
            have OB := hI.own1 h19 h21
            refine step_store_at (ty := 46) (x := .tmp 75) (y := .tmp 73) rfl rfl g ((i + 1) * 10) (acA x) ?_ ?_ 46 _ OB.blk act_size (OB.fit hiL1 x) (ac_one x) ?_
            · go_simp
            · go_simp
            simp only [upd]
            exact ⟨blw_row (Below.refl _ _) OB.base _, ⟨hI.hd.rowO _ hG5g, fun e => (by rw [h19] at e; cases e), fun _ e => (by cases e), fun _ => OB.set hiL1 x⟩, trivial⟩
          refine val_nil ?_
          intro vs w1 hvs hb hI hF
          simp [Is, Nat.forall_lt_succ_right] at hF
          have e0 := hF.1.1.1.1.1.1.1.1.1.1.1.1.1.1.1.1.1.1.1.1.1
          have e1 := hF.1.1.1.1.1.1.1.1.1.1.1.1.1.1.1.1.1.1.1.1.2
          have e2 := hF.1.1.1.1.1.1.1.1.1.1.1.1.1.1.1.1.1.1.1.2
          have e3 := hF.1.1.1.1.1.1.1.1.1.1.1.1.1.1.1.1.1.1.2
          have e4 := hF.1.1.1.1.1.1.1.1.1.1.1.1.1.1.1.1.1.2
          have e5 := hF.1.1.1.1.1.1.1.1.1.1.1.1.1.1.1.1.2
          have e6 := hF.1.1.1.1.1.1.1.1.1.1.1.1.1.1.1.2
          have e7 := hF.1.1.1.1.1.1.1.1.1.1.1.1.1.1.2
          have e8 := hF.1.1.1.1.1.1.1.1.1.1.1.1.1.2
          have e9 := hF.1.1.1.1.1.1.1.1.1.1.1.1.2
          have e10 := hF.1.1.1.1.1.1.1.1.1.1.1.2
          have e11 := hF.1.1.1.1.1.1.1.1.1.1.2
          have e12 := hF.1.1.1.1.1.1.1.1.1.2
          have e13 := hF.1.1.1.1.1.1.1.1.2
          have e14 := hF.1.1.1.1.1.1.1.2
          have e15 := hF.1.1.1.1.1.1.2
          have e16 := hF.1.1.1.1.1.2
          have e17 := hF.1.1.1.1.2
          have e18 := hF.1.1.1.2
          have e19 := hF.1.1.2
          have e20 := hF.1.2
          have e21 := hF.2
          clear hF
          simp only [Act.put, List.setIfInBounds_toArray, List.set_cons_succ, List.set_cons_zero, e0, e1, e2, e3, e4, e5, e6, e7, e8, e9, e10, e11, e12, e13, e14, e15, e16, e17, e18, e20]
          clear e0 e1 e2 e3 e4 e5 e6 e7 e8 e9 e10 e11 e12 e13 e14 e15 e16 e17 e18 e20
          have OB := hI.own2 rfl
          have g5' := hI.hd
          have g0' := g0.below hb (by omega)
          have g4' := g4.below hb (by omega)
          have hBr2 : Below w.heap.size w w1 := hBr.trans (hb.mono (by omega))
          have HF := Lib.hid (And.intro (own_len OB.own (show ((m'.set i y).set (i + 1) x).length = k by rw [List.length_set, List.length_set]; exact HOE.out.2)) (And.intro (swp_eqv' HOE.out.1 HR.out.2.1 HR.out.2.2 HR.out.1) (show ((m'.set i y).set (i + 1) x).length = k by rw [List.length_set, List.length_set]; exact HOE.out.2)))
          clear hvs hI OB g0 g4 g5 hBr hb
          go_wp2_with fail
          go_roundw
          case rel => exact ⟨j + 1, _, by omega, by go_num, g0', g4', g5', HF, hBr2⟩
          case measure => simp [intOf]; omega
    · have c5 := g5.cell
      have l5 := g5.lt
      have r4 := g4.row
      have l4 := g4.lt
      have hne5 : G5 ≠ w.heap.size + 1 := by omega
      rw [← g4.rw]
      go_wp2_with fail
      refine bodyPost_ret (v := .agg #[.int .u64 (pl b 0), .int .u64 (pl b 1), .int .u64 (pl b 2), .int .u64 (pl b 3), .int .u64 (pl b 4), .int .u64 (pl b 5), .int .u64 (pl b 6), .int .u64 (pl b 7), .slice p n c, .slice bq k bd]) (by simp [results, Tryz.results54, go_sem, *]) rfl ?_
      exact ⟨bq, k, bd, m', rfl, OwnA.sl (own_rowT HO.out.1 g4 (by decide) _), HO.out.2.1, blw_row hB (by omega) _⟩
end Go.Proofs.YtccnkebkgegohaaGreatDoor
end
