import Derived.Test.YtlbhjikkpbknnaaGreatDoorHQ27
import Derived.Laws.AppendOwnNone
/-
  Given contracts of functions of the program, and laws for them, one behind the other.
-/
set_option linter.unusedVariables false
set_option linter.unusedSimpArgs false
set_option linter.unusedSectionVars false
section
namespace Go.Proofs.YtlbhjikkpbknnaaGreatDoor
open Go.RowKit Go.Rel Go.Draw
set_option maxRecDepth 100000
/-! Paths of the reference -/
theorem part_sub (T S : U) : ((intsL (listU T)).all fun x => (intsL (listU S)).contains x) = subB T S := by
 rw [Bool.eq_iff_iff, subB_iff, List.all_eq_true]
 constructor
 ·intro h i hi
  have := h (i : Int) (List.mem_map.2 ⟨i, (listU_mem _ _).2 hi, rfl⟩)
  rw [intsL_contains, List.contains_iff_mem] at this
  exact (listU_mem _ _).1 this
 ·intro h x hx
  obtain ⟨i, hi, rfl⟩ := List.mem_map.1 hx
  show (intsL (listU S)).contains (i : Int) = true
  rw [intsL_contains, List.contains_iff_mem]
  exact (listU_mem _ _).2 (h i ((listU_mem _ _).1 hi))
theorem contains_bit (S : U) (p : Nat) : (intsL (listU S)).contains (p : Int) = S.getLsbD p := by
 rw [intsL_contains, Bool.eq_iff_iff, List.contains_iff_mem]
 exact listU_mem _ _
/-- sets with the values that hold them -/
def PairO (W : World) (base : Nat) (v : Value) (ps : List (Value × U)) : Prop := W.ownsRow base 23 1 v ps.length (ps.map (·.1)) ∧ ∀ x ∈ ps, OwnI W base x.1 (intsL (listU x.2))
theorem PairO.nil (W : World) (base : Nat) : PairO W base (.slice none 0 0) [] := ⟨World.ownsRow_nil _ _ _ _, fun x hx => by cases hx⟩
theorem PairO.bel {W W' : World} {base : Nat} {v : Value} {ps : List (Value × U)} (h : PairO W base v ps) (hb : Below W.heap.size W W') : PairO W' base v ps := ⟨own_bel h.1 hb, fun x hx => own_bel (h.2 x hx) hb⟩
theorem PairO.snoc {W W7 : World} {base n : Nat} {v v' u : Value} {ps : List (Value × U)} {S : U} {o : Obj} (h : PairO W base v ps) (hu : OwnI W base u (intsL (listU S))) (hn : n = ps.length) (hown : W7.ownsRow base 23 1 v' (n + 1) (ps.map (·.1) ++ [u])) (hg : (W.alloc o).grownBy W7 v.ownBlock) : PairO W7 base v' (ps ++ [(u, S)]) := by
 subst hn
 refine ⟨by simpa using hown, fun x hx => ?_⟩
 rcases List.mem_append.1 hx with hx | hx
 ·exact own_keptT ((h.2 x hx).alloc o) (h.1.alloc o) (by decide) hg
 ·rw [List.mem_singleton.1 hx]; exact own_keptT (hu.alloc o) (h.1.alloc o) (by decide) hg
theorem pair_cell {W : World} {base n : Nat} {v : Value} {xs : List Value} (h : W.ownsRow base 23 1 v n xs) {i : Nat} {x : Value} (hx : xs[i]? = some x) : ∃ ib c, v = .slice (some ⟨ib, 0, none⟩) n c ∧ ib < W.heap.size ∧ W.cell? ⟨ib, 0 + i, none⟩ = some x := by
 rcases h.2 with ⟨_, h0⟩ | ⟨g, cap, cur, rfl, hb, hg, _⟩
 ·have hl := h.1
  have := (List.getElem?_eq_some_iff.1 hx).1
  omega
 ·have hs := h.cells (g := g) rfl i x hx
  refine ⟨g, cap, rfl, (Array.getElem?_eq_some_iff.1 hg).1, ?_⟩
  rw [Go.WideShapes.add_plain] at hs; exact hs
def PairS (wg W : World) (v : Value) (ps : List (Value × U)) : Prop := W.ownsRow wg.heap.size 23 1 v ps.length (ps.map (·.1)) ∧ ∀ x ∈ ps, SlI wg x.1 (intsL (listU x.2))
theorem PairS.bel {wg W W' : World} {v : Value} {ps : List (Value × U)} (h : PairS wg W v ps) (hb : Below W.heap.size W W') : PairS wg W' v ps := ⟨own_bel h.1 hb, h.2⟩
theorem PairS.sll {wg W : World} {v : Value} {ps : List (Value × U)} (h : PairS wg W v ps) (hb : Below wg.heap.size wg W) : SlLL W v ((ps.map (·.2)).map fun S => intsL (listU S)) := by
 refine ⟨ps.map (·.1), ownV_sl (by rw [List.length_map]; exact h.1), by simp, fun i u l hu hl => ?_⟩
 rw [List.map_map, List.getElem?_map] at hl
 rw [List.getElem?_map] at hu
 cases hx : ps[i]? with
 | none => rw [hx] at hu; simp at hu
 | some x =>
  rw [hx] at hu hl
  simp at hu hl
  subst hu hl
  exact (h.2 x (List.mem_of_getElem? hx)).mono hb
theorem least_take (GL : List U) (S : U) (k : Nat) {T : U} (h : GL[k]? = some T) : (GL.take (k + 1)).all (fun T => T == S || !subB T S) = ((GL.take k).all (fun T => T == S || !subB T S) && (T == S || !subB T S)) := by
 rw [take_snocL h, List.all_append]; simp
theorem nodup_at {L : List U} (h : L.Nodup) {i j : Nat} {S : U} (hi : L[i]? = some S) (hj : L[j]? = some S) : i = j := by
 exact ((List.getElem?_inj (List.getElem?_eq_some_iff.1 hi).1 h).1 (hi.trans hj.symm))
theorem ins_step {S T : U} {L : List U} {a : Nat} (h : L[a]? = some T) (hb : beforeL (listU T) (listU S) = true) : insR S (L.drop a) = T :: insR S (L.drop (a + 1)) := by
 obtain ⟨hl, e⟩ := List.getElem?_eq_some_iff.1 h
 rw [List.drop_eq_getElem_cons hl, e, insR, if_pos hb]
theorem ins_stop {S T : U} {L : List U} {a : Nat} (h : L[a]? = some T) (hb : beforeL (listU T) (listU S) = false) : insR S (L.drop a) = S :: L.drop a := by
 obtain ⟨hl, e⟩ := List.getElem?_eq_some_iff.1 h
 rw [List.drop_eq_getElem_cons hl, e, insR, if_neg (by rw [hb]; simp)]
theorem ins_end {S : U} {L : List U} {a : Nat} (h : L.length ≤ a) : insR S (L.drop a) = S :: L.drop a := by
 rw [List.drop_eq_nil_of_le h]; rfl
theorem filter_take (f : U → Bool) (GL : List U) {i : Nat} {S : U} (h : GL[i]? = some S) : (GL.take (i + 1)).filter f = (GL.take i).filter f ++ (if f S then [S] else []) := by
 rw [take_snocL h, List.filter_append]; congr 1
 cases hf : f S <;> simp [List.filter_cons, hf]
set_option maxHeartbeats 8000000 in
theorem refPaths_n {w : World} {v : Value} {m : List Sol} {p : Int} (H : SlS w v m) : Calls Tryz.prog 23 #[v, .int .i64 p] w fun e w' => ∃ u, e = .returned (.tuple #[u, .int .i64 (askE m [] [p])]) ∧ SlLL w' u (ptL m p) ∧ Below w.heap.size w w' := by
  obtain ⟨i0, hi, hz0, hz1, hz2⟩ := info_parts infoInts
  have HI0 := Lib.hid (And.intro hi (And.intro hz0 (And.intro hz1 hz2))); clear hi hz0 hz1 hz2
  obtain ⟨R, hR⟩ : ∃ R, R = ptL m p := ⟨_, rfl⟩
  obtain ⟨F, hF⟩ : ∃ F, F = askE m [] [p] := ⟨_, rfl⟩
  rw [← hR, ← hF]
  unfold ptL at hR
  have H1 := Lib.hid (refAsked_spec (gone := []) (gv := .slice none 0 0) p H sl_nil)
  rw [← hF] at H1 hR
  obtain ⟨ai, nn, c, rfl, hnn, hc, hcm⟩ := H.out
  subst hnn
  have HH := Lib.hid (And.intro H (And.intro hR hF))
  clear H hR hF
  go_enter Tryz.func23, Tryz.ntmps23
  go_wp2_with fail
  refine H1.out.mono ?_
  rintro e w2 ⟨rfl, hb2⟩
  have HB := Lib.hid hb2
  clear hb2
  by_cases hF0 : F = 0
  · obtain ⟨hE0, p, rfl, hP⟩ := asked_in (HH.out.2.2.symm.trans hF0)
    obtain ⟨h12, hg⟩ := errM_zero.1 hE0
    have hR1 : R = ((pathsM m p).map listU).map intsL := by rw [HH.out.2.1, if_pos hF0]; rfl
    rw [← paths_ref h12] at hR1
    have hgn : (goodL m p).Nodup := (nums_nodup h12).filter _
    obtain ⟨GL, hGL⟩ : ∃ L, L = goodL m p := ⟨_, rfl⟩
    rw [← hGL] at hR1 hgn
    have HQ := Lib.hid (And.intro h12 (And.intro hg (And.intro hP (And.intro hR1 (And.intro hGL hgn)))))
    have HWO := Lib.hid (WaysOf_spec (HH.out.1.mono HB.out) h12)
    subst hF0
    clear h12 hg hE0 hP hR1 hGL hgn
    go_wp2_with fail
    refine HWO.out.mono ?_
    rintro e w4 ⟨hb4, mv, nv, rfl, hW⟩
    obtain ⟨bm, nm, cm, bn, nn, cn, rfl, rfl⟩ := hW.sls
    have H4 := Lib.hid (And.intro (bel_trans HB.out hb4) hW)
    clear hb4 hW HWO
    obtain ⟨n, hn⟩ : ∃ n, n = m.length := ⟨_, rfl⟩
    have hn12 : n ≤ 12 := by rw [hn]; exact HQ.out.1
    have hPn : p < n := by rw [hn]; exact HQ.out.2.2.1
    rw [← hn] at hc ⊢
    have HN := Lib.hid hn
    clear hn
    have em : min n 64 = n := Nat.min_eq_left (by omega)
    go_wp2_with fail
    obtain ⟨wb, hwb⟩ : ∃ wb, wb = w4.alloc (.cells #[.slice bm nm cm, .slice bn nn cn] 111) := ⟨_, rfl⟩
    have hb5 : Below w4.heap.size w4 wb := by subst hwb; exact bel_alloc (bel_refl _) _
    have hB5 : Blk wb w4.heap.size #[.slice bm nm cm, .slice bn nn cn] 111 := by subst hwb; exact Blk.new _ _ _
    rw [← hwb]
    obtain ⟨N0, hN0⟩ : ∃ N, N = w4.heap.size := ⟨_, rfl⟩
    rw [← hN0] at hB5 ⊢
    have H5 := Lib.hid (And.intro (bel_trans H4.out.1 hb5) (And.intro hB5 (H4.out.2.mono hb5)))
    clear hwb hb5 hB5 hN0
    have hp2 : 2 ^ n ≤ 4096 := Nat.le_trans (Nat.pow_le_pow_right (by omega) hn12) (by decide)
    obtain ⟨P, hP⟩ : ∃ P, P = 2 ^ n := ⟨_, rfl⟩
    have hp1 : 1 ≤ P := by rw [hP]; exact Nat.one_le_two_pow
    rw [← hP] at hp2
    have HP := Lib.hid hP
    have hw64 : wrap64 ((2 : Int) ^ n) = (P : Int) := by
      rw [hP, Int.natCast_pow]
      exact Go.IntWalk.wrap64_in _ (by have : ((2 : Int) ^ n) = ((2 ^ n : Nat) : Int) := by rw [Int.natCast_pow]; rfl
                                       omega)
    clear hP
    go_loopw [8, 9] (fun gv kv wx => ∃ (k : Nat) (gp : List (Value × U)), 1 ≤ k ∧ k ≤ P ∧ kv = .int .i64 k ∧ gp.length ≤ k ∧ Hid (GL = gp.map (·.2) ++ ((numsL m.length).drop (k - 1)).filter (fun S => S.getLsbD p && firstM m S) ∧ PairO wx wb.heap.size gv gp ∧ Below wb.heap.size wb wx)) (fun _ kv _ => P - (intOf kv).toNat)
    case atStart => exact ⟨1, [], Nat.le_refl _, hp1, rfl, Nat.zero_le _, Lib.hid ⟨HQ.out.2.2.2.2.1, PairO.nil _ _, Below.refl _ _⟩⟩
    case round =>
      obtain ⟨k, gp, hk1, hkP, rfl, hgk, HI⟩ := hrel
      obtain ⟨p8, n8, c8, hu8⟩ := own_shapeN HI.out.2.1.1
      subst hu8
      by_cases hlt : k < P
      · have hd : decide ((k : Int) < (P : Int)) = true := decide_eq_true (by omega)
        have hk4 : k < 4096 := by omega
        obtain ⟨S, hS⟩ : ∃ S, S = BitVec.ofNat 64 k := ⟨_, rfl⟩
        have hSn : S.toNat = k := by rw [hS, BitVec.toNat_ofNat]; omega
        have hS0 : S ≠ 0 := fun h => by rw [h] at hSn; have : (0 : U).toNat = 0 := rfl; omega
        have hSS : Sub S (allU m.length) := (sub_lt HQ.out.1 _).2 (by rw [hSn, ← HN.out, ← HP.out]; exact hlt)
        have hst := HI.out.1
        rw [nums_at hk1 (by rw [← HN.out, ← HP.out]; exact hlt), ← hS, List.filter_cons] at hst
        have HST := Lib.hid (And.intro hst (And.intro hS0 hSS))
        have HSET := Lib.hid (setR_spec (w := wr) hk4)
        rw [← hS] at HSET
        clear hst hS hSn hS0 hSS hk4
        go_wp2_with fail
        refine HSET.out.mono ?_
        rintro e w6 ⟨hb6, o, rfl, ho⟩
        obtain ⟨ao, no, co, hoe⟩ := own_some ho HST.out.2.1
        have hso := ho.sl
        subst hoe
        have hbw6 := bel_trans HI.out.2.2 hb6
        have B5 := H5.out.2.1.grow hbw6
        have c0 := B5.cell 0; have c1 := B5.cell 1; have l5 := B5.lt
        simp only [List.getElem?_toArray, List.getElem?_cons_zero, List.getElem?_cons_succ] at c0 c1
        have hwbr : wb.heap.size ≤ wr.heap.size := HI.out.2.2.size
        have H6 := Lib.hid (And.intro hbw6 (And.intro (HI.out.2.1.bel hb6) (own_weak ho hwbr)))
        have HIn := Lib.hid (In_spec (p : Int) hso)
        rw [contains_bit] at HIn
        have hof : ∀ q ∈ listU S, q < m.length := fun q hq => by
          have := HST.out.2.2 q ((listU_mem _ _).1 hq)
          rw [allU_bit _ _ (by have := HQ.out.1; omega)] at this
          simpa using this
        have HCM := Lib.hid (comesR_spec (H5.out.2.2.mono hbw6) hso hof HQ.out.1 (Nat.le_trans (cardU_le S) (by omega)))
        rw [comes_ref (good_apart HQ.out.2.1) HQ.out.1 HST.out.2.2] at HCM
        clear hb6 ho hso hbw6 B5 HSET hof
        go_wp2_with fail
        refine HIn.out.mono ?_
        rintro e w7 ⟨rfl, hw7⟩
        have hw8 := hw7.symm
        subst hw8
        clear hw7 HIn
        cases hbit : S.getLsbD p
        · have HBT := Lib.hid hbit; clear hbit
          go_wp2_with fail
          refine ⟨⟨k + 1, gp, by omega, by omega, by simp, by omega, Lib.hid ⟨?_, H6.out.2.1, H6.out.1⟩⟩, by simp [intOf]; omega⟩
          rw [HST.out.1, HBT.out]; rfl
        · have HBT := Lib.hid hbit; clear hbit
          go_wp2_with fail
          refine HCM.out.mono ?_
          rintro e w9 ⟨hb9, rfl⟩
          have H9 := Lib.hid (And.intro (bel_trans H6.out.1 hb9) (And.intro (H6.out.2.1.bel hb9) (own_bel H6.out.2.2 hb9)))
          clear hb9 HCM
          cases hfm : firstM m S
          · have HFM := Lib.hid hfm; clear hfm
            go_wp2_with fail
            refine ⟨⟨k + 1, gp, by omega, by omega, by simp, by omega, Lib.hid ⟨?_, H9.out.2.1, H9.out.1⟩⟩, by simp [intOf]; omega⟩
            rw [HST.out.1, HBT.out, HFM.out]; rfl
          · have HFM := Lib.hid hfm; clear hfm
            have hx := H9.out.2.1.1
            obtain ⟨K, hK⟩ : ∃ K, K = gp.length := ⟨_, rfl⟩
            rw [← hK] at hx hgk
            have HX := Lib.hid (And.intro hx hK)
            have hbs : wb.heap.size ≤ w9.heap.size := H9.out.1.size
            clear hx hK c0 c1 l5
            go_wp2_with (first
              | (at_builtin; refine wpList_append_own _ rfl _ _ 40 rfl wb.heap.size 23 i0 (.slice none 0 0) 1 24 Tryz.underlying40 HI0.out.1 HI0.out.2.1 HI0.out.2.2.1 HI0.out.2.2.2 rfl (by decide) _ _ _ rfl (HX.out.1.alloc _) ⟨w9.heap.size, 0, none⟩ 1 1 [.slice (some ao) no co] rfl rfl (cell_one_new _ _ _) (fun x hx => by simp at hx; subst hx; rfl) (by unfold maxLen; omega) (by omega) (by simp; omega) ?_; intro v7 w7 hown7 hgrow7 hnil7))
            have hps := PairO.snoc H9.out.2.1 H9.out.2.2 HX.out.2 hown7 hgrow7
            have hb7 : Below wb.heap.size w9 w7 := ((bel_alloc (bel_refl w9) _).mono hbs).grown hgrow7 (by simp; omega) (fun j hj => (HX.out.1.lt j hj).1)
            refine ⟨⟨k + 1, gp ++ [(.slice (some ao) no co, S)], by omega, by omega, by simp, by rw [List.length_append, ← HX.out.2]; simp; omega, Lib.hid ⟨?_, hps, H9.out.1.trans hb7⟩⟩, by simp [intOf]; omega⟩
            rw [HST.out.1, HBT.out, HFM.out]; simp
      · have hd : decide ((k : Int) < (P : Int)) = false := decide_eq_false (by omega)
        have hfin := HI.out.1
        rw [nums_end (by rw [← HN.out, ← HP.out]; omega)] at hfin
        have hgl : GL = gp.map (·.2) := by simpa using hfin
        have HF := Lib.hid hgl
        clear hfin hgl
        go_wp2_with fail
        obtain ⟨wg, hwg⟩ : ∃ x, x = wr := ⟨_, rfl⟩
        subst hwg
        have hn8 : n8 = gp.length := by
          rcases HI.out.2.1.1.2 with ⟨h, h0⟩ | ⟨_, _, _, h, _⟩
          · simp only [Value.slice.injEq] at h; omega
          · simp only [Value.slice.injEq] at h; omega
        have hgl12 : n8 ≤ 4096 := by omega
        have HGC := Lib.hid (show ∀ (i : Nat) (x : Value × U), gp[i]? = some x → ∃ ib io, p8 = some ⟨ib, io, none⟩ ∧ ib < wg.heap.size ∧ wg.cell? ⟨ib, io + i, none⟩ = some x.1 from fun i x hx => by
          obtain ⟨ib, c, hv, hlt, hc⟩ := pair_cell HI.out.2.1.1 (i := i) (x := x.1) (by rw [List.getElem?_map, hx]; rfl)
          simp only [Value.slice.injEq] at hv
          exact ⟨ib, 0, hv.1, hlt, hc⟩)
        have HGS := Lib.hid (show ∀ x ∈ gp, SlI wg x.1 (intsL (listU x.2)) from fun x hx => (HI.out.2.1.2 x hx).sl)
        have HGI := Lib.hid (show ∀ (i : Nat) (x : Value × U), gp[i]? = some x → GL[i]? = some x.2 from fun i x hx => by rw [HF.out, List.getElem?_map, hx]; rfl)
        have HBG := Lib.hid HI.out.2.2
        have HN8 := Lib.hid hn8
        have HL8 := Lib.hid (show GL.length = n8 by rw [HF.out, List.length_map]; exact hn8.symm)
        clear hn8 HI
        try rw [hw64]
        try clear hw64
        go_loopw [11, 12] (fun ov iv wx => ∃ (i : Nat) (op : List (Value × U)), i ≤ n8 ∧ iv = .int .i64 i ∧ op.length ≤ i ∧ lenV ov = op.length ∧ Hid (op.map (·.2) = ((GL.take i).filter (Go.Draw.leastR GL)).foldl (fun o x => insR x o) [] ∧ PairS wg wx ov op ∧ Below wg.heap.size wg wx)) (fun _ iv _ => n8 - (intOf iv).toNat)
        case atStart => exact ⟨0, [], Nat.zero_le _, rfl, Nat.zero_le _, rfl, Lib.hid ⟨rfl, ⟨World.ownsRow_nil _ _ _ _, fun x hx => by cases hx⟩, Below.refl _ _⟩⟩
        case round =>
          obtain ⟨i, op, hi, rfl, hoi, hlv, HI⟩ := hrel
          obtain ⟨p11, n11, c11, hu11⟩ := own_shapeN HI.out.2.1.1
          subst hu11
          have hn11 : n11 = op.length := hlv
          have HN11 := Lib.hid hn11
          have hn11i : n11 ≤ i := by omega
          clear hlv hn11
          by_cases hlt2 : i < n8
          · have hd2 : decide ((i : Int) < (n8 : Int)) = true := decide_eq_true (by omega)
            obtain ⟨x, hx⟩ : ∃ x, gp[i]? = some x := ⟨gp[i]'(by have := HN8.out; omega), List.getElem?_eq_getElem _⟩
            obtain ⟨ib, io, hp8, hiblt, hcell⟩ := HGC.out i x hx
            subst hp8
            obtain ⟨x1, S⟩ := x
            obtain ⟨px, cx, hxv⟩ := ints_shape (HGS.out _ (List.mem_of_getElem? hx))
            simp only at hxv
            subst hxv
            obtain ⟨nx, hnx⟩ : ∃ q, q = (intsL (listU S)).length := ⟨_, rfl⟩
            rw [← hnx] at hx hcell
            have HXS := Lib.hid (show SlI wg (.slice px nx cx) (intsL (listU S)) by rw [hnx] at hx ⊢; exact HGS.out _ (List.mem_of_getElem? hx))
            have HXC := Lib.hid fun W (h : Below wg.heap.size wg W) => (show W.cell? ⟨ib, io + i, none⟩ = some (.slice px nx cx) ∧ ib < W.heap.size from ⟨(h.cell (p := ⟨ib, io + i, none⟩) hiblt).trans hcell, Nat.lt_of_lt_of_le hiblt h.size⟩)
            have HGLi := Lib.hid (show GL[i]? = some S from HGI.out i _ hx)
            clear hx hnx hcell hiblt
            go_wp2_with fail
            obtain ⟨wo, hwo⟩ : ∃ x, x = wr := ⟨_, rfl⟩
            subst hwo
            go_loopw [13, 14] (fun lv kv wx => ∃ (k : Nat) (b : Bool), k ≤ n8 ∧ kv = .int .i64 k ∧ lv = .bool b ∧ Hid (b = (GL.take k).all (fun T => T == S || !subB T S) ∧ Below wo.heap.size wo wx)) (fun _ kv _ => n8 - (intOf kv).toNat)
            case atStart => exact ⟨0, true, Nat.zero_le _, rfl, rfl, Lib.hid ⟨rfl, Below.refl _ _⟩⟩
            case round =>
              obtain ⟨k, b, hk, rfl, rfl, HK⟩ := hrel
              by_cases hltk : k < n8
              · have hdk : decide ((k : Int) < (n8 : Int)) = true := decide_eq_true (by omega)
                obtain ⟨y, hy⟩ : ∃ y, gp[k]? = some y := ⟨gp[k]'(by have := HN8.out; omega), List.getElem?_eq_getElem _⟩
                have hlt1 := least_take GL S k (HGI.out k y hy)
                rw [← HK.out.1] at hlt1
                have HLT := Lib.hid hlt1
                have hWW := bel_trans HI.out.2.2 HK.out.2
                have HWW := Lib.hid hWW
                obtain ⟨ib2, io2, hp8, hib2, hcy⟩ := HGC.out k y hy
                simp only [Option.some.injEq, Addr.mk.injEq] at hp8
                obtain ⟨rfl, rfl, -⟩ := hp8
                have HYC := Lib.hid fun W (h : Below wr.heap.size wr W) => (show W.cell? ⟨ib, io + k, none⟩ = some y.1 ∧ ib < W.heap.size from by
                  have hw := bel_trans hWW h
                  exact ⟨(hw.cell (p := ⟨ib, io + k, none⟩) hib2).trans hcy, Nat.lt_of_lt_of_le hib2 hw.size⟩)
                have HYS := Lib.hid (HGS.out y (List.mem_of_getElem? hy))
                have HGLk := Lib.hid (HGI.out k y hy)
                clear hlt1 hWW hib2 hcy hy
                cases b with
                | false =>
                  go_wp2_with fail
                  refine wp_region_val Grows (fun _ _ _ => True) [Is (.bool false), Is (.bool false), AnyV, AnyV, AnyV, Is undef, AnyV, AnyV, AnyV, AnyV, AnyV, AnyV, AnyV, AnyV, AnyV, AnyV, AnyV, Is (.bool false), Is (.bool false)] (by kernel_rfl) (by kernel_rfl) rfl Grows.refl (fun _ _ _ => Grows.trans) (stable_mem ⟨fun _ _ _ h _ => h, fun _ _ _ h _ => h, fun _ _ _ h _ => h, fun _ _ _ h _ => h, fun _ _ _ h _ => h, fun _ _ _ h _ => h, fun _ _ _ h _ => h, fun _ _ _ h _ => h, fun _ _ _ h _ => h, fun _ _ _ h _ => h, fun _ _ _ h _ => h, fun _ _ _ h _ => h, fun _ _ _ h _ => h, fun _ _ _ h _ => h, fun _ _ _ h _ => h, fun _ _ _ h _ => h, fun _ _ _ h _ => h, fun _ _ _ h _ => h, fun _ _ _ h _ => h, trivial⟩) wr (Below.drew (Below.refl _ _)) trivial ?_
                  refine val_cons ?_ (fun v0 => ?_)
                  · intro L vs w1 hvs hat hb hI hF; try simp [factsI, Region.binds, Is] at hF
                    have hc := (Grows.cells hb).1
                    clear hI
                    go_simp
                    try simp [upd]
                    try first | exact Grows.refl _ | exact trivial | exact ⟨Grows.refl _, trivial⟩
                  refine val_cons ?_ (fun v1 => ?_)
                  · intro L vs w1 hvs hat hb hI hF; try simp [factsI, Region.binds, Is] at hF
                    have hc := (Grows.cells hb).1
                    clear hI
                    go_simp
                    try simp [upd]
                    try first | exact Grows.refl _ | exact trivial | exact ⟨Grows.refl _, trivial⟩
                  refine val_cons ?_ (fun v2 => ?_)
                  · intro L vs w1 hvs hat hb hI hF; try simp [factsI, Region.binds, Is] at hF
                    have hc := (Grows.cells hb).1
                    clear hI
                    go_simp
                    try simp [upd]
                    try first | exact Grows.refl _ | exact trivial | exact ⟨Grows.refl _, trivial⟩
                  refine val_cons ?_ (fun v3 => ?_)
                  · intro L vs w1 hvs hat hb hI hF; try simp [factsI, Region.binds, Is] at hF
                    have hc := (Grows.cells hb).1
                    clear hI
                    go_simp
                    try simp [upd]
                    try first | exact Grows.refl _ | exact trivial | exact ⟨Grows.refl _, trivial⟩
                  refine val_cons ?_ (fun v4 => ?_)
                  · intro L vs w1 hvs hat hb hI hF; try simp [factsI, Region.binds, Is] at hF
                    have hc := (Grows.cells hb).1
                    clear hI
                    go_simp
                    try simp [upd]
                    try first | exact Grows.refl _ | exact trivial | exact ⟨Grows.refl _, trivial⟩
                  refine val_cons ?_ (fun v5 => ?_)
                  · intro L vs w1 hvs hat hb hI hF; try simp [factsI, Region.binds, Is] at hF
                    have hc := (Grows.cells hb).1
                    clear hI
                    go_simp
                    try simp [upd]
                    try first | exact Grows.refl _ | exact trivial | exact ⟨Grows.refl _, trivial⟩
                  refine val_cons ?_ (fun v6 => ?_)
                  · intro L vs w1 hvs hat hb hI hF; try simp [factsI, Region.binds, Is] at hF
                    have hc := (Grows.cells hb).1
                    clear hI
                    go_simp
                    try simp [upd]
                    try first | exact Grows.refl _ | exact trivial | exact ⟨Grows.refl _, trivial⟩
                  refine val_cons ?_ (fun v7 => ?_)
                  · intro L vs w1 hvs hat hb hI hF; try simp [factsI, Region.binds, Is] at hF
                    have hc := (Grows.cells hb).1
                    clear hI
                    go_simp
                    try simp [upd]
                    try first | exact Grows.refl _ | exact trivial | exact ⟨Grows.refl _, trivial⟩
                  refine val_cons ?_ (fun v8 => ?_)
                  · intro L vs w1 hvs hat hb hI hF; try simp [factsI, Region.binds, Is] at hF
                    have hc := (Grows.cells hb).1
                    clear hI
                    go_simp
                    try simp [upd]
                    try first | exact Grows.refl _ | exact trivial | exact ⟨Grows.refl _, trivial⟩
                  refine val_cons ?_ (fun v9 => ?_)
                  · intro L vs w1 hvs hat hb hI hF; try simp [factsI, Region.binds, Is] at hF
                    have hc := (Grows.cells hb).1
                    clear hI
                    go_simp
                    try simp [upd]
                    try first | exact Grows.refl _ | exact trivial | exact ⟨Grows.refl _, trivial⟩
                  refine val_cons ?_ (fun v10 => ?_)
                  · intro L vs w1 hvs hat hb hI hF; try simp [factsI, Region.binds, Is] at hF
                    have hc := (Grows.cells hb).1
                    clear hI
                    go_simp
                    try simp [upd]
                    try first | exact Grows.refl _ | exact trivial | exact ⟨Grows.refl _, trivial⟩
                  refine val_cons ?_ (fun v11 => ?_)
                  · intro L vs w1 hvs hat hb hI hF; try simp [factsI, Region.binds, Is] at hF
                    have hc := (Grows.cells hb).1
                    clear hI
                    go_simp
                    try simp [upd]
                    try first | exact Grows.refl _ | exact trivial | exact ⟨Grows.refl _, trivial⟩
                  refine val_cons ?_ (fun v12 => ?_)
                  · intro L vs w1 hvs hat hb hI hF; try simp [factsI, Region.binds, Is] at hF
                    have hc := (Grows.cells hb).1
                    clear hI
                    go_simp
                    try simp [upd]
                    try first | exact Grows.refl _ | exact trivial | exact ⟨Grows.refl _, trivial⟩
                  refine val_cons ?_ (fun v13 => ?_)
                  · intro L vs w1 hvs hat hb hI hF; try simp [factsI, Region.binds, Is] at hF
                    have hc := (Grows.cells hb).1
                    clear hI
                    go_simp
                    try simp [upd]
                    try first | exact Grows.refl _ | exact trivial | exact ⟨Grows.refl _, trivial⟩
                  refine val_cons ?_ (fun v14 => ?_)
                  · intro L vs w1 hvs hat hb hI hF; try simp [factsI, Region.binds, Is] at hF
                    have hc := (Grows.cells hb).1
                    clear hI
                    go_simp
                    try simp [upd]
                    try first | exact Grows.refl _ | exact trivial | exact ⟨Grows.refl _, trivial⟩
                  refine val_cons ?_ (fun v15 => ?_)
                  · intro L vs w1 hvs hat hb hI hF; try simp [factsI, Region.binds, Is] at hF
                    have hc := (Grows.cells hb).1
                    clear hI
                    go_simp
                    try simp [upd]
                    try first | exact Grows.refl _ | exact trivial | exact ⟨Grows.refl _, trivial⟩
                  refine val_cons ?_ (fun v16 => ?_)
                  · intro L vs w1 hvs hat hb hI hF; try simp [factsI, Region.binds, Is] at hF
                    have hc := (Grows.cells hb).1
                    clear hI
                    go_simp
                    try simp [upd]
                    try first | exact Grows.refl _ | exact trivial | exact ⟨Grows.refl _, trivial⟩
                  refine val_cons ?_ (fun v17 => ?_)
                  · intro L vs w1 hvs hat hb hI hF; try simp [factsI, Region.binds, Is] at hF
                    have hc := (Grows.cells hb).1
                    clear hI
                    go_simp
                    try simp [upd]
                    try first | exact Grows.refl _ | exact trivial | exact ⟨Grows.refl _, trivial⟩
                  refine val_cons ?_ (fun v18 => ?_)
                  · intro L vs w1 hvs hat hb hI hF; try simp [factsI, Region.binds, Is] at hF
                    have hc := (Grows.cells hb).1
                    clear hI
                    go_simp
                    try simp [upd]
                    try first | exact Grows.refl _ | exact trivial | exact ⟨Grows.refl _, trivial⟩
                  refine val_nil ?_
                  intro vs w1 hvs hb hI hF
                  simp [Is, Nat.forall_lt_succ_right] at hF
                  have e0 := hF.1.1.1.1.1.1.1.1.1.1.1.1.1.1.1.1.1.1
                  have e1 := hF.1.1.1.1.1.1.1.1.1.1.1.1.1.1.1.1.1.2
                  have e2 := hF.1.1.1.1.1.1.1.1.1.1.1.1.1.1.1.1.2
                  have e3 := hF.1.1.1.1.1.1.1.1.1.1.1.1.1.1.1.2
                  have e4 := hF.1.1.1.1.1.1.1.1.1.1.1.1.1.1.2
                  have e5 := hF.1.1.1.1.1.1.1.1.1.1.1.1.1.2
                  have e6 := hF.1.1.1.1.1.1.1.1.1.1.1.1.2
                  have e7 := hF.1.1.1.1.1.1.1.1.1.1.1.2
                  have e8 := hF.1.1.1.1.1.1.1.1.1.1.2
                  have e9 := hF.1.1.1.1.1.1.1.1.1.2
                  have e10 := hF.1.1.1.1.1.1.1.1.2
                  have e11 := hF.1.1.1.1.1.1.1.2
                  have e12 := hF.1.1.1.1.1.1.2
                  have e13 := hF.1.1.1.1.1.2
                  have e14 := hF.1.1.1.1.2
                  have e15 := hF.1.1.1.2
                  have e16 := hF.1.1.2
                  have e17 := hF.1.2
                  have e18 := hF.2
                  clear hF
                  simp only [Act.put, List.setIfInBounds_toArray, List.set_cons_succ, List.set_cons_zero, e0, e1, e5, e17, e18]
                  clear e0 e1 e5 e17 e18
                  have HZ := Lib.hid (bel_trans HK.out.2 hb)
                  clear hb hI hvs e2 e3 e4 e6 e7 e8 e9 e10 e11 e12 e13 e14 e15 e16
                  go_wp2_with fail
                  refine ⟨⟨k + 1, false, by omega, by simp, rfl, Lib.hid ⟨?_, HZ.out⟩⟩, by simp [intOf]; omega⟩
                  rw [HLT.out]; rfl
                | true =>
                  by_cases hki : k = i
                  · have HE := Lib.hid (show (y.2 == S) = true by
                      have h1 := HGLk.out
                      rw [hki, HGLi.out] at h1
                      rw [Option.some.inj h1]; simp)
                    obtain rfl : k = i := hki
                    go_wp2_with fail
                    refine wp_region_val Grows (fun _ _ _ => True) [Is (.bool true), Is (.bool true), Is (.int .i64 (k : Int)), Is (.int .i64 (k : Int)), Is (.bool true), Is (.bool true), AnyV, AnyV, AnyV, AnyV, AnyV, AnyV, AnyV, AnyV, AnyV, AnyV, Is (.bool true), Is (.bool true), Is (.bool true)] (by kernel_rfl) (by kernel_rfl) rfl Grows.refl (fun _ _ _ => Grows.trans) (stable_mem ⟨fun _ _ _ h _ => h, fun _ _ _ h _ => h, fun _ _ _ h _ => h, fun _ _ _ h _ => h, fun _ _ _ h _ => h, fun _ _ _ h _ => h, fun _ _ _ h _ => h, fun _ _ _ h _ => h, fun _ _ _ h _ => h, fun _ _ _ h _ => h, fun _ _ _ h _ => h, fun _ _ _ h _ => h, fun _ _ _ h _ => h, fun _ _ _ h _ => h, fun _ _ _ h _ => h, fun _ _ _ h _ => h, fun _ _ _ h _ => h, fun _ _ _ h _ => h, fun _ _ _ h _ => h, trivial⟩) wr (Below.drew (Below.refl _ _)) trivial ?_
                    refine val_cons ?_ (fun v0 => ?_)
                    · intro L vs w1 hvs hat hb hI hF; try simp [factsI, Region.binds, Is] at hF
                      have hc := (Grows.cells hb).1
                      clear hI
                      go_simp
                      try simp [upd]
                      try first | exact Grows.refl _ | exact trivial | exact ⟨Grows.refl _, trivial⟩
                    refine val_cons ?_ (fun v1 => ?_)
                    · intro L vs w1 hvs hat hb hI hF; try simp [factsI, Region.binds, Is] at hF
                      have hc := (Grows.cells hb).1
                      clear hI
                      go_simp
                      try simp [upd]
                      try first | exact Grows.refl _ | exact trivial | exact ⟨Grows.refl _, trivial⟩
                    refine val_cons ?_ (fun v2 => ?_)
                    · intro L vs w1 hvs hat hb hI hF; try simp [factsI, Region.binds, Is] at hF
                      have hc := (Grows.cells hb).1
                      clear hI
                      go_simp
                      try simp [upd]
                      try first | exact Grows.refl _ | exact trivial | exact ⟨Grows.refl _, trivial⟩
                    refine val_cons ?_ (fun v3 => ?_)
                    · intro L vs w1 hvs hat hb hI hF; try simp [factsI, Region.binds, Is] at hF
                      have hc := (Grows.cells hb).1
                      clear hI
                      go_simp
                      try simp [upd]
                      try first | exact Grows.refl _ | exact trivial | exact ⟨Grows.refl _, trivial⟩
                    refine val_cons ?_ (fun v4 => ?_)
                    · intro L vs w1 hvs hat hb hI hF; try simp [factsI, Region.binds, Is] at hF
                      have hc := (Grows.cells hb).1
                      clear hI
                      go_simp
                      try simp [upd]
                      try first | exact Grows.refl _ | exact trivial | exact ⟨Grows.refl _, trivial⟩
                    refine val_cons ?_ (fun v5 => ?_)
                    · intro L vs w1 hvs hat hb hI hF; try simp [factsI, Region.binds, Is] at hF
                      have hc := (Grows.cells hb).1
                      clear hI
                      go_simp
                      try simp [upd]
                      try first | exact Grows.refl _ | exact trivial | exact ⟨Grows.refl _, trivial⟩
                    refine val_cons ?_ (fun v6 => ?_)
                    · intro L vs w1 hvs hat hb hI hF; try simp [factsI, Region.binds, Is] at hF
                      have hc := (Grows.cells hb).1
                      clear hI
                      go_simp
                      try simp [upd]
                      try first | exact Grows.refl _ | exact trivial | exact ⟨Grows.refl _, trivial⟩
                    refine val_cons ?_ (fun v7 => ?_)
                    · intro L vs w1 hvs hat hb hI hF; try simp [factsI, Region.binds, Is] at hF
                      have hc := (Grows.cells hb).1
                      clear hI
                      go_simp
                      try simp [upd]
                      try first | exact Grows.refl _ | exact trivial | exact ⟨Grows.refl _, trivial⟩
                    refine val_cons ?_ (fun v8 => ?_)
                    · intro L vs w1 hvs hat hb hI hF; try simp [factsI, Region.binds, Is] at hF
                      have hc := (Grows.cells hb).1
                      clear hI
                      go_simp
                      try simp [upd]
                      try first | exact Grows.refl _ | exact trivial | exact ⟨Grows.refl _, trivial⟩
                    refine val_cons ?_ (fun v9 => ?_)
                    · intro L vs w1 hvs hat hb hI hF; try simp [factsI, Region.binds, Is] at hF
                      have hc := (Grows.cells hb).1
                      clear hI
                      go_simp
                      try simp [upd]
                      try first | exact Grows.refl _ | exact trivial | exact ⟨Grows.refl _, trivial⟩
                    refine val_cons ?_ (fun v10 => ?_)
                    · intro L vs w1 hvs hat hb hI hF; try simp [factsI, Region.binds, Is] at hF
                      have hc := (Grows.cells hb).1
                      clear hI
                      go_simp
                      try simp [upd]
                      try first | exact Grows.refl _ | exact trivial | exact ⟨Grows.refl _, trivial⟩
                    refine val_cons ?_ (fun v11 => ?_)
                    · intro L vs w1 hvs hat hb hI hF; try simp [factsI, Region.binds, Is] at hF
                      have hc := (Grows.cells hb).1
                      clear hI
                      go_simp
                      try simp [upd]
                      try first | exact Grows.refl _ | exact trivial | exact ⟨Grows.refl _, trivial⟩
                    refine val_cons ?_ (fun v12 => ?_)
                    · intro L vs w1 hvs hat hb hI hF; try simp [factsI, Region.binds, Is] at hF
                      have hc := (Grows.cells hb).1
                      clear hI
                      go_simp
                      try simp [upd]
                      try first | exact Grows.refl _ | exact trivial | exact ⟨Grows.refl _, trivial⟩
                    refine val_cons ?_ (fun v13 => ?_)
                    · intro L vs w1 hvs hat hb hI hF; try simp [factsI, Region.binds, Is] at hF
                      have hc := (Grows.cells hb).1
                      clear hI
                      go_simp
                      try simp [upd]
                      try first | exact Grows.refl _ | exact trivial | exact ⟨Grows.refl _, trivial⟩
                    refine val_cons ?_ (fun v14 => ?_)
                    · intro L vs w1 hvs hat hb hI hF; try simp [factsI, Region.binds, Is] at hF
                      have hc := (Grows.cells hb).1
                      clear hI
                      go_simp
                      try simp [upd]
                      try first | exact Grows.refl _ | exact trivial | exact ⟨Grows.refl _, trivial⟩
                    refine val_cons ?_ (fun v15 => ?_)
                    · intro L vs w1 hvs hat hb hI hF; try simp [factsI, Region.binds, Is] at hF
                      have hc := (Grows.cells hb).1
                      clear hI
                      go_simp
                      try simp [upd]
                      try first | exact Grows.refl _ | exact trivial | exact ⟨Grows.refl _, trivial⟩
                    refine val_cons ?_ (fun v16 => ?_)
                    · intro L vs w1 hvs hat hb hI hF; try simp [factsI, Region.binds, Is] at hF
                      have hc := (Grows.cells hb).1
                      clear hI
                      go_simp
                      try simp [upd]
                      try first | exact Grows.refl _ | exact trivial | exact ⟨Grows.refl _, trivial⟩
                    refine val_cons ?_ (fun v17 => ?_)
                    · intro L vs w1 hvs hat hb hI hF; try simp [factsI, Region.binds, Is] at hF
                      have hc := (Grows.cells hb).1
                      clear hI
                      go_simp
                      try simp [upd]
                      try first | exact Grows.refl _ | exact trivial | exact ⟨Grows.refl _, trivial⟩
                    refine val_cons ?_ (fun v18 => ?_)
                    · intro L vs w1 hvs hat hb hI hF; try simp [factsI, Region.binds, Is] at hF
                      have hc := (Grows.cells hb).1
                      clear hI
                      go_simp
                      try simp [upd]
                      try first | exact Grows.refl _ | exact trivial | exact ⟨Grows.refl _, trivial⟩
                    refine val_nil ?_
                    intro vs w1 hvs hb hI hF
                    simp [Is, Nat.forall_lt_succ_right] at hF
                    have e0 := hF.1.1.1.1.1.1.1.1.1.1.1.1.1.1.1.1.1.1
                    have e1 := hF.1.1.1.1.1.1.1.1.1.1.1.1.1.1.1.1.1.2
                    have e2 := hF.1.1.1.1.1.1.1.1.1.1.1.1.1.1.1.1.2
                    have e3 := hF.1.1.1.1.1.1.1.1.1.1.1.1.1.1.1.2
                    have e4 := hF.1.1.1.1.1.1.1.1.1.1.1.1.1.1.2
                    have e5 := hF.1.1.1.1.1.1.1.1.1.1.1.1.1.2
                    have e6 := hF.1.1.1.1.1.1.1.1.1.1.1.1.2
                    have e7 := hF.1.1.1.1.1.1.1.1.1.1.1.2
                    have e8 := hF.1.1.1.1.1.1.1.1.1.1.2
                    have e9 := hF.1.1.1.1.1.1.1.1.1.2
                    have e10 := hF.1.1.1.1.1.1.1.1.2
                    have e11 := hF.1.1.1.1.1.1.1.2
                    have e12 := hF.1.1.1.1.1.1.2
                    have e13 := hF.1.1.1.1.1.2
                    have e14 := hF.1.1.1.1.2
                    have e15 := hF.1.1.1.2
                    have e16 := hF.1.1.2
                    have e17 := hF.1.2
                    have e18 := hF.2
                    clear hF
                    simp only [Act.put, List.setIfInBounds_toArray, List.set_cons_succ, List.set_cons_zero, e0, e1, e2, e3, e4, e5, e16, e17, e18]
                    clear e0 e1 e2 e3 e4 e5 e16 e17 e18
                    have HZ := Lib.hid (bel_trans HK.out.2 hb)
                    clear hb hI hvs e6 e7 e8 e9 e10 e11 e12 e13 e14 e15
                    go_wp2_with fail
                    refine ⟨⟨k + 1, true, by omega, by simp, rfl, Lib.hid ⟨?_, HZ.out⟩⟩, by simp [intOf]; omega⟩
                    rw [HLT.out, HE.out]; rfl
                  · have hkb : ((k : Int) == (i : Int)) = false := by simp; omega
                    have HNE := Lib.hid (show (y.2 == S) = false by
                      rw [beq_eq_false_iff_ne]
                      intro he
                      have h1 := HGLk.out
                      rw [he] at h1
                      exact hki (nodup_at HQ.out.2.2.2.2.2 h1 HGLi.out))
                    obtain ⟨SB, hSB⟩ : ∃ b, b = subB y.2 S := ⟨_, rfl⟩
                    have HPT := Lib.hid fun W (h : Below wr.heap.size wr W) => (by
                      have h2 := part_spec (HYS.out.mono (bel_trans HWW.out h)) (HXS.out.mono (bel_trans HWW.out h))
                      rw [part_sub, ← hSB] at h2
                      exact h2 : Calls Tryz.prog 88 #[y.1, .slice px nx cx] W fun e w' => e = .returned (.bool SB) ∧ w' = W)
                    have HSB := Lib.hid hSB
                    clear hSB hki
                    obtain ⟨y1, T⟩ := y
                    simp only at HYC HPT
                    cases SB with
                    | false =>
                      go_wp2_with fail
                      refine wp_region_val Grows (fun _ _ _ => True) [Is (.bool true), Is (.bool true), Is (.int .i64 (k : Int)), Is (.int .i64 (i : Int)), Is (.bool false), Is (.bool false), Is (.slice (some ⟨ib, io, none⟩) n8 c8), Is (.int .i64 (k : Int)), Is (.pointer (some ⟨ib, io + k, none⟩)), Is y1, Is (.slice (some ⟨ib, io, none⟩) n8 c8), Is (.int .i64 (i : Int)), Is (.pointer (some ⟨ib, io + i, none⟩)), Is (.slice px nx cx), Is (.bool false), Is (.bool true), Is (.bool true), Is (.bool true), Is (.bool true)] (by kernel_rfl) (by kernel_rfl) rfl Grows.refl (fun _ _ _ => Grows.trans) (stable_mem ⟨fun _ _ _ h _ => h, fun _ _ _ h _ => h, fun _ _ _ h _ => h, fun _ _ _ h _ => h, fun _ _ _ h _ => h, fun _ _ _ h _ => h, fun _ _ _ h _ => h, fun _ _ _ h _ => h, fun _ _ _ h _ => h, fun _ _ _ h _ => h, fun _ _ _ h _ => h, fun _ _ _ h _ => h, fun _ _ _ h _ => h, fun _ _ _ h _ => h, fun _ _ _ h _ => h, fun _ _ _ h _ => h, fun _ _ _ h _ => h, fun _ _ _ h _ => h, fun _ _ _ h _ => h, trivial⟩) wr (Below.drew (Below.refl _ _)) trivial ?_
                      refine val_cons ?_ (fun v0 => ?_)
                      · intro L vs w1 hvs hat hb hI hF; try simp [factsI, Region.binds, Is] at hF
                        have hc := (Grows.cells hb).1
                        clear hI
                        go_simp
                        try simp [upd]
                        try first | exact Grows.refl _ | exact trivial | exact ⟨Grows.refl _, trivial⟩
                      refine val_cons ?_ (fun v1 => ?_)
                      · intro L vs w1 hvs hat hb hI hF; try simp [factsI, Region.binds, Is] at hF
                        have hc := (Grows.cells hb).1
                        clear hI
                        go_simp
                        try simp [upd]
                        try first | exact Grows.refl _ | exact trivial | exact ⟨Grows.refl _, trivial⟩
                      refine val_cons ?_ (fun v2 => ?_)
                      · intro L vs w1 hvs hat hb hI hF; try simp [factsI, Region.binds, Is] at hF
                        have hc := (Grows.cells hb).1
                        clear hI
                        go_simp
                        try simp [upd]
                        try first | exact Grows.refl _ | exact trivial | exact ⟨Grows.refl _, trivial⟩
                      refine val_cons ?_ (fun v3 => ?_)
                      · intro L vs w1 hvs hat hb hI hF; try simp [factsI, Region.binds, Is] at hF
                        have hc := (Grows.cells hb).1
                        clear hI
                        go_simp
                        try simp [upd]
                        try first | exact Grows.refl _ | exact trivial | exact ⟨Grows.refl _, trivial⟩
                      refine val_cons ?_ (fun v4 => ?_)
                      · intro L vs w1 hvs hat hb hI hF; try simp [factsI, Region.binds, Is] at hF
                        have hc := (Grows.cells hb).1
                        clear hI
                        go_simp
                        try simp [upd]
                        try first | exact Grows.refl _ | exact trivial | exact ⟨Grows.refl _, trivial⟩
                      refine val_cons ?_ (fun v5 => ?_)
                      · intro L vs w1 hvs hat hb hI hF; try simp [factsI, Region.binds, Is] at hF
                        have hc := (Grows.cells hb).1
                        clear hI
                        go_simp
                        try simp [upd]
                        try first | exact Grows.refl _ | exact trivial | exact ⟨Grows.refl _, trivial⟩
                      refine val_cons ?_ (fun v6 => ?_)
                      · intro L vs w1 hvs hat hb hI hF; try simp [factsI, Region.binds, Is] at hF
                        have hc := (Grows.cells hb).1
                        clear hI
                        go_simp
                        try simp [upd]
                        try first | exact Grows.refl _ | exact trivial | exact ⟨Grows.refl _, trivial⟩
                      refine val_cons ?_ (fun v7 => ?_)
                      · intro L vs w1 hvs hat hb hI hF; try simp [factsI, Region.binds, Is] at hF
                        have hc := (Grows.cells hb).1
                        clear hI
                        go_simp
                        try simp [upd]
                        try first | exact Grows.refl _ | exact trivial | exact ⟨Grows.refl _, trivial⟩
                      refine val_cons ?_ (fun v8 => ?_)
                      · intro L vs w1 hvs hat hb hI hF; try simp [factsI, Region.binds, Is] at hF
                        have hc := (Grows.cells hb).1
                        clear hI
                        go_simp
                        try simp [upd]
                        try first | exact Grows.refl _ | exact trivial | exact ⟨Grows.refl _, trivial⟩
                      refine val_cons ?_ (fun v9 => ?_)
                      · intro L vs w1 hvs hat hb hI hF; try simp [factsI, Region.binds, Is] at hF
                        obtain ⟨cc, l3⟩ := HYC.out w1 hb
                        clear hI
                        go_simp
                        try simp [upd]
                        try exact Grows.refl _
                      refine val_cons ?_ (fun v10 => ?_)
                      · intro L vs w1 hvs hat hb hI hF; try simp [factsI, Region.binds, Is] at hF
                        have hc := (Grows.cells hb).1
                        clear hI
                        go_simp
                        try simp [upd]
                        try first | exact Grows.refl _ | exact trivial | exact ⟨Grows.refl _, trivial⟩
                      refine val_cons ?_ (fun v11 => ?_)
                      · intro L vs w1 hvs hat hb hI hF; try simp [factsI, Region.binds, Is] at hF
                        have hc := (Grows.cells hb).1
                        clear hI
                        go_simp
                        try simp [upd]
                        try first | exact Grows.refl _ | exact trivial | exact ⟨Grows.refl _, trivial⟩
                      refine val_cons ?_ (fun v12 => ?_)
                      · intro L vs w1 hvs hat hb hI hF; try simp [factsI, Region.binds, Is] at hF
                        have hc := (Grows.cells hb).1
                        clear hI
                        go_simp
                        try simp [upd]
                        try first | exact Grows.refl _ | exact trivial | exact ⟨Grows.refl _, trivial⟩
                      refine val_cons ?_ (fun v13 => ?_)
                      · intro L vs w1 hvs hat hb hI hF; try simp [factsI, Region.binds, Is] at hF
                        obtain ⟨cc, l3⟩ := HXC.out w1 (bel_trans HWW.out hb)
                        clear hI
                        go_simp
                        try simp [upd]
                        try exact Grows.refl _
                      refine val_cons ?_ (fun v14 => ?_)
                      · intro L vs w1 hvs hat hb hI hF; try simp [factsI, Region.binds, Is] at hF
                        clear hI
                        go_simp
                        refine (HPT.out w1 hb).mono ?_
                        rintro e w3 ⟨rfl, rfl⟩
                        first | exact ⟨rfl, Grows.refl _⟩ | exact ⟨_, rfl, Grows.refl _, rfl⟩
                      refine val_cons ?_ (fun v15 => ?_)
                      · intro L vs w1 hvs hat hb hI hF; try simp [factsI, Region.binds, Is] at hF
                        have hc := (Grows.cells hb).1
                        clear hI
                        go_simp
                        try simp [upd]
                        try first | exact Grows.refl _ | exact trivial | exact ⟨Grows.refl _, trivial⟩
                      refine val_cons ?_ (fun v16 => ?_)
                      · intro L vs w1 hvs hat hb hI hF; try simp [factsI, Region.binds, Is] at hF
                        have hc := (Grows.cells hb).1
                        clear hI
                        go_simp
                        try simp [upd]
                        try first | exact Grows.refl _ | exact trivial | exact ⟨Grows.refl _, trivial⟩
                      refine val_cons ?_ (fun v17 => ?_)
                      · intro L vs w1 hvs hat hb hI hF; try simp [factsI, Region.binds, Is] at hF
                        have hc := (Grows.cells hb).1
                        clear hI
                        go_simp
                        try simp [upd]
                        try first | exact Grows.refl _ | exact trivial | exact ⟨Grows.refl _, trivial⟩
                      refine val_cons ?_ (fun v18 => ?_)
                      · intro L vs w1 hvs hat hb hI hF; try simp [factsI, Region.binds, Is] at hF
                        have hc := (Grows.cells hb).1
                        clear hI
                        go_simp
                        try simp [upd]
                        try first | exact Grows.refl _ | exact trivial | exact ⟨Grows.refl _, trivial⟩
                      refine val_nil ?_
                      intro vs w1 hvs hb hI hF
                      simp [Is, Nat.forall_lt_succ_right] at hF
                      simp only [Act.put, List.setIfInBounds_toArray, List.set_cons_succ, List.set_cons_zero, hF]
                      clear hF
                      have HZ := Lib.hid (bel_trans HK.out.2 hb)
                      clear hb hI hvs
                      go_wp2_with fail
                      refine ⟨⟨k + 1, true, by omega, by simp, rfl, Lib.hid ⟨?_, HZ.out⟩⟩, by simp [intOf]; omega⟩
                      rw [HLT.out, HNE.out, ← HSB.out]; rfl
                    | true =>
                      go_wp2_with fail
                      refine wp_region_val Grows (fun _ _ _ => True) [Is (.bool true), Is (.bool true), Is (.int .i64 (k : Int)), Is (.int .i64 (i : Int)), Is (.bool false), Is (.bool false), Is (.slice (some ⟨ib, io, none⟩) n8 c8), Is (.int .i64 (k : Int)), Is (.pointer (some ⟨ib, io + k, none⟩)), Is y1, Is (.slice (some ⟨ib, io, none⟩) n8 c8), Is (.int .i64 (i : Int)), Is (.pointer (some ⟨ib, io + i, none⟩)), Is (.slice px nx cx), Is (.bool true), Is (.bool false), Is (.bool false), Is (.bool false), Is (.bool false)] (by kernel_rfl) (by kernel_rfl) rfl Grows.refl (fun _ _ _ => Grows.trans) (stable_mem ⟨fun _ _ _ h _ => h, fun _ _ _ h _ => h, fun _ _ _ h _ => h, fun _ _ _ h _ => h, fun _ _ _ h _ => h, fun _ _ _ h _ => h, fun _ _ _ h _ => h, fun _ _ _ h _ => h, fun _ _ _ h _ => h, fun _ _ _ h _ => h, fun _ _ _ h _ => h, fun _ _ _ h _ => h, fun _ _ _ h _ => h, fun _ _ _ h _ => h, fun _ _ _ h _ => h, fun _ _ _ h _ => h, fun _ _ _ h _ => h, fun _ _ _ h _ => h, fun _ _ _ h _ => h, trivial⟩) wr (Below.drew (Below.refl _ _)) trivial ?_
                      refine val_cons ?_ (fun v0 => ?_)
                      · intro L vs w1 hvs hat hb hI hF; try simp [factsI, Region.binds, Is] at hF
                        have hc := (Grows.cells hb).1
                        clear hI
                        go_simp
                        try simp [upd]
                        try first | exact Grows.refl _ | exact trivial | exact ⟨Grows.refl _, trivial⟩
                      refine val_cons ?_ (fun v1 => ?_)
                      · intro L vs w1 hvs hat hb hI hF; try simp [factsI, Region.binds, Is] at hF
                        have hc := (Grows.cells hb).1
                        clear hI
                        go_simp
                        try simp [upd]
                        try first | exact Grows.refl _ | exact trivial | exact ⟨Grows.refl _, trivial⟩
                      refine val_cons ?_ (fun v2 => ?_)
                      · intro L vs w1 hvs hat hb hI hF; try simp [factsI, Region.binds, Is] at hF
                        have hc := (Grows.cells hb).1
                        clear hI
                        go_simp
                        try simp [upd]
                        try first | exact Grows.refl _ | exact trivial | exact ⟨Grows.refl _, trivial⟩
                      refine val_cons ?_ (fun v3 => ?_)
                      · intro L vs w1 hvs hat hb hI hF; try simp [factsI, Region.binds, Is] at hF
                        have hc := (Grows.cells hb).1
                        clear hI
                        go_simp
                        try simp [upd]
                        try first | exact Grows.refl _ | exact trivial | exact ⟨Grows.refl _, trivial⟩
                      refine val_cons ?_ (fun v4 => ?_)
                      · intro L vs w1 hvs hat hb hI hF; try simp [factsI, Region.binds, Is] at hF
                        have hc := (Grows.cells hb).1
                        clear hI
                        go_simp
                        try simp [upd]
                        try first | exact Grows.refl _ | exact trivial | exact ⟨Grows.refl _, trivial⟩
                      refine val_cons ?_ (fun v5 => ?_)
                      · intro L vs w1 hvs hat hb hI hF; try simp [factsI, Region.binds, Is] at hF
                        have hc := (Grows.cells hb).1
                        clear hI
                        go_simp
                        try simp [upd]
                        try first | exact Grows.refl _ | exact trivial | exact ⟨Grows.refl _, trivial⟩
                      refine val_cons ?_ (fun v6 => ?_)
                      · intro L vs w1 hvs hat hb hI hF; try simp [factsI, Region.binds, Is] at hF
                        have hc := (Grows.cells hb).1
                        clear hI
                        go_simp
                        try simp [upd]
                        try first | exact Grows.refl _ | exact trivial | exact ⟨Grows.refl _, trivial⟩
                      refine val_cons ?_ (fun v7 => ?_)
                      · intro L vs w1 hvs hat hb hI hF; try simp [factsI, Region.binds, Is] at hF
                        have hc := (Grows.cells hb).1
                        clear hI
                        go_simp
                        try simp [upd]
                        try first | exact Grows.refl _ | exact trivial | exact ⟨Grows.refl _, trivial⟩
                      refine val_cons ?_ (fun v8 => ?_)
                      · intro L vs w1 hvs hat hb hI hF; try simp [factsI, Region.binds, Is] at hF
                        have hc := (Grows.cells hb).1
                        clear hI
                        go_simp
                        try simp [upd]
                        try first | exact Grows.refl _ | exact trivial | exact ⟨Grows.refl _, trivial⟩
                      refine val_cons ?_ (fun v9 => ?_)
                      · intro L vs w1 hvs hat hb hI hF; try simp [factsI, Region.binds, Is] at hF
                        obtain ⟨cc, l3⟩ := HYC.out w1 hb
                        clear hI
                        go_simp
                        try simp [upd]
                        try exact Grows.refl _
                      refine val_cons ?_ (fun v10 => ?_)
                      · intro L vs w1 hvs hat hb hI hF; try simp [factsI, Region.binds, Is] at hF
                        have hc := (Grows.cells hb).1
                        clear hI
                        go_simp
                        try simp [upd]
                        try first | exact Grows.refl _ | exact trivial | exact ⟨Grows.refl _, trivial⟩
                      refine val_cons ?_ (fun v11 => ?_)
                      · intro L vs w1 hvs hat hb hI hF; try simp [factsI, Region.binds, Is] at hF
                        have hc := (Grows.cells hb).1
                        clear hI
                        go_simp
                        try simp [upd]
                        try first | exact Grows.refl _ | exact trivial | exact ⟨Grows.refl _, trivial⟩
                      refine val_cons ?_ (fun v12 => ?_)
                      · intro L vs w1 hvs hat hb hI hF; try simp [factsI, Region.binds, Is] at hF
                        have hc := (Grows.cells hb).1
                        clear hI
                        go_simp
                        try simp [upd]
                        try first | exact Grows.refl _ | exact trivial | exact ⟨Grows.refl _, trivial⟩
                      refine val_cons ?_ (fun v13 => ?_)
                      · intro L vs w1 hvs hat hb hI hF; try simp [factsI, Region.binds, Is] at hF
                        obtain ⟨cc, l3⟩ := HXC.out w1 (bel_trans HWW.out hb)
                        clear hI
                        go_simp
                        try simp [upd]
                        try exact Grows.refl _
                      refine val_cons ?_ (fun v14 => ?_)
                      · intro L vs w1 hvs hat hb hI hF; try simp [factsI, Region.binds, Is] at hF
                        clear hI
                        go_simp
                        refine (HPT.out w1 hb).mono ?_
                        rintro e w3 ⟨rfl, rfl⟩
                        first | exact ⟨rfl, Grows.refl _⟩ | exact ⟨_, rfl, Grows.refl _, rfl⟩
                      refine val_cons ?_ (fun v15 => ?_)
                      · intro L vs w1 hvs hat hb hI hF; try simp [factsI, Region.binds, Is] at hF
                        have hc := (Grows.cells hb).1
                        clear hI
                        go_simp
                        try simp [upd]
                        try first | exact Grows.refl _ | exact trivial | exact ⟨Grows.refl _, trivial⟩
                      refine val_cons ?_ (fun v16 => ?_)
                      · intro L vs w1 hvs hat hb hI hF; try simp [factsI, Region.binds, Is] at hF
                        have hc := (Grows.cells hb).1
                        clear hI
                        go_simp
                        try simp [upd]
                        try first | exact Grows.refl _ | exact trivial | exact ⟨Grows.refl _, trivial⟩
                      refine val_cons ?_ (fun v17 => ?_)
                      · intro L vs w1 hvs hat hb hI hF; try simp [factsI, Region.binds, Is] at hF
                        have hc := (Grows.cells hb).1
                        clear hI
                        go_simp
                        try simp [upd]
                        try first | exact Grows.refl _ | exact trivial | exact ⟨Grows.refl _, trivial⟩
                      refine val_cons ?_ (fun v18 => ?_)
                      · intro L vs w1 hvs hat hb hI hF; try simp [factsI, Region.binds, Is] at hF
                        have hc := (Grows.cells hb).1
                        clear hI
                        go_simp
                        try simp [upd]
                        try first | exact Grows.refl _ | exact trivial | exact ⟨Grows.refl _, trivial⟩
                      refine val_nil ?_
                      intro vs w1 hvs hb hI hF
                      simp [Is, Nat.forall_lt_succ_right] at hF
                      simp only [Act.put, List.setIfInBounds_toArray, List.set_cons_succ, List.set_cons_zero, hF]
                      clear hF
                      have HZ := Lib.hid (bel_trans HK.out.2 hb)
                      clear hb hI hvs
                      go_wp2_with fail
                      refine ⟨⟨k + 1, false, by omega, by simp, rfl, Lib.hid ⟨?_, HZ.out⟩⟩, by simp [intOf]; omega⟩
                      rw [HLT.out, HNE.out, ← HSB.out]; rfl
              · have hdk : decide ((k : Int) < (n8 : Int)) = false := decide_eq_false (by omega)
                have HLS := Lib.hid (show b = Go.Draw.leastR GL S by
                  rw [HK.out.1, List.take_of_length_le (by rw [HL8.out]; omega)]; rfl)
                have hft := filter_take (Go.Draw.leastR GL) GL HGLi.out
                rw [← HLS.out] at hft
                have HFT := Lib.hid hft
                clear hft
                have HW := Lib.hid (And.intro (bel_trans HI.out.2.2 HK.out.2) (HI.out.2.1.bel HK.out.2))
                cases b with
                | false =>
                  go_wp2_with fail
                  refine ⟨⟨i + 1, op, by omega, by simp, by omega, HN11.out, Lib.hid ⟨?_, HW.out.2, HW.out.1⟩⟩, by simp [intOf]; omega⟩
                  rw [HFT.out, HI.out.1]; simp
                | true =>
                  go_wp2_with fail
                  obtain ⟨wt, hwt⟩ : ∃ x, x = wr := ⟨_, rfl⟩
                  subst hwt
                  go_loopw [15] (fun av wx => ∃ (a : Nat), a ≤ n11 ∧ av = .int .i64 a ∧ Hid (insR S (op.map (·.2)) = (op.map (·.2)).take a ++ insR S ((op.map (·.2)).drop a) ∧ Below wt.heap.size wt wx)) (fun av _ => n11 - (intOf av).toNat)
                  case atStart => exact ⟨0, Nat.zero_le _, rfl, Lib.hid ⟨by simp, Below.refl _ _⟩⟩
                  case round =>
                    obtain ⟨a, ha, rfl, HA⟩ := hrel
                    have HWB := Lib.hid (And.intro (bel_trans HW.out.1 HA.out.2) (HW.out.2.bel HA.out.2))
                    by_cases halt : a < n11
                    · have hda : decide ((a : Int) < (n11 : Int)) = true := decide_eq_true (by omega)
                      obtain ⟨y, hy⟩ : ∃ y, op[a]? = some y := ⟨op[a]'(by have := HN11.out; omega), List.getElem?_eq_getElem _⟩
                      obtain ⟨ib3, c3, hv3, hlt3, hcy⟩ := pair_cell HWB.out.2.1 (i := a) (x := y.1) (by rw [List.getElem?_map, hy]; rfl)
                      simp only [Value.slice.injEq] at hv3
                      obtain ⟨rfl, -, -⟩ := hv3
                      obtain ⟨BF, hBF⟩ : ∃ b, b = beforeL (listU y.2) (listU S) := ⟨_, rfl⟩
                      have HYS := Lib.hid (HW.out.2.2 y (List.mem_of_getElem? hy))
                      have HYL := Lib.hid (show (op.map (·.2))[a]? = some y.2 by rw [List.getElem?_map, hy]; rfl)
                      have HYC := Lib.hid fun W (h : Below wr.heap.size wr W) => (show W.cell? ⟨ib3, a, none⟩ = some y.1 ∧ ib3 < W.heap.size from ⟨(h.cell (p := ⟨ib3, a, none⟩) hlt3).trans (by rw [← hcy, Nat.zero_add]), Nat.lt_of_lt_of_le hlt3 h.size⟩)
                      have HBE := Lib.hid fun W (h : Below wr.heap.size wr W) => (by
                        have h2 := before_spec (HYS.out.mono (bel_trans HWB.out.1 h)) (HXS.out.mono (bel_trans HWB.out.1 h))
                        rw [← hBF] at h2
                        exact h2 : Calls Tryz.prog 89 #[y.1, .slice px nx cx] W fun e w' => e = .returned (.bool BF) ∧ Below W.heap.size W w')
                      have HBF := Lib.hid hBF
                      obtain ⟨y1, T⟩ := y
                      simp only at HYC HBE HBF HYL
                      clear hcy hlt3 hy hBF
                      cases BF with
                      | true =>
                        go_wp2_with fail
                        refine wp_region_val Grows (fun _ _ _ => True) [Is (.int .i64 (a : Int)), Is (.slice (some ⟨ib3, 0, none⟩) n11 c11), Is (.int .i64 (n11 : Int)), Is (.bool true), Is (.bool true), Is (.slice (some ⟨ib3, 0, none⟩) n11 c11), Is (.int .i64 (a : Int)), Is (.pointer (some ⟨ib3, a, none⟩)), Is y1, Is (.slice (some ⟨ib, io, none⟩) n8 c8), Is (.int .i64 (i : Int)), Is (.pointer (some ⟨ib, io + i, none⟩)), Is (.slice px nx cx), Is (.bool true), Is (.bool true)] (by kernel_rfl) (by kernel_rfl) rfl Grows.refl (fun _ _ _ => Grows.trans) (stable_mem ⟨fun _ _ _ h _ => h, fun _ _ _ h _ => h, fun _ _ _ h _ => h, fun _ _ _ h _ => h, fun _ _ _ h _ => h, fun _ _ _ h _ => h, fun _ _ _ h _ => h, fun _ _ _ h _ => h, fun _ _ _ h _ => h, fun _ _ _ h _ => h, fun _ _ _ h _ => h, fun _ _ _ h _ => h, fun _ _ _ h _ => h, fun _ _ _ h _ => h, fun _ _ _ h _ => h, trivial⟩) wr (Below.drew (Below.refl _ _)) trivial ?_
                        refine val_cons ?_ (fun v0 => ?_)
                        · intro L vs w1 hvs hat hb hI hF; try simp [factsI, Region.binds, Is] at hF
                          have hc := (Grows.cells hb).1
                          clear hI
                          go_simp
                          try simp [upd]
                          try first | exact Grows.refl _ | exact trivial | exact ⟨Grows.refl _, trivial⟩
                        refine val_cons ?_ (fun v1 => ?_)
                        · intro L vs w1 hvs hat hb hI hF; try simp [factsI, Region.binds, Is] at hF
                          have hc := (Grows.cells hb).1
                          clear hI
                          go_simp
                          try simp [upd]
                          try first | exact Grows.refl _ | exact trivial | exact ⟨Grows.refl _, trivial⟩
                        refine val_cons ?_ (fun v2 => ?_)
                        · intro L vs w1 hvs hat hb hI hF; try simp [factsI, Region.binds, Is] at hF
                          have hc := (Grows.cells hb).1
                          clear hI
                          go_simp
                          try simp [upd]
                          try first | exact Grows.refl _ | exact trivial | exact ⟨Grows.refl _, trivial⟩
                        refine val_cons ?_ (fun v3 => ?_)
                        · intro L vs w1 hvs hat hb hI hF; try simp [factsI, Region.binds, Is] at hF
                          have hc := (Grows.cells hb).1
                          clear hI
                          go_simp
                          try simp [upd]
                          try first | exact Grows.refl _ | exact trivial | exact ⟨Grows.refl _, trivial⟩
                        refine val_cons ?_ (fun v4 => ?_)
                        · intro L vs w1 hvs hat hb hI hF; try simp [factsI, Region.binds, Is] at hF
                          have hc := (Grows.cells hb).1
                          clear hI
                          go_simp
                          try simp [upd]
                          try first | exact Grows.refl _ | exact trivial | exact ⟨Grows.refl _, trivial⟩
                        refine val_cons ?_ (fun v5 => ?_)
                        · intro L vs w1 hvs hat hb hI hF; try simp [factsI, Region.binds, Is] at hF
                          have hc := (Grows.cells hb).1
                          clear hI
                          go_simp
                          try simp [upd]
                          try first | exact Grows.refl _ | exact trivial | exact ⟨Grows.refl _, trivial⟩
                        refine val_cons ?_ (fun v6 => ?_)
                        · intro L vs w1 hvs hat hb hI hF; try simp [factsI, Region.binds, Is] at hF
                          have hc := (Grows.cells hb).1
                          clear hI
                          go_simp
                          try simp [upd]
                          try first | exact Grows.refl _ | exact trivial | exact ⟨Grows.refl _, trivial⟩
                        refine val_cons ?_ (fun v7 => ?_)
                        · intro L vs w1 hvs hat hb hI hF; try simp [factsI, Region.binds, Is] at hF
                          have hc := (Grows.cells hb).1
                          clear hI
                          go_simp
                          try simp [upd]
                          try first | exact Grows.refl _ | exact trivial | exact ⟨Grows.refl _, trivial⟩
                        refine val_cons ?_ (fun v8 => ?_)
                        · intro L vs w1 hvs hat hb hI hF; try simp [factsI, Region.binds, Is] at hF
                          obtain ⟨cc, l3⟩ := HYC.out w1 hb
                          clear hI
                          go_simp
                          try simp [upd]
                          try exact Grows.refl _
                        refine val_cons ?_ (fun v9 => ?_)
                        · intro L vs w1 hvs hat hb hI hF; try simp [factsI, Region.binds, Is] at hF
                          have hc := (Grows.cells hb).1
                          clear hI
                          go_simp
                          try simp [upd]
                          try first | exact Grows.refl _ | exact trivial | exact ⟨Grows.refl _, trivial⟩
                        refine val_cons ?_ (fun v10 => ?_)
                        · intro L vs w1 hvs hat hb hI hF; try simp [factsI, Region.binds, Is] at hF
                          have hc := (Grows.cells hb).1
                          clear hI
                          go_simp
                          try simp [upd]
                          try first | exact Grows.refl _ | exact trivial | exact ⟨Grows.refl _, trivial⟩
                        refine val_cons ?_ (fun v11 => ?_)
                        · intro L vs w1 hvs hat hb hI hF; try simp [factsI, Region.binds, Is] at hF
                          have hc := (Grows.cells hb).1
                          clear hI
                          go_simp
                          try simp [upd]
                          try first | exact Grows.refl _ | exact trivial | exact ⟨Grows.refl _, trivial⟩
                        refine val_cons ?_ (fun v12 => ?_)
                        · intro L vs w1 hvs hat hb hI hF; try simp [factsI, Region.binds, Is] at hF
                          obtain ⟨cc, l3⟩ := HXC.out w1 (bel_trans HWB.out.1 hb)
                          clear hI
                          go_simp
                          try simp [upd]
                          try exact Grows.refl _
                        refine val_cons ?_ (fun v13 => ?_)
                        · intro L vs w1 hvs hat hb hI hF; try simp [factsI, Region.binds, Is] at hF
                          clear hI
                          go_simp
                          refine (HBE.out w1 hb).mono ?_
                          rintro e w3 ⟨rfl, hb3⟩
                          first | exact ⟨rfl, hb3⟩ | exact ⟨_, rfl, hb3, rfl⟩
                        refine val_cons ?_ (fun v14 => ?_)
                        · intro L vs w1 hvs hat hb hI hF; try simp [factsI, Region.binds, Is] at hF
                          have hc := (Grows.cells hb).1
                          clear hI
                          go_simp
                          try simp [upd]
                          try first | exact Grows.refl _ | exact trivial | exact ⟨Grows.refl _, trivial⟩
                        refine val_nil ?_
                        intro vs w1 hvs hb hI hF
                        simp [Is, Nat.forall_lt_succ_right] at hF
                        simp only [Act.put, List.setIfInBounds_toArray, List.set_cons_succ, List.set_cons_zero, hF]
                        clear hF
                        have HZ := Lib.hid (bel_trans HA.out.2 hb)
                        clear hb hI hvs
                        go_wp2_with fail
                        refine ⟨⟨a + 1, by omega, by simp, Lib.hid ⟨?_, HZ.out⟩⟩, by simp [intOf]; omega⟩
                        rw [HA.out.1, ins_step HYL.out HBF.out.symm, take_snocL HYL.out, List.append_assoc]; rfl
                      | false =>
                        go_wp2_with fail
                        refine wp_region_val Grows (fun _ _ _ => True) [Is (.int .i64 (a : Int)), Is (.slice (some ⟨ib3, 0, none⟩) n11 c11), Is (.int .i64 (n11 : Int)), Is (.bool true), Is (.bool true), Is (.slice (some ⟨ib3, 0, none⟩) n11 c11), Is (.int .i64 (a : Int)), Is (.pointer (some ⟨ib3, a, none⟩)), Is y1, Is (.slice (some ⟨ib, io, none⟩) n8 c8), Is (.int .i64 (i : Int)), Is (.pointer (some ⟨ib, io + i, none⟩)), Is (.slice px nx cx), Is (.bool false), Is (.bool false)] (by kernel_rfl) (by kernel_rfl) rfl Grows.refl (fun _ _ _ => Grows.trans) (stable_mem ⟨fun _ _ _ h _ => h, fun _ _ _ h _ => h, fun _ _ _ h _ => h, fun _ _ _ h _ => h, fun _ _ _ h _ => h, fun _ _ _ h _ => h, fun _ _ _ h _ => h, fun _ _ _ h _ => h, fun _ _ _ h _ => h, fun _ _ _ h _ => h, fun _ _ _ h _ => h, fun _ _ _ h _ => h, fun _ _ _ h _ => h, fun _ _ _ h _ => h, fun _ _ _ h _ => h, trivial⟩) wr (Below.drew (Below.refl _ _)) trivial ?_
                        refine val_cons ?_ (fun v0 => ?_)
                        · intro L vs w1 hvs hat hb hI hF; try simp [factsI, Region.binds, Is] at hF
                          have hc := (Grows.cells hb).1
                          clear hI
                          go_simp
                          try simp [upd]
                          try first | exact Grows.refl _ | exact trivial | exact ⟨Grows.refl _, trivial⟩
                        refine val_cons ?_ (fun v1 => ?_)
                        · intro L vs w1 hvs hat hb hI hF; try simp [factsI, Region.binds, Is] at hF
                          have hc := (Grows.cells hb).1
                          clear hI
                          go_simp
                          try simp [upd]
                          try first | exact Grows.refl _ | exact trivial | exact ⟨Grows.refl _, trivial⟩
                        refine val_cons ?_ (fun v2 => ?_)
                        · intro L vs w1 hvs hat hb hI hF; try simp [factsI, Region.binds, Is] at hF
                          have hc := (Grows.cells hb).1
                          clear hI
                          go_simp
                          try simp [upd]
                          try first | exact Grows.refl _ | exact trivial | exact ⟨Grows.refl _, trivial⟩
                        refine val_cons ?_ (fun v3 => ?_)
                        · intro L vs w1 hvs hat hb hI hF; try simp [factsI, Region.binds, Is] at hF
                          have hc := (Grows.cells hb).1
                          clear hI
                          go_simp
                          try simp [upd]
                          try first | exact Grows.refl _ | exact trivial | exact ⟨Grows.refl _, trivial⟩
                        refine val_cons ?_ (fun v4 => ?_)
                        · intro L vs w1 hvs hat hb hI hF; try simp [factsI, Region.binds, Is] at hF
                          have hc := (Grows.cells hb).1
                          clear hI
                          go_simp
                          try simp [upd]
                          try first | exact Grows.refl _ | exact trivial | exact ⟨Grows.refl _, trivial⟩
                        refine val_cons ?_ (fun v5 => ?_)
                        · intro L vs w1 hvs hat hb hI hF; try simp [factsI, Region.binds, Is] at hF
                          have hc := (Grows.cells hb).1
                          clear hI
                          go_simp
                          try simp [upd]
                          try first | exact Grows.refl _ | exact trivial | exact ⟨Grows.refl _, trivial⟩
                        refine val_cons ?_ (fun v6 => ?_)
                        · intro L vs w1 hvs hat hb hI hF; try simp [factsI, Region.binds, Is] at hF
                          have hc := (Grows.cells hb).1
                          clear hI
                          go_simp
                          try simp [upd]
                          try first | exact Grows.refl _ | exact trivial | exact ⟨Grows.refl _, trivial⟩
                        refine val_cons ?_ (fun v7 => ?_)
                        · intro L vs w1 hvs hat hb hI hF; try simp [factsI, Region.binds, Is] at hF
                          have hc := (Grows.cells hb).1
                          clear hI
                          go_simp
                          try simp [upd]
                          try first | exact Grows.refl _ | exact trivial | exact ⟨Grows.refl _, trivial⟩
                        refine val_cons ?_ (fun v8 => ?_)
                        · intro L vs w1 hvs hat hb hI hF; try simp [factsI, Region.binds, Is] at hF
                          obtain ⟨cc, l3⟩ := HYC.out w1 hb
                          clear hI
                          go_simp
                          try simp [upd]
                          try exact Grows.refl _
                        refine val_cons ?_ (fun v9 => ?_)
                        · intro L vs w1 hvs hat hb hI hF; try simp [factsI, Region.binds, Is] at hF
                          have hc := (Grows.cells hb).1
                          clear hI
                          go_simp
                          try simp [upd]
                          try first | exact Grows.refl _ | exact trivial | exact ⟨Grows.refl _, trivial⟩
                        refine val_cons ?_ (fun v10 => ?_)
                        · intro L vs w1 hvs hat hb hI hF; try simp [factsI, Region.binds, Is] at hF
                          have hc := (Grows.cells hb).1
                          clear hI
                          go_simp
                          try simp [upd]
                          try first | exact Grows.refl _ | exact trivial | exact ⟨Grows.refl _, trivial⟩
                        refine val_cons ?_ (fun v11 => ?_)
                        · intro L vs w1 hvs hat hb hI hF; try simp [factsI, Region.binds, Is] at hF
                          have hc := (Grows.cells hb).1
                          clear hI
                          go_simp
                          try simp [upd]
                          try first | exact Grows.refl _ | exact trivial | exact ⟨Grows.refl _, trivial⟩
                        refine val_cons ?_ (fun v12 => ?_)
                        · intro L vs w1 hvs hat hb hI hF; try simp [factsI, Region.binds, Is] at hF
                          obtain ⟨cc, l3⟩ := HXC.out w1 (bel_trans HWB.out.1 hb)
                          clear hI
                          go_simp
                          try simp [upd]
                          try exact Grows.refl _
                        refine val_cons ?_ (fun v13 => ?_)
                        · intro L vs w1 hvs hat hb hI hF; try simp [factsI, Region.binds, Is] at hF
                          clear hI
                          go_simp
                          refine (HBE.out w1 hb).mono ?_
                          rintro e w3 ⟨rfl, hb3⟩
                          first | exact ⟨rfl, hb3⟩ | exact ⟨_, rfl, hb3, rfl⟩
                        refine val_cons ?_ (fun v14 => ?_)
                        · intro L vs w1 hvs hat hb hI hF; try simp [factsI, Region.binds, Is] at hF
                          have hc := (Grows.cells hb).1
                          clear hI
                          go_simp
                          try simp [upd]
                          try first | exact Grows.refl _ | exact trivial | exact ⟨Grows.refl _, trivial⟩
                        refine val_nil ?_
                        intro vs w1 hvs hb hI hF
                        simp [Is, Nat.forall_lt_succ_right] at hF
                        simp only [Act.put, List.setIfInBounds_toArray, List.set_cons_succ, List.set_cons_zero, hF]
                        clear hF
                        have HT := Lib.hid (And.intro (bel_trans HWB.out.1 hb) (And.intro (HWB.out.2.bel hb) (show insR S (op.map (·.2)) = (op.map (·.2)).take a ++ S :: (op.map (·.2)).drop a by
                          rw [HA.out.1, ins_stop HYL.out HBF.out.symm])))
                        clear hb hI hvs
                        have HCEL := Lib.hid (show ∀ (j : Nat) (u : Value), (op.map (·.1))[j]? = some u → w1.cell? ⟨ib3, 0 + j, none⟩ = some u ∧ ib3 < w1.heap.size from fun j u hu => by
                          obtain ⟨ib', c, hv, hlt', hc⟩ := pair_cell HT.out.2.1.1 hu
                          simp only [Value.slice.injEq, Option.some.injEq, Addr.mk.injEq] at hv
                          obtain ⟨⟨rfl, -, -⟩, -, -⟩ := hv
                          exact ⟨hc, hlt'⟩)
                        have HNW1 := Lib.hid (show ∀ (j : Nat) (u : Value), ((op.map (·.1)).take a)[j]? = some u → w1.cell? ((⟨ib3, 0, none⟩ : Addr).add j) = some u from fun j u hu => by
                          rw [Go.WideShapes.add_plain]
                          refine (HCEL.out j u ?_).1
                          rw [List.getElem?_take] at hu
                          split at hu
                          · exact hu
                          · cases hu)
                        have HL1 := Lib.hid (show ((op.map (·.1)).take a).length = a * 1 by rw [List.length_take, List.length_map, ← HN11.out]; omega)
                        have HONE := Lib.hid (show ∀ u ∈ op.map (·.1), u.oneCell' = true from fun u hu => by
                          obtain ⟨x, hx, rfl⟩ := List.mem_map.1 hu
                          obtain ⟨b, c, e⟩ := ints_shape (HT.out.2.1.2 x hx)
                          rw [e]; rfl)
                        have hcap : n11 ≤ c11 := by
                          obtain ⟨_, _, he, h1, _⟩ := own_shape' HT.out.2.1.1
                          simp only [Value.slice.injEq] at he
                          have := HN11.out; omega
                        have hn4096 : n11 ≤ 4096 := by omega
                        go_upto_region 28 with (first
                          | (at_builtin; refine wpList_append_own _ rfl _ _ 40 rfl w1.heap.size 23 i0 (.slice none 0 0) 1 24 Tryz.underlying40 HI0.out.1 HI0.out.2.1 HI0.out.2.2.1 HI0.out.2.2.2 rfl (by decide) _ 0 [] rfl (World.ownsRow_nil _ _ _ _) ⟨ib3, 0, none⟩ a _ ((op.map (·.1)).take a) rfl HL1.out HNW1.out (fun u hu => HONE.out u (List.mem_of_mem_take hu)) (by unfold maxLen; omega) (by omega) (Nat.le_refl _) ?_; intro va wa howna hgrowa hnila; have hba := bel_app (bel_refl w1) (World.ownsRow_nil w1 w1.heap.size 23 1) hgrowa; obtain ⟨ca0, cal⟩ := HXC.out wa (bel_trans HT.out.1 hba))
                          | (at_builtin; refine wpList_append_own _ rfl _ _ 40 rfl w1.heap.size 23 i0 (.slice none 0 0) 1 24 Tryz.underlying40 HI0.out.1 HI0.out.2.1 HI0.out.2.2.1 HI0.out.2.2.2 rfl (by decide) _ _ _ rfl (howna.alloc _) ⟨wa.heap.size, 0, none⟩ 1 1 [.slice px nx cx] rfl rfl (cell_one_new _ _ _) (fun x hx => by simp at hx; subst hx; rfl) (by unfold maxLen; omega) (by omega) (by have := hba.size; simp; omega) ?_; intro vb wb2 hownb hgrowb hnilb; have hbb := bel_app (bel_alloc hba _) (howna.alloc _) hgrowb))
                        have HBB := Lib.hid (And.intro hbb hownb)
                        have hbz := hbb.size
                        clear hbb hownb hgrowb hnilb hgrowa hnila howna hba ca0 cal
                        have hend : ∀ vc wc, wc.ownsRow w1.heap.size 23 1 vc (0 + a + 1 + (n11 - a)) ([] ++ (op.map (·.1)).take a ++ [.slice px nx cx] ++ (op.map (·.1)).drop a) → Below w1.heap.size w1 wc → lenV vc = (op.take a ++ [(Value.slice px nx cx, S)] ++ op.drop a).length ∧ (op.take a ++ [(Value.slice px nx cx, S)] ++ op.drop a).length ≤ i + 1 ∧ Hid ((op.take a ++ [(Value.slice px nx cx, S)] ++ op.drop a).map (·.2) = ((GL.take (i + 1)).filter (Go.Draw.leastR GL)).foldl (fun o x => insR x o) [] ∧ PairS wg wc vc (op.take a ++ [(Value.slice px nx cx, S)] ++ op.drop a) ∧ Below wg.heap.size wg wc) := by
                          intro vc wc hown hb
                          have hlen : (op.take a ++ [(Value.slice px nx cx, S)] ++ op.drop a).length = 0 + a + 1 + (n11 - a) := by
                            simp only [List.length_append, List.length_take, List.length_drop, List.length_cons, List.length_nil, ← HN11.out]; omega
                          refine ⟨?_, by rw [hlen]; omega, Lib.hid ⟨?_, ⟨?_, ?_⟩, bel_trans HT.out.1 hb⟩⟩
                          · obtain ⟨_, _, he, _⟩ := own_shape' hown
                            rw [hlen, he]; rfl
                          · rw [HFT.out, List.foldl_append, ← HI.out.1]
                            show _ = insR S (op.map (·.2))
                            rw [HT.out.2.2]; simp [List.map_take, List.map_drop]
                          · rw [hlen]
                            have e : (op.take a ++ [(Value.slice px nx cx, S)] ++ op.drop a).map (·.1) = [] ++ (op.map (·.1)).take a ++ [.slice px nx cx] ++ (op.map (·.1)).drop a := by simp [List.map_take, List.map_drop]
                            rw [e]; exact own_weak hown HT.out.1.size
                          · intro z hz
                            rcases List.mem_append.1 hz with hz | hz
                            · rcases List.mem_append.1 hz with hz | hz
                              · exact HT.out.2.1.2 z (List.mem_of_mem_take hz)
                              · rw [List.mem_singleton.1 hz]; exact HXS.out
                            · exact HT.out.2.1.2 z (List.mem_of_mem_drop hz)
                        have HEND := Lib.hid hend
                        clear hend
                        by_cases hca : c11 = a
                        · obtain rfl : c11 = a := hca
                          obtain rfl : n11 = c11 := by omega
                          go_wp2_with (first
                            | (at_builtin; refine wpList_append_own _ rfl _ _ 40 rfl w1.heap.size 23 i0 (.slice none 0 0) 1 24 Tryz.underlying40 HI0.out.1 HI0.out.2.1 HI0.out.2.2.1 HI0.out.2.2.2 rfl (by decide) _ _ _ rfl HBB.out.2 ⟨ib3, 0, none⟩ 0 _ [] rfl rfl (fun j u hu => by simp at hu) (fun u hu => by cases hu) (by unfold maxLen; omega) (by omega) hbz ?_; intro vc wc hownc hgrowc hnilc; have hbc := bel_app HBB.out.1 HBB.out.2 hgrowc))
                          obtain ⟨e1, e2, e3⟩ := HEND.out vc wc (by
                            have : (op.map (·.1)).drop n11 = [] := List.drop_eq_nil_of_le (by rw [List.length_map, ← HN11.out]; exact Nat.le_refl _)
                            rw [this, Nat.sub_self]; simpa using hownc) hbc
                          refine ⟨⟨i + 1, _, by omega, by simp, e2, e1, e3⟩, by simp [intOf]; omega⟩
                        · have hca' : ¬ (c11 = a) := hca
                          have HNW3 := Lib.hid (show ∀ (j : Nat) (u : Value), ((op.map (·.1)).drop a)[j]? = some u → wb2.cell? ((⟨ib3, a, none⟩ : Addr).add j) = some u from fun j u hu => by
                            rw [List.getElem?_drop] at hu
                            obtain ⟨h1, h2⟩ := HCEL.out _ u hu
                            rw [Go.WideShapes.add_plain, HBB.out.1.cell (p := ⟨ib3, _, none⟩) h2, show a + j = 0 + (a + j) by omega]
                            exact h1)
                          have HL3 := Lib.hid (show ((op.map (·.1)).drop a).length = (n11 - a) * 1 by rw [List.length_drop, List.length_map, ← HN11.out, Nat.mul_one])
                          go_wp2_with (first
                            | (at_builtin; refine wpList_append_own _ rfl _ _ 40 rfl w1.heap.size 23 i0 (.slice none 0 0) 1 24 Tryz.underlying40 HI0.out.1 HI0.out.2.1 HI0.out.2.2.1 HI0.out.2.2.2 rfl (by decide) _ _ _ rfl HBB.out.2 ⟨ib3, a, none⟩ (n11 - a) _ ((op.map (·.1)).drop a) rfl HL3.out HNW3.out (fun u hu => HONE.out u (List.mem_of_mem_drop hu)) (by unfold maxLen; omega) (by omega) hbz ?_; intro vc wc hownc hgrowc hnilc; have hbc := bel_app HBB.out.1 HBB.out.2 hgrowc))
                          obtain ⟨e1, e2, e3⟩ := HEND.out vc wc hownc hbc
                          refine ⟨⟨i + 1, _, by omega, by simp, e2, e1, e3⟩, by simp [intOf]; omega⟩
                    · have hda : decide ((a : Int) < (n11 : Int)) = false := decide_eq_false (by omega)
                      go_wp2_with fail
                      refine wp_region_val Grows (fun _ _ _ => True) [Is (.int .i64 (a : Int)), Is (.slice p11 n11 c11), Is (.int .i64 (n11 : Int)), Is (.bool false), Is (.bool false), AnyV, AnyV, AnyV, AnyV, AnyV, AnyV, AnyV, AnyV, AnyV, Is (.bool false)] (by kernel_rfl) (by kernel_rfl) rfl Grows.refl (fun _ _ _ => Grows.trans) (stable_mem ⟨fun _ _ _ h _ => h, fun _ _ _ h _ => h, fun _ _ _ h _ => h, fun _ _ _ h _ => h, fun _ _ _ h _ => h, fun _ _ _ h _ => h, fun _ _ _ h _ => h, fun _ _ _ h _ => h, fun _ _ _ h _ => h, fun _ _ _ h _ => h, fun _ _ _ h _ => h, fun _ _ _ h _ => h, fun _ _ _ h _ => h, fun _ _ _ h _ => h, fun _ _ _ h _ => h, trivial⟩) wr (Below.drew (Below.refl _ _)) trivial ?_
                      refine val_cons ?_ (fun v0 => ?_)
                      · intro L vs w1 hvs hat hb hI hF; try simp [factsI, Region.binds, Is] at hF
                        have hc := (Grows.cells hb).1
                        clear hI
                        go_simp
                        try simp [upd]
                        try first | exact Grows.refl _ | exact trivial | exact ⟨Grows.refl _, trivial⟩
                      refine val_cons ?_ (fun v1 => ?_)
                      · intro L vs w1 hvs hat hb hI hF; try simp [factsI, Region.binds, Is] at hF
                        have hc := (Grows.cells hb).1
                        clear hI
                        go_simp
                        try simp [upd]
                        try first | exact Grows.refl _ | exact trivial | exact ⟨Grows.refl _, trivial⟩
                      refine val_cons ?_ (fun v2 => ?_)
                      · intro L vs w1 hvs hat hb hI hF; try simp [factsI, Region.binds, Is] at hF
                        have hc := (Grows.cells hb).1
                        clear hI
                        go_simp
                        try simp [upd]
                        try first | exact Grows.refl _ | exact trivial | exact ⟨Grows.refl _, trivial⟩
                      refine val_cons ?_ (fun v3 => ?_)
                      · intro L vs w1 hvs hat hb hI hF; try simp [factsI, Region.binds, Is] at hF
                        have hc := (Grows.cells hb).1
                        clear hI
                        go_simp
                        try simp [upd]
                        try first | exact Grows.refl _ | exact trivial | exact ⟨Grows.refl _, trivial⟩
                      refine val_cons ?_ (fun v4 => ?_)
                      · intro L vs w1 hvs hat hb hI hF; try simp [factsI, Region.binds, Is] at hF
                        have hc := (Grows.cells hb).1
                        clear hI
                        go_simp
                        try simp [upd]
                        try first | exact Grows.refl _ | exact trivial | exact ⟨Grows.refl _, trivial⟩
                      refine val_cons ?_ (fun v5 => ?_)
                      · intro L vs w1 hvs hat hb hI hF; try simp [factsI, Region.binds, Is] at hF
                        have hc := (Grows.cells hb).1
                        clear hI
                        go_simp
                        try simp [upd]
                        try first | exact Grows.refl _ | exact trivial | exact ⟨Grows.refl _, trivial⟩
                      refine val_cons ?_ (fun v6 => ?_)
                      · intro L vs w1 hvs hat hb hI hF; try simp [factsI, Region.binds, Is] at hF
                        have hc := (Grows.cells hb).1
                        clear hI
                        go_simp
                        try simp [upd]
                        try first | exact Grows.refl _ | exact trivial | exact ⟨Grows.refl _, trivial⟩
                      refine val_cons ?_ (fun v7 => ?_)
                      · intro L vs w1 hvs hat hb hI hF; try simp [factsI, Region.binds, Is] at hF
                        have hc := (Grows.cells hb).1
                        clear hI
                        go_simp
                        try simp [upd]
                        try first | exact Grows.refl _ | exact trivial | exact ⟨Grows.refl _, trivial⟩
                      refine val_cons ?_ (fun v8 => ?_)
                      · intro L vs w1 hvs hat hb hI hF; try simp [factsI, Region.binds, Is] at hF
                        have hc := (Grows.cells hb).1
                        clear hI
                        go_simp
                        try simp [upd]
                        try first | exact Grows.refl _ | exact trivial | exact ⟨Grows.refl _, trivial⟩
                      refine val_cons ?_ (fun v9 => ?_)
                      · intro L vs w1 hvs hat hb hI hF; try simp [factsI, Region.binds, Is] at hF
                        have hc := (Grows.cells hb).1
                        clear hI
                        go_simp
                        try simp [upd]
                        try first | exact Grows.refl _ | exact trivial | exact ⟨Grows.refl _, trivial⟩
                      refine val_cons ?_ (fun v10 => ?_)
                      · intro L vs w1 hvs hat hb hI hF; try simp [factsI, Region.binds, Is] at hF
                        have hc := (Grows.cells hb).1
                        clear hI
                        go_simp
                        try simp [upd]
                        try first | exact Grows.refl _ | exact trivial | exact ⟨Grows.refl _, trivial⟩
                      refine val_cons ?_ (fun v11 => ?_)
                      · intro L vs w1 hvs hat hb hI hF; try simp [factsI, Region.binds, Is] at hF
                        have hc := (Grows.cells hb).1
                        clear hI
                        go_simp
                        try simp [upd]
                        try first | exact Grows.refl _ | exact trivial | exact ⟨Grows.refl _, trivial⟩
                      refine val_cons ?_ (fun v12 => ?_)
                      · intro L vs w1 hvs hat hb hI hF; try simp [factsI, Region.binds, Is] at hF
                        have hc := (Grows.cells hb).1
                        clear hI
                        go_simp
                        try simp [upd]
                        try first | exact Grows.refl _ | exact trivial | exact ⟨Grows.refl _, trivial⟩
                      refine val_cons ?_ (fun v13 => ?_)
                      · intro L vs w1 hvs hat hb hI hF; try simp [factsI, Region.binds, Is] at hF
                        have hc := (Grows.cells hb).1
                        clear hI
                        go_simp
                        try simp [upd]
                        try first | exact Grows.refl _ | exact trivial | exact ⟨Grows.refl _, trivial⟩
                      refine val_cons ?_ (fun v14 => ?_)
                      · intro L vs w1 hvs hat hb hI hF; try simp [factsI, Region.binds, Is] at hF
                        have hc := (Grows.cells hb).1
                        clear hI
                        go_simp
                        try simp [upd]
                        try first | exact Grows.refl _ | exact trivial | exact ⟨Grows.refl _, trivial⟩
                      refine val_nil ?_
                      intro vs w1 hvs hb hI hF
                      simp [Is, Nat.forall_lt_succ_right] at hF
                      have e0 := hF.1.1.1.1.1.1.1.1.1.1.1.1.1.1
                      have e1 := hF.1.1.1.1.1.1.1.1.1.1.1.1.1.2
                      have e2 := hF.1.1.1.1.1.1.1.1.1.1.1.1.2
                      have e3 := hF.1.1.1.1.1.1.1.1.1.1.1.2
                      have e4 := hF.1.1.1.1.1.1.1.1.1.1.2
                      have e5 := hF.1.1.1.1.1.1.1.1.1.2
                      have e6 := hF.1.1.1.1.1.1.1.1.2
                      have e7 := hF.1.1.1.1.1.1.1.2
                      have e8 := hF.1.1.1.1.1.1.2
                      have e9 := hF.1.1.1.1.1.2
                      have e10 := hF.1.1.1.1.2
                      have e11 := hF.1.1.1.2
                      have e12 := hF.1.1.2
                      have e13 := hF.1.2
                      have e14 := hF.2
                      clear hF
                      simp only [Act.put, List.setIfInBounds_toArray, List.set_cons_succ, List.set_cons_zero, e0, e1, e2, e3, e4, e14]
                      clear e0 e1 e2 e3 e4 e14
                      have HT := Lib.hid (And.intro (bel_trans HWB.out.1 hb) (And.intro (HWB.out.2.bel hb) (show insR S (op.map (·.2)) = (op.map (·.2)).take a ++ S :: (op.map (·.2)).drop a by
                        rw [HA.out.1, ins_end (by rw [List.length_map, ← HN11.out]; omega)])))
                      clear hb hI hvs e5 e6 e7 e8 e9 e10 e11 e12 e13
                      cases p11 with
                      | none =>
                        obtain ⟨rfl, rfl⟩ : n11 = 0 ∧ c11 = 0 := by
                          rcases HT.out.2.1.1.2 with ⟨h, _⟩ | ⟨_, _, _, h, _⟩
                          · simp only [Value.slice.injEq] at h; exact ⟨h.2.1, h.2.2⟩
                          · simp only [Value.slice.injEq] at h; cases h.1
                        have hop0 : op = [] := List.eq_nil_of_length_eq_zero HN11.out.symm
                        obtain ⟨ca0, cal⟩ := HXC.out w1 HT.out.1
                        obtain rfl : a = 0 := by omega
                        go_wp2_with (first
                          | (at_builtin; refine wpList_append_own_none rfl _ _ 40 rfl w1.heap.size 23 i0 1 Tryz.underlying40 HI0.out.1 _ 0 [] rfl (World.ownsRow_nil _ _ _ _) rfl ?_)
                          | (at_builtin; refine wpList_append_own _ rfl _ _ 40 rfl w1.heap.size 23 i0 (.slice none 0 0) 1 24 Tryz.underlying40 HI0.out.1 HI0.out.2.1 HI0.out.2.2.1 HI0.out.2.2.2 rfl (by decide) _ 0 [] rfl (World.ownsRow_nil _ _ _ _) ⟨w1.heap.size, 0, none⟩ 1 1 [.slice px nx cx] rfl rfl (cell_one_new _ _ _) (fun x hx => by simp at hx; subst hx; rfl) (by unfold maxLen; omega) (by omega) (by simp) ?_; intro vb wb2 hownb hgrowb hnilb; have hbb := bel_app (bel_alloc (bel_refl w1) _) (World.ownsRow_nil (w1.alloc (.cells #[.slice px nx cx] 23)) w1.heap.size 23 1) hgrowb)
                          | (at_builtin; refine wpList_append_own_none rfl _ _ 40 rfl w1.heap.size 23 i0 1 Tryz.underlying40 HI0.out.1 _ _ _ rfl hownb rfl ?_))
                        refine ⟨⟨i + 1, [(Value.slice px nx cx, S)], by omega, by simp, by simp, ?_, Lib.hid ⟨?_, ⟨own_weak hownb HT.out.1.size, fun z hz => by rw [List.mem_singleton.1 hz]; exact HXS.out⟩, bel_trans HT.out.1 hbb⟩⟩, by simp [intOf]; omega⟩
                        · obtain ⟨_, _, he, _⟩ := own_shape' hownb
                          rw [he]; rfl
                        · rw [HFT.out, List.foldl_append, ← HI.out.1, hop0]; rfl
                      | some q11 =>
                        obtain ⟨ib3, hq⟩ : ∃ ib, q11 = ⟨ib, 0, none⟩ := by
                          rcases HT.out.2.1.1.2 with ⟨h, _⟩ | ⟨g3, _, _, h, _⟩
                          · simp only [Value.slice.injEq] at h; cases h.1
                          · simp only [Value.slice.injEq, Option.some.injEq] at h; exact ⟨g3, h.1⟩
                        subst hq
                        have HCEL := Lib.hid (show ∀ (j : Nat) (u : Value), (op.map (·.1))[j]? = some u → w1.cell? ⟨ib3, 0 + j, none⟩ = some u ∧ ib3 < w1.heap.size from fun j u hu => by
                          obtain ⟨ib', c, hv, hlt', hc⟩ := pair_cell HT.out.2.1.1 hu
                          simp only [Value.slice.injEq, Option.some.injEq, Addr.mk.injEq] at hv
                          obtain ⟨⟨rfl, -, -⟩, -, -⟩ := hv
                          exact ⟨hc, hlt'⟩)
                        have HNW1 := Lib.hid (show ∀ (j : Nat) (u : Value), ((op.map (·.1)).take a)[j]? = some u → w1.cell? ((⟨ib3, 0, none⟩ : Addr).add j) = some u from fun j u hu => by
                          rw [Go.WideShapes.add_plain]
                          refine (HCEL.out j u ?_).1
                          rw [List.getElem?_take] at hu
                          split at hu
                          · exact hu
                          · cases hu)
                        have HL1 := Lib.hid (show ((op.map (·.1)).take a).length = a * 1 by rw [List.length_take, List.length_map, ← HN11.out]; omega)
                        have HONE := Lib.hid (show ∀ u ∈ op.map (·.1), u.oneCell' = true from fun u hu => by
                          obtain ⟨x, hx, rfl⟩ := List.mem_map.1 hu
                          obtain ⟨b, c, e⟩ := ints_shape (HT.out.2.1.2 x hx)
                          rw [e]; rfl)
                        have hcap : n11 ≤ c11 := by
                          obtain ⟨_, _, he, h1, _⟩ := own_shape' HT.out.2.1.1
                          simp only [Value.slice.injEq] at he
                          have := HN11.out; omega
                        have hn4096 : n11 ≤ 4096 := by omega
                        go_upto_region 28 with (first
                          | (at_builtin; refine wpList_append_own _ rfl _ _ 40 rfl w1.heap.size 23 i0 (.slice none 0 0) 1 24 Tryz.underlying40 HI0.out.1 HI0.out.2.1 HI0.out.2.2.1 HI0.out.2.2.2 rfl (by decide) _ 0 [] rfl (World.ownsRow_nil _ _ _ _) ⟨ib3, 0, none⟩ a _ ((op.map (·.1)).take a) rfl HL1.out HNW1.out (fun u hu => HONE.out u (List.mem_of_mem_take hu)) (by unfold maxLen; omega) (by omega) (Nat.le_refl _) ?_; intro va wa howna hgrowa hnila; have hba := bel_app (bel_refl w1) (World.ownsRow_nil w1 w1.heap.size 23 1) hgrowa; obtain ⟨ca0, cal⟩ := HXC.out wa (bel_trans HT.out.1 hba))
                          | (at_builtin; refine wpList_append_own _ rfl _ _ 40 rfl w1.heap.size 23 i0 (.slice none 0 0) 1 24 Tryz.underlying40 HI0.out.1 HI0.out.2.1 HI0.out.2.2.1 HI0.out.2.2.2 rfl (by decide) _ _ _ rfl (howna.alloc _) ⟨wa.heap.size, 0, none⟩ 1 1 [.slice px nx cx] rfl rfl (cell_one_new _ _ _) (fun x hx => by simp at hx; subst hx; rfl) (by unfold maxLen; omega) (by omega) (by have := hba.size; simp; omega) ?_; intro vb wb2 hownb hgrowb hnilb; have hbb := bel_app (bel_alloc hba _) (howna.alloc _) hgrowb))
                        have HBB := Lib.hid (And.intro hbb hownb)
                        have hbz := hbb.size
                        clear hbb hownb hgrowb hnilb hgrowa hnila howna hba ca0 cal
                        have hend : ∀ vc wc, wc.ownsRow w1.heap.size 23 1 vc (0 + a + 1 + (n11 - a)) ([] ++ (op.map (·.1)).take a ++ [.slice px nx cx] ++ (op.map (·.1)).drop a) → Below w1.heap.size w1 wc → lenV vc = (op.take a ++ [(Value.slice px nx cx, S)] ++ op.drop a).length ∧ (op.take a ++ [(Value.slice px nx cx, S)] ++ op.drop a).length ≤ i + 1 ∧ Hid ((op.take a ++ [(Value.slice px nx cx, S)] ++ op.drop a).map (·.2) = ((GL.take (i + 1)).filter (Go.Draw.leastR GL)).foldl (fun o x => insR x o) [] ∧ PairS wg wc vc (op.take a ++ [(Value.slice px nx cx, S)] ++ op.drop a) ∧ Below wg.heap.size wg wc) := by
                          intro vc wc hown hb
                          have hlen : (op.take a ++ [(Value.slice px nx cx, S)] ++ op.drop a).length = 0 + a + 1 + (n11 - a) := by
                            simp only [List.length_append, List.length_take, List.length_drop, List.length_cons, List.length_nil, ← HN11.out]; omega
                          refine ⟨?_, by rw [hlen]; omega, Lib.hid ⟨?_, ⟨?_, ?_⟩, bel_trans HT.out.1 hb⟩⟩
                          · obtain ⟨_, _, he, _⟩ := own_shape' hown
                            rw [hlen, he]; rfl
                          · rw [HFT.out, List.foldl_append, ← HI.out.1]
                            show _ = insR S (op.map (·.2))
                            rw [HT.out.2.2]; simp [List.map_take, List.map_drop]
                          · rw [hlen]
                            have e : (op.take a ++ [(Value.slice px nx cx, S)] ++ op.drop a).map (·.1) = [] ++ (op.map (·.1)).take a ++ [.slice px nx cx] ++ (op.map (·.1)).drop a := by simp [List.map_take, List.map_drop]
                            rw [e]; exact own_weak hown HT.out.1.size
                          · intro z hz
                            rcases List.mem_append.1 hz with hz | hz
                            · rcases List.mem_append.1 hz with hz | hz
                              · exact HT.out.2.1.2 z (List.mem_of_mem_take hz)
                              · rw [List.mem_singleton.1 hz]; exact HXS.out
                            · exact HT.out.2.1.2 z (List.mem_of_mem_drop hz)
                        have HEND := Lib.hid hend
                        clear hend
                        by_cases hca : c11 = a
                        · obtain rfl : c11 = a := hca
                          obtain rfl : n11 = c11 := by omega
                          go_wp2_with (first
                            | (at_builtin; refine wpList_append_own _ rfl _ _ 40 rfl w1.heap.size 23 i0 (.slice none 0 0) 1 24 Tryz.underlying40 HI0.out.1 HI0.out.2.1 HI0.out.2.2.1 HI0.out.2.2.2 rfl (by decide) _ _ _ rfl HBB.out.2 ⟨ib3, 0, none⟩ 0 _ [] rfl rfl (fun j u hu => by simp at hu) (fun u hu => by cases hu) (by unfold maxLen; omega) (by omega) hbz ?_; intro vc wc hownc hgrowc hnilc; have hbc := bel_app HBB.out.1 HBB.out.2 hgrowc))
                          obtain ⟨e1, e2, e3⟩ := HEND.out vc wc (by
                            have : (op.map (·.1)).drop n11 = [] := List.drop_eq_nil_of_le (by rw [List.length_map, ← HN11.out]; exact Nat.le_refl _)
                            rw [this, Nat.sub_self]; simpa using hownc) hbc
                          refine ⟨⟨i + 1, _, by omega, by simp, e2, e1, e3⟩, by simp [intOf]; omega⟩
                        · have hca' : ¬ (c11 = a) := hca
                          have HNW3 := Lib.hid (show ∀ (j : Nat) (u : Value), ((op.map (·.1)).drop a)[j]? = some u → wb2.cell? ((⟨ib3, a, none⟩ : Addr).add j) = some u from fun j u hu => by
                            rw [List.getElem?_drop] at hu
                            obtain ⟨h1, h2⟩ := HCEL.out _ u hu
                            rw [Go.WideShapes.add_plain, HBB.out.1.cell (p := ⟨ib3, _, none⟩) h2, show a + j = 0 + (a + j) by omega]
                            exact h1)
                          have HL3 := Lib.hid (show ((op.map (·.1)).drop a).length = (n11 - a) * 1 by rw [List.length_drop, List.length_map, ← HN11.out, Nat.mul_one])
                          go_wp2_with (first
                            | (at_builtin; refine wpList_append_own _ rfl _ _ 40 rfl w1.heap.size 23 i0 (.slice none 0 0) 1 24 Tryz.underlying40 HI0.out.1 HI0.out.2.1 HI0.out.2.2.1 HI0.out.2.2.2 rfl (by decide) _ _ _ rfl HBB.out.2 ⟨ib3, a, none⟩ (n11 - a) _ ((op.map (·.1)).drop a) rfl HL3.out HNW3.out (fun u hu => HONE.out u (List.mem_of_mem_drop hu)) (by unfold maxLen; omega) (by omega) hbz ?_; intro vc wc hownc hgrowc hnilc; have hbc := bel_app HBB.out.1 HBB.out.2 hgrowc))
                          obtain ⟨e1, e2, e3⟩ := HEND.out vc wc hownc hbc
                          refine ⟨⟨i + 1, _, by omega, by simp, e2, e1, e3⟩, by simp [intOf]; omega⟩
          · have hd2 : decide ((i : Int) < (n8 : Int)) = false := decide_eq_false (by omega)
            have hfin := HI.out.1
            rw [List.take_of_length_le (by rw [HL8.out]; omega)] at hfin
            have HFI := Lib.hid (show SlLL wr (.slice p11 n11 c11) R by
              rw [HQ.out.2.2.2.1, ← hfin, List.map_map]
              exact HI.out.2.1.sll HI.out.2.2)
            clear hfin
            go_wp2_with fail
            go_ret2
            exact ⟨_, rfl, HFI.out, bel_trans H5.out.1 (HBG.out.trans (HI.out.2.2.mono HBG.out.size))⟩
  · have h1 : ¬ (F = 0) := hF0
    go_wp2_with fail
    refine bodyPost_ret (v := .tuple #[.slice none 0 0, .int .i64 F]) (by simp [results, Tryz.results23, go_sem]) rfl ⟨.slice none 0 0, rfl, ?_, HB.out⟩
    rw [HH.out.2.1, if_neg hF0]; exact slLL_nil
end Go.Proofs.YtlbhjikkpbknnaaGreatDoor
end
