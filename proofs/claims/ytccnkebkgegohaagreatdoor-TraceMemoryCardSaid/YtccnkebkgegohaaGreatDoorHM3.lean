import Derived.Test.YtccnkebkgegohaaGreatDoorHZ7
/-
  Given contracts of functions of the program, and laws for them, one behind the other.
-/
set_option linter.unusedVariables false
set_option linter.unusedSimpArgs false
set_option linter.unusedSectionVars false
section
namespace Go.Proofs.YtccnkebkgegohaaGreatDoor
open Go.RowKit Go.Rel
set_option maxRecDepth 100000
set_option maxHeartbeats 8000000 in
theorem TraceMemory_many (b : Sol) (p0 q0 : Option Addr) (n0 c0 k0 d0 : Nat) (a : Ac) (w : World) (hm : many k0 n0 = true) (HAL : AliveH w) :
  Calls Tryz.prog 16 #[.agg #[.int .u64 (pl b 0), .int .u64 (pl b 1), .int .u64 (pl b 2), .int .u64 (pl b 3), .int .u64 (pl b 4), .int .u64 (pl b 5), .int .u64 (pl b 6), .int .u64 (pl b 7), .slice p0 n0 c0, .slice q0 k0 d0], .agg #[.int .u8 a.1, .int .i64 a.2.1, .int .u64 (pl a.2.2 0), .int .u64 (pl a.2.2 1), .int .u64 (pl a.2.2 2), .int .u64 (pl a.2.2 3), .int .u64 (pl a.2.2 4), .int .u64 (pl a.2.2 5), .int .u64 (pl a.2.2 6), .int .u64 (pl a.2.2 7)]] w fun e w' => e = .returned (.bool true) ∧ Below w.heap.size w w' := by
 go_enter Tryz.func16, Tryz.ntmps16
 go_wp2_with fail
 refine (few1 (b := b) (p := p0) (q := q0) (n := n0) (c := c0) (k := k0) (d := d0) (t := 30) _ bks_by).mono ?_
 rw [hm]
 rintro e wf ⟨rfl, hb⟩
 have g0 : Blk wf (w.heap.size) #[.int .u64 (pl b 0), .int .u64 (pl b 1), .int .u64 (pl b 2), .int .u64 (pl b 3), .int .u64 (pl b 4), .int .u64 (pl b 5), .int .u64 (pl b 6), .int .u64 (pl b 7), .slice p0 n0 c0, .slice q0 k0 d0] 30 := Blk.grow bks_by hb
 have g3 : Blk wf (w.heap.size + 1) #[.int .u8 a.1, .int .i64 a.2.1, .int .u64 (pl a.2.2 0), .int .u64 (pl a.2.2 1), .int .u64 (pl a.2.2 2), .int .u64 (pl a.2.2 3), .int .u64 (pl a.2.2 4), .int .u64 (pl a.2.2 5), .int .u64 (pl a.2.2 6), .int .u64 (pl a.2.2 7)] 46 := Blk.grow bks_by hb
 have hB : Below w.heap.size w wf := bel_trans bni hb
 clear hb
 have c_g0 := g0.cell
 have l_g0 := g0.lt
 have c_g3 := g3.cell
 have l_g3 := g3.lt
 go_wp2_with fail
 clear c_g0 l_g0
 clear c_g3 l_g3
 refine (HAL.out _ (bel_trans hB bni)).mono ?_
 rintro e w2 ⟨rfl, hb⟩
 have hbb : Below wf.heap.size wf w2 := bel_trans bni hb
 replace hB := bel_trans hB hbb
 replace g0 := g0.grow hbb
 replace g3 := g3.grow hbb
 clear hb hbb
 have c_g0 := g0.cell
 have l_g0 := g0.lt
 have c_g3 := g3.cell
 have l_g3 := g3.lt
 go_wp2_with fail
 clear c_g0 l_g0
 clear c_g3 l_g3
 refine bodyPost_ret (v := .bool true) (by simp [results, Tryz.results16, go_sem]) rfl ⟨rfl, hB⟩
theorem wk_of {W : World} {lo hi : Nat} {e : TypeId} {size : Nat} {q : Option Addr} {k cap n : Nat} {xs : List Value} (h : W.ownsRow lo e size (.slice q k cap) n xs) (hn : k = n) (hh : ∀ g, (Value.slice q k cap).ownBlock = some g → g < hi) : Wk W lo hi e size q k cap := by
 subst hn; exact Wk.of h hh
set_option maxHeartbeats 16000000 in
theorem TraceMemory_good (b : Sol) (p0 q0 : Option Addr) (n0 c0 k0 d0 : Nat) (a : Ac) (w : World) (hm : many k0 n0 = false) (l : List Sol) (g : List Ac) (HV : Hid (SlS w (.slice p0 n0 c0) l ∧ SlN w (.slice q0 k0 d0) g)) (HLEN : Hid (l.length ≤ 1048576 ∧ g.length ≤ 1048576)) (B1 B2 B3 : Sol) (L1 L2 L3 : List Sol) (M1 M2 M3 : List Ac) (E1 E2 E3 : Int) (H40 : Hid (∀ w', Below w.heap.size w w' → Calls Tryz.prog 40 #[.agg #[.int .u64 (pl b 0), .int .u64 (pl b 1), .int .u64 (pl b 2), .int .u64 (pl b 3), .int .u64 (pl b 4), .int .u64 (pl b 5), .int .u64 (pl b 6), .int .u64 (pl b 7), .slice p0 n0 c0, .slice q0 k0 d0], .agg #[.int .u8 a.1, .int .i64 a.2.1, .int .u64 (pl a.2.2 0), .int .u64 (pl a.2.2 1), .int .u64 (pl a.2.2 2), .int .u64 (pl a.2.2 3), .int .u64 (pl a.2.2 4), .int .u64 (pl a.2.2 5), .int .u64 (pl a.2.2 6), .int .u64 (pl a.2.2 7)]] w' (ORes B1 L1 M1 E1 w'))) (H55 : Hid (∀ w', Below w.heap.size w w' → Calls Tryz.prog 55 #[.agg #[.int .u64 (pl b 0), .int .u64 (pl b 1), .int .u64 (pl b 2), .int .u64 (pl b 3), .int .u64 (pl b 4), .int .u64 (pl b 5), .int .u64 (pl b 6), .int .u64 (pl b 7), .slice p0 n0 c0, .slice q0 k0 d0]] w' (ORes B2 L2 M2 E2 w'))) (H21 : Hid (∀ w', Below w.heap.size w w' → Calls Tryz.prog 21 #[.agg #[.int .u64 (pl b 0), .int .u64 (pl b 1), .int .u64 (pl b 2), .int .u64 (pl b 3), .int .u64 (pl b 4), .int .u64 (pl b 5), .int .u64 (pl b 6), .int .u64 (pl b 7), .slice p0 n0 c0, .slice q0 k0 d0]] w' (ORes B3 L3 M3 E3 w'))) (H69 : Hid (∀ w', Below w.heap.size w w' → Calls Tryz.prog 69 #[.agg #[.int .u64 (pl b 0), .int .u64 (pl b 1), .int .u64 (pl b 2), .int .u64 (pl b 3), .int .u64 (pl b 4), .int .u64 (pl b 5), .int .u64 (pl b 6), .int .u64 (pl b 7), .slice p0 n0 c0, .slice q0 k0 d0]] w' (Rets w'))) (H26 : Hid (∀ w' p n c q k d, Below w.heap.size w w' → SlS w' (.slice p n c) L1 → SlA w' (.slice q k d) M1 → Calls Tryz.prog 26 #[.agg #[.int .u64 (pl b 0), .int .u64 (pl b 1), .int .u64 (pl b 2), .int .u64 (pl b 3), .int .u64 (pl b 4), .int .u64 (pl b 5), .int .u64 (pl b 6), .int .u64 (pl b 7), .slice p0 n0 c0, .slice q0 k0 d0], .agg #[.int .u64 (pl B1 0), .int .u64 (pl B1 1), .int .u64 (pl B1 2), .int .u64 (pl B1 3), .int .u64 (pl B1 4), .int .u64 (pl B1 5), .int .u64 (pl B1 6), .int .u64 (pl B1 7), .slice p n c, .slice q k d]] w' (Rets w'))) (HAL : AliveH w) :
  Calls Tryz.prog 16 #[.agg #[.int .u64 (pl b 0), .int .u64 (pl b 1), .int .u64 (pl b 2), .int .u64 (pl b 3), .int .u64 (pl b 4), .int .u64 (pl b 5), .int .u64 (pl b 6), .int .u64 (pl b 7), .slice p0 n0 c0, .slice q0 k0 d0], .agg #[.int .u8 a.1, .int .i64 a.2.1, .int .u64 (pl a.2.2 0), .int .u64 (pl a.2.2 1), .int .u64 (pl a.2.2 2), .int .u64 (pl a.2.2 3), .int .u64 (pl a.2.2 4), .int .u64 (pl a.2.2 5), .int .u64 (pl a.2.2 6), .int .u64 (pl a.2.2 7)]] w fun e w' => e = .returned (.bool true) ∧ Below w.heap.size w w' := by
 go_enter Tryz.func16, Tryz.ntmps16
 go_wp2_with fail
 refine (few1 (b := b) (p := p0) (q := q0) (n := n0) (c := c0) (k := k0) (d := d0) (t := 30) _ bks_by).mono ?_
 rw [hm]
 rintro e wf ⟨rfl, hb⟩
 have g0 : Blk wf (w.heap.size) #[.int .u64 (pl b 0), .int .u64 (pl b 1), .int .u64 (pl b 2), .int .u64 (pl b 3), .int .u64 (pl b 4), .int .u64 (pl b 5), .int .u64 (pl b 6), .int .u64 (pl b 7), .slice p0 n0 c0, .slice q0 k0 d0] 30 := Blk.grow bks_by hb
 have g3 : Blk wf (w.heap.size + 1) #[.int .u8 a.1, .int .i64 a.2.1, .int .u64 (pl a.2.2 0), .int .u64 (pl a.2.2 1), .int .u64 (pl a.2.2 2), .int .u64 (pl a.2.2 3), .int .u64 (pl a.2.2 4), .int .u64 (pl a.2.2 5), .int .u64 (pl a.2.2 6), .int .u64 (pl a.2.2 7)] 46 := Blk.grow bks_by hb
 have hB : Below w.heap.size w wf := bel_trans bni hb
 clear hb
 have c_g0 := g0.cell
 have l_g0 := g0.lt
 have c_g3 := g3.cell
 have l_g3 := g3.lt
 clear c_g0 l_g0 c_g3 l_g3
 have hzf : w.heap.size + 1 + 1 ≤ wf.heap.size := g3.lt
 have c_g0 := g0.cell
 have l_g0 := g0.lt
 go_wp2_with fail
 refine wp_region_grow 13 [Is (.pointer (some ⟨w.heap.size, 0, none⟩)), Is (.pointer (some ⟨w.heap.size, 0, none⟩)), Is (.agg #[.int .u64 (pl b 0), .int .u64 (pl b 1), .int .u64 (pl b 2), .int .u64 (pl b 3), .int .u64 (pl b 4), .int .u64 (pl b 5), .int .u64 (pl b 6), .int .u64 (pl b 7)]), Is (.pointer (some ⟨w.heap.size, 0, none⟩)), Is (.pointer (some ⟨w.heap.size, 8, none⟩)), Is (.slice p0 n0 c0), VSol wf.heap.size l, VPat wf.heap.size b l, Is (.pointer (some ⟨w.heap.size, 9, none⟩)), Is (.slice q0 k0 d0), VAc wf.heap.size g, VHist wf.heap.size b l g, VBk wf.heap.size #[.int .u64 0, .int .u64 0, .int .u64 0, .int .u64 0, .int .u64 0, .int .u64 0, .int .u64 0, .int .u64 0, .slice none 0 0, .slice none 0 0] 30] (by kernel_rfl) (by kernel_rfl) rfl ⟨fun _ _ _ h _ => h, fun _ _ _ h _ => h, fun _ _ _ h _ => h, fun _ _ _ h _ => h, fun _ _ _ h _ => h, fun _ _ _ h _ => h, VSol.stable, VPat.stable, fun _ _ _ h _ => h, fun _ _ _ h _ => h, VAc.stable, VHist.stable, VBk.stab, trivial⟩ ?_
 simp only [List.take_succ_cons, List.take_zero, List.drop_succ_cons, List.drop_zero]
 iterate 6 (refine rel_cons ?_ (fun _ => ?_); · intro w1 hb hF; have hc := (Grows.cells hb).1; have hf := (Grows.cells hb).2; (try simp [facts, Is] at hF); go_simp; exact Grows.refl _)
 refine rel_cons ?_ (fun v6 => ?_)
 ·intro w1 hb hF; have hc := (Grows.cells hb).1; have hf := (Grows.cells hb).2; try simp [facts, Is] at hF
  have hbw := bel_trans hB hb
  have hsz := hb.size
  go_simp
  refine (CloneSol_spec _ l w1 (HV.out.1.mono hbw) HLEN.out.1).mono ?_
  rintro e w2 ⟨x, rfl, hO, hB⟩
  exact ⟨_, rfl, hB, by unfold VSol; exact own_weak hO hsz⟩
 refine rel_cons ?_ (fun v7 => ?_)
 ·intro w1 hb hF; have hc := (Grows.cells hb).1; have hf := (Grows.cells hb).2; try simp [facts, Is] at hF
  have hV := hF.2
  unfold VSol at hV
  refine Exists.elim (own_shape' hV) (fun p h => Exists.elim h (fun c h => ?_))
  have hv := h.1
  subst hv
  have HVP : Hid (VPat wf.heap.size b l (.agg #[.int .u64 (pl b 0), .int .u64 (pl b 1), .int .u64 (pl b 2), .int .u64 (pl b 3), .int .u64 (pl b 4), .int .u64 (pl b 5), .int .u64 (pl b 6), .int .u64 (pl b 7), .slice p l.length c]) w1) := (by show VPat _ _ _ _ _; unfold VPat; exact ⟨_, rfl, hV⟩)
  clear hV h
  go_simp
  exact ⟨Grows.refl _, HVP.out⟩
 iterate 2 (refine rel_cons ?_ (fun _ => ?_); · intro w1 hb hF; have hc := (Grows.cells hb).1; have hf := (Grows.cells hb).2; (try simp [facts, Is] at hF); go_simp; exact Grows.refl _)
 refine rel_cons ?_ (fun v10 => ?_)
 ·intro w1 hb hF; have hc := (Grows.cells hb).1; have hf := (Grows.cells hb).2; try simp [facts, Is] at hF
  have hbw := bel_trans hB hb
  have hsz := hb.size
  go_simp
  refine (CloneAc_spec _ g w1 (HV.out.2.1.mono hbw) HLEN.out.2).mono ?_
  rintro e w2 ⟨x, rfl, hO, hB⟩
  exact ⟨_, rfl, hB, by unfold VAc; exact own_weak hO hsz⟩
 refine rel_cons ?_ (fun v11 => ?_)
 ·intro w1 hb hF; have hc := (Grows.cells hb).1; have hf := (Grows.cells hb).2; try simp [facts, Is] at hF
  have hV := hF.1
  have hA := hF.2
  unfold VPat at hV
  unfold VAc at hA
  refine Exists.elim hV (fun pv h => ?_)
  have hv := h.1
  subst hv
  have HVP : Hid (VHist wf.heap.size b l g (.agg #[.int .u64 (pl b 0), .int .u64 (pl b 1), .int .u64 (pl b 2), .int .u64 (pl b 3), .int .u64 (pl b 4), .int .u64 (pl b 5), .int .u64 (pl b 6), .int .u64 (pl b 7), pv, v10]) w1) := by show VHist _ _ _ _ _ _; unfold VHist; exact ⟨_, _, rfl, h.2, hA⟩
  refine Exists.elim (own_shape' h.2) (fun p h => Exists.elim h (fun c h => ?_))
  refine Exists.elim (own_shape' hA) (fun p' h' => Exists.elim h' (fun c' h' => ?_))
  have hv := h.1
  have hv' := h'.1
  subst hv
  subst hv'
  clear hV h hA h'
  go_simp
  exact ⟨Grows.refl _, HVP.out⟩
 refine rel_cons ?_ (fun v12 => ?_)
 ·intro w1 hb hF; have hc := (Grows.cells hb).1; have hf := (Grows.cells hb).2; try simp [facts, Is] at hF
  have hsz := hb.size
  go_simp
  exact ⟨bel_alloc (bel_refl _) _, by unfold VBk; exact ⟨_, rfl, (by omega), Blk.new _ _ _⟩⟩
 refine rel_nil ?_
 intro w1 hb hF
 simp [Is, Nat.forall_lt_succ_right] at hF
 have e0 := hF.1.1.1.1.1.1.1.1.1.1.1.1
 have e1 := hF.1.1.1.1.1.1.1.1.1.1.1.2
 have e2 := hF.1.1.1.1.1.1.1.1.1.1.2
 have e3 := hF.1.1.1.1.1.1.1.1.1.2
 have e4 := hF.1.1.1.1.1.1.1.1.2
 have e5 := hF.1.1.1.1.1.1.1.2
 have e6 := hF.1.1.1.1.1.1.2
 have e7 := hF.1.1.1.1.1.2
 have e8 := hF.1.1.1.1.2
 have e9 := hF.1.1.1.2
 have e10 := hF.1.1.2
 have e11 := hF.1.2
 have e12 := hF.2
 clear hF
 simp only [Act.put, List.setIfInBounds_toArray, List.set_cons_succ, List.set_cons_zero, e0, e1, e2, e3, e4, e5, e8, e9]
 clear e0 e1 e2 e3 e4 e5 e8 e9
 unfold VHist at e11
 unfold VBk at e12
 refine Veil.out ?_
 obtain ⟨pv, bv, rfl, hS, hA⟩ := e11
 obtain ⟨b5, rfl, hG5, g5⟩ := e12
 have HSl := Lib.hid (And.intro hS hA)
 obtain ⟨p', n', c', rfl⟩ := own_shape hS
 obtain ⟨q', k', d', rfl⟩ := own_shape hA
 refine Veil.on ?_
 clear e6 e7 e10 hS hA c_g0 l_g0
 have hB2 : Below w.heap.size w w1 := bel_trans hB hb
 have G0 := (g0.grow hb).rowO (g := b5) #[.int .u64 (pl b 0), .int .u64 (pl b 1), .int .u64 (pl b 2), .int .u64 (pl b 3), .int .u64 (pl b 4), .int .u64 (pl b 5), .int .u64 (pl b 6), .int .u64 (pl b 7), .slice p' n' c', .slice q' k' d'] (by omega)
 have G3 := (g3.grow hb).rowO (g := b5) #[.int .u64 (pl b 0), .int .u64 (pl b 1), .int .u64 (pl b 2), .int .u64 (pl b 3), .int .u64 (pl b 4), .int .u64 (pl b 5), .int .u64 (pl b 6), .int .u64 (pl b 7), .slice p' n' c', .slice q' k' d'] (by omega)
 have HS2 : Hid (OwnS (w1.setRow b5 #[.int .u64 (pl b 0), .int .u64 (pl b 1), .int .u64 (pl b 2), .int .u64 (pl b 3), .int .u64 (pl b 4), .int .u64 (pl b 5), .int .u64 (pl b 6), .int .u64 (pl b 7), .slice p' n' c', .slice q' k' d']) wf.heap.size (.slice p' n' c') l ∧ OwnA (w1.setRow b5 #[.int .u64 (pl b 0), .int .u64 (pl b 1), .int .u64 (pl b 2), .int .u64 (pl b 3), .int .u64 (pl b 4), .int .u64 (pl b 5), .int .u64 (pl b 6), .int .u64 (pl b 7), .slice p' n' c', .slice q' k' d']) wf.heap.size (.slice q' k' d') g) := Lib.hid ⟨own_rowT HSl.out.1 g5 (by decide) _, own_rowT HSl.out.2 g5 (by decide) _⟩
 have hB3 : Below w.heap.size w (w1.setRow b5 #[.int .u64 (pl b 0), .int .u64 (pl b 1), .int .u64 (pl b 2), .int .u64 (pl b 3), .int .u64 (pl b 4), .int .u64 (pl b 5), .int .u64 (pl b 6), .int .u64 (pl b 7), .slice p' n' c', .slice q' k' d']) := blw_row hB2 (by omega) _
 have G5 := g5.rowS #[.int .u64 (pl b 0), .int .u64 (pl b 1), .int .u64 (pl b 2), .int .u64 (pl b 3), .int .u64 (pl b 4), .int .u64 (pl b 5), .int .u64 (pl b 6), .int .u64 (pl b 7), .slice p' n' c', .slice q' k' d']
 have r5 := g5.row
 have l5 := g5.lt
 rw [← g5.rw]
 clear HSl g0 g3 g5 hb
 have c_0 := G0.cell
 have l_0 := G0.lt
 have c_3 := G3.cell
 have l_3 := G3.lt
 go_wp2_with fail
 generalize w1.setRow b5 #[.int .u64 (pl b 0), .int .u64 (pl b 1), .int .u64 (pl b 2), .int .u64 (pl b 3), .int .u64 (pl b 4), .int .u64 (pl b 5), .int .u64 (pl b 6), .int .u64 (pl b 7), .slice p' n' c', .slice q' k' d'] = w2 at *
 have hb5 : b5 < w2.heap.size := G5.lt
 have HP2 : Hid (Pt w2 (w.heap.size + 1 + 1) w2.heap.size (.slice p' n' c') (.slice q' k' d') l g) := Lib.hid ⟨own_weak HS2.out.1 (by omega), own_weak HS2.out.2 (by omega), fun k e => (HS2.out.1.lt k e).2, fun k e => (HS2.out.2.lt k e).2⟩
 refine (H40.out _ hB3).mono ?_
 rintro e w3 ⟨q1, n1, c1, r1, k1, d1, rfl, hS1, hA1, hb3⟩
 have hB4 := bel_trans hB3 hb3
 have HG := Lib.hid (And.intro (G0.grow hb3) (And.intro (G3.grow hb3) (And.intro (G5.grow hb3) (HP2.out.grow hb3))))
 have HS1 := Lib.hid (And.intro hS1 (And.intro hA1 (And.intro (fun k e => (hS1.lt k e).2) (fun k e => (hA1.lt k e).2))))
 have hz3 := hb3.size
 clear hS1 hA1 hb3 HP2 HS2 G0 G3 G5 c_0 l_0 c_3 l_3 r5 l5 hB2 hB
 generalize w2.heap.size = S1 at *
 have c_0 := HG.out.1.cell
 have l_0 := HG.out.1.lt
 go_wp2_with fail
 refine (H55.out _ (bel_trans hB4 bel_by)).mono ?_
 rintro e w4 ⟨p2, n2, c2, r2, k2, d2, rfl, hS2, hA2, hb⟩
 have hbb : Below w3.heap.size w3 w4 := bel_trans bni hb
 have hB5 := bel_trans hB4 hbb
 have g6 : Blk w4 w3.heap.size #[.int .u64 (pl B1 0), .int .u64 (pl B1 1), .int .u64 (pl B1 2), .int .u64 (pl B1 3), .int .u64 (pl B1 4), .int .u64 (pl B1 5), .int .u64 (pl B1 6), .int .u64 (pl B1 7), .slice q1 n1 c1, .slice r1 k1 d1] 30 := Blk.grow bks_by hb
 have HS2 := Lib.hid (And.intro (own_weak hS2 (by simp) : OwnS w4 (w3.heap.size + 1) _ L2) (And.intro (own_weak hA2 (by simp) : OwnA w4 (w3.heap.size + 1) _ M2) (And.intro (fun k e => (hS2.lt k e).2) (fun k e => (hA2.lt k e).2))))
 replace HG := Lib.hid (And.intro (HG.out.1.grow hbb) (And.intro (HG.out.2.1.grow hbb) (And.intro (HG.out.2.2.1.grow hbb) (HG.out.2.2.2.grow hbb))))
 replace HS1 := Lib.hid (And.intro (own_grow HS1.out.1 hbb) (And.intro (own_grow HS1.out.2.1 hbb) HS1.out.2.2))
 have hz4 := g6.lt
 clear hS2 hA2 hb hbb hB4 c_0 l_0
 generalize w3.heap.size = b6 at *
 have c_0 := HG.out.1.cell
 have l_0 := HG.out.1.lt
 go_wp2_with fail
 refine (H21.out _ (bel_trans hB5 bel_by)).mono ?_
 rintro e w5 ⟨q3, n3, c3, r3, k3, d3, rfl, hS3, hA3, hb⟩
 have hbb : Below w4.heap.size w4 w5 := bel_trans bni hb
 have hB6 := bel_trans hB5 hbb
 have g8 : Blk w5 w4.heap.size #[.int .u64 (pl B2 0), .int .u64 (pl B2 1), .int .u64 (pl B2 2), .int .u64 (pl B2 3), .int .u64 (pl B2 4), .int .u64 (pl B2 5), .int .u64 (pl B2 6), .int .u64 (pl B2 7), .slice p2 n2 c2, .slice r2 k2 d2] 30 := Blk.grow bks_by hb
 have HS3 := Lib.hid (And.intro (own_weak hS3 (by simp) : OwnS w5 (w4.heap.size + 1) _ L3) (And.intro (own_weak hA3 (by simp) : OwnA w5 (w4.heap.size + 1) _ M3) (And.intro (fun k e => (hS3.lt k e).2) (fun k e => (hA3.lt k e).2))))
 replace HG := Lib.hid (And.intro (HG.out.1.grow hbb) (And.intro (HG.out.2.1.grow hbb) (And.intro (HG.out.2.2.1.grow hbb) (HG.out.2.2.2.grow hbb))))
 replace HS1 := Lib.hid (And.intro (own_grow HS1.out.1 hbb) (And.intro (own_grow HS1.out.2.1 hbb) HS1.out.2.2))
 replace HS2 := Lib.hid (And.intro (own_grow HS2.out.1 hbb) (And.intro (own_grow HS2.out.2.1 hbb) HS2.out.2.2))
 replace g6 := g6.grow hbb
 have hz5 := g8.lt
 clear hS3 hA3 hb hbb hB5 c_0 l_0
 generalize w4.heap.size = b8 at *
 have c_0 := HG.out.1.cell
 have l_0 := HG.out.1.lt
 go_wp2_with fail
 refine (H69.out _ (bel_trans hB6 bel_by)).mono ?_
 rintro e w6 ⟨⟨v6, rfl⟩, hb⟩
 have hbb : Below w5.heap.size w5 w6 := bel_trans bni hb
 have hB7 := bel_trans hB6 hbb
 have g10 : Blk w6 w5.heap.size #[.int .u64 (pl B3 0), .int .u64 (pl B3 1), .int .u64 (pl B3 2), .int .u64 (pl B3 3), .int .u64 (pl B3 4), .int .u64 (pl B3 5), .int .u64 (pl B3 6), .int .u64 (pl B3 7), .slice q3 n3 c3, .slice r3 k3 d3] 30 := Blk.grow bks_by hb
 replace HG := Lib.hid (And.intro (HG.out.1.grow hbb) (And.intro (HG.out.2.1.grow hbb) (And.intro (HG.out.2.2.1.grow hbb) (HG.out.2.2.2.grow hbb))))
 replace HS1 := Lib.hid (And.intro (own_grow HS1.out.1 hbb) (And.intro (own_grow HS1.out.2.1 hbb) HS1.out.2.2))
 replace HS2 := Lib.hid (And.intro (own_grow HS2.out.1 hbb) (And.intro (own_grow HS2.out.2.1 hbb) HS2.out.2.2))
 replace HS3 := Lib.hid (And.intro (own_grow HS3.out.1 hbb) (And.intro (own_grow HS3.out.2.1 hbb) HS3.out.2.2))
 replace g6 := g6.grow hbb
 replace g8 := g8.grow hbb
 have hz6 := g10.lt
 clear hb hbb hB6 c_0 l_0
 generalize w5.heap.size = b10 at *
 have hSlen1 : n1 = L1.length := by obtain ⟨_, _, he, _⟩ := own_shape' HS1.out.1; injection he
 have hAlen1 : k1 = M1.length := by obtain ⟨_, _, he, _⟩ := own_shape' HS1.out.2.1; injection he
 have hSlen3 : n3 = L3.length := by obtain ⟨_, _, he, _⟩ := own_shape' HS3.out.1; injection he
 have hAlen3 : k3 = M3.length := by obtain ⟨_, _, he, _⟩ := own_shape' HS3.out.2.1; injection he
 have HST : Hid (St w b (.slice p0 n0 c0) (.slice q0 k0 d0) l g a b5 (.slice p' n' c') (.slice q' k' d') S1 b6 B1 q1 n1 c1 r1 k1 d1 b8 B2 (.slice p2 n2 c2) (.slice r2 k2 d2) L2 M2 b10 B3 q3 n3 c3 r3 k3 d3 w6) := Lib.hid ⟨hB7, ⟨by omega, by omega, by omega, by omega, by omega⟩, HG.out.1, HG.out.2.1, HG.out.2.2.1, HG.out.2.2.2, g6, wk_of HS1.out.1 hSlen1 HS1.out.2.2.1, wk_of HS1.out.2.1 hAlen1 HS1.out.2.2.2, g8, ⟨HS2.out.1, HS2.out.2.1, HS2.out.2.2.1, HS2.out.2.2.2⟩, g10, wk_of HS3.out.1 hSlen3 HS3.out.2.2.1, wk_of HS3.out.2.1 hAlen3 HS3.out.2.2.2⟩
 have HB1 : Hid (n1 ≤ 9223372036854775807 ∧ k1 ≤ 9223372036854775807 ∧ n3 ≤ 9223372036854775807 ∧ k3 ≤ 9223372036854775807) := by
  obtain ⟨_, _, he, h1, h2⟩ := own_shape' HS1.out.1
  obtain ⟨_, _, he', h1', h2'⟩ := own_shape' HS1.out.2.1
  obtain ⟨_, _, he3, h3, h4⟩ := own_shape' HS3.out.1
  obtain ⟨_, _, he3', h3', h4'⟩ := own_shape' HS3.out.2.1
  exact Lib.hid ⟨by omega, by omega, by omega, by omega⟩
 have H26' := Lib.hid (H26.out w6 q1 n1 c1 r1 k1 d1 hB7 (OwnS.sl HS1.out.1) (OwnA.sl HS1.out.2.1))
 clear hSlen1 hAlen1 hSlen3 hAlen3 HG HS1 HS2 HS3 g6 g8 g10 hz3 hz4 hz5 hz6 hb5 hG5 hzf hB7
 have c_0 := HST.out.g0.cell
 have l_0 := HST.out.g0.lt
 have c_6 := HST.out.g6.cell
 have l_6 := HST.out.g6.lt
 go_wp2_with fail
 refine H26'.out.mono ?_
 rintro e w7 ⟨⟨v7, rfl⟩, hb⟩
 replace HST := Lib.hid (HST.out.grow hb)
 clear hb H26' c_0 l_0 c_6 l_6
 have hb1 := HB1.out.1
 have hb2 := HB1.out.2.1
 have hb3 := HB1.out.2.2.1
 have hb4 := HB1.out.2.2.2
 have c_6 := HST.out.g6.cell
 have l_6 := HST.out.g6.lt
 go_wp2_with fail
 clear c_6 l_6
 go_loopw [12, 61] (fun _ iv wr => ∃ i : Nat, i ≤ k1 ∧ iv = .int .i64 i ∧ Hid (St w b (.slice p0 n0 c0) (.slice q0 k0 d0) l g a b5 (.slice p' n' c') (.slice q' k' d') S1 b6 B1 q1 n1 c1 r1 k1 d1 b8 B2 (.slice p2 n2 c2) (.slice r2 k2 d2) L2 M2 b10 B3 q3 n3 c3 r3 k3 d3 wr)) (fun _ iv _ => k1 - (intOf iv).toNat)
 case atStart => exact ⟨0, Nat.zero_le _, rfl, HST⟩
 case round =>
  clear HST
  obtain ⟨i, hi, rfl, HST⟩ := hrel
  have c_b := HST.out.g6.cell
  have l_b := HST.out.g6.lt
  by_cases hlt : i < k1
  ·obtain ⟨gb, cur, hq, hr, hb, hs, hle⟩ := HST.out.wa1.here (by omega)
   subst hq
   have hfit : i * 10 + (#[.int .u8 0, .int .i64 0, .int .u64 0, .int .u64 0, .int .u64 0, .int .u64 0, .int .u64 0, .int .u64 0, .int .u64 0, .int .u64 0] : Array Value).size ≤ cur.size := by rw [hs]; show i * 10 + 10 ≤ d1 * 10; omega
   have hSz : (Tryz.prog.info? 46).map (·.size) = some (#[.int .u8 0, .int .i64 0, .int .u64 0, .int .u64 0, .int .u64 0, .int .u64 0, .int .u64 0, .int .u64 0, .int .u64 0, .int .u64 0] : Array Value).size := by kernel_rfl
   have hOne : (#[.int .u8 0, .int .i64 0, .int .u64 0, .int .u64 0, .int .u64 0, .int .u64 0, .int .u64 0, .int .u64 0, .int .u64 0, .int .u64 0] : Array Value).all (·.oneCell') = true := by simp [Value.oneCell']
   have HBk := Lib.hid hb
   have HS' := Lib.hid (HST.out.set hb (c' := spl cur (i * 10) (#[.int .u8 0, .int .i64 0, .int .u64 0, .int .u64 0, .int .u64 0, .int .u64 0, .int .u64 0, .int .u64 0, .int .u64 0, .int .u64 0] : Array Value).toList) (by omega) (spl_size hfit))
   clear hb hs
   go_wp2_with (refine wpList_store_at rfl 46 (.tmp 68) (.tmp 67) rfl gb (i * 10) #[.int .u8 0, .int .i64 0, .int .u64 0, .int .u64 0, .int .u64 0, .int .u64 0, .int .u64 0, .int .u64 0, .int .u64 0, .int .u64 0] rfl rfl 46 cur HBk.out hSz hfit hOne ?_)
   go_roundw
   case rel => exact ⟨i + 1, by omega, by go_num, HS'⟩
   case measure => simp [intOf]; omega
  ·have hik : k1 = i := by omega
   clear c_b l_b
   have c_6 := HST.out.g6.cell
   have l_6 := HST.out.g6.lt
   subst hik
   go_wp2_with fail
   clear c_6 l_6
   go_loopw [13, 74] (fun _ iv wr => ∃ i : Nat, i ≤ n1 ∧ iv = .int .i64 i ∧ Hid (St w b (.slice p0 n0 c0) (.slice q0 k0 d0) l g a b5 (.slice p' n' c') (.slice q' k' d') S1 b6 B1 q1 n1 c1 r1 k1 d1 b8 B2 (.slice p2 n2 c2) (.slice r2 k2 d2) L2 M2 b10 B3 q3 n3 c3 r3 k3 d3 wr)) (fun _ iv _ => n1 - (intOf iv).toNat)
   case atStart => exact ⟨0, Nat.zero_le _, rfl, HST⟩
   case round =>
    clear HST
    obtain ⟨i, hi, rfl, HST⟩ := hrel
    have c_b := HST.out.g6.cell
    have l_b := HST.out.g6.lt
    by_cases hlt : i < n1
    ·obtain ⟨gb, cur, hq, hr, hb, hs, hle⟩ := HST.out.ws1.here (by omega)
     subst hq
     have hfit : i * 8 + (#[.int .u64 0, .int .u64 0, .int .u64 0, .int .u64 0, .int .u64 0, .int .u64 0, .int .u64 0, .int .u64 0] : Array Value).size ≤ cur.size := by rw [hs]; show i * 8 + 8 ≤ c1 * 8; omega
     have hSz : (Tryz.prog.info? 24).map (·.size) = some (#[.int .u64 0, .int .u64 0, .int .u64 0, .int .u64 0, .int .u64 0, .int .u64 0, .int .u64 0, .int .u64 0] : Array Value).size := by kernel_rfl
     have hOne : (#[.int .u64 0, .int .u64 0, .int .u64 0, .int .u64 0, .int .u64 0, .int .u64 0, .int .u64 0, .int .u64 0] : Array Value).all (·.oneCell') = true := by simp [Value.oneCell']
     have HBk := Lib.hid hb
     have HS' := Lib.hid (HST.out.set hb (c' := spl cur (i * 8) (#[.int .u64 0, .int .u64 0, .int .u64 0, .int .u64 0, .int .u64 0, .int .u64 0, .int .u64 0, .int .u64 0] : Array Value).toList) (by omega) (spl_size hfit))
     clear hb hs
     go_wp2_with (refine wpList_store_at rfl 24 (.tmp 82) (.tmp 81) rfl gb (i * 8) #[.int .u64 0, .int .u64 0, .int .u64 0, .int .u64 0, .int .u64 0, .int .u64 0, .int .u64 0, .int .u64 0] rfl rfl 24 cur HBk.out hSz hfit hOne ?_)
     go_roundw
     case rel => exact ⟨i + 1, by omega, by go_num, HS'⟩
     case measure => simp [intOf]; omega
    ·have hik : n1 = i := by omega
     clear c_b l_b
     have c_6 := HST.out.g10.cell
     have l_6 := HST.out.g10.lt
     subst hik
     go_wp2_with fail
     clear c_6 l_6
     go_loopw [14, 87] (fun _ iv wr => ∃ i : Nat, i ≤ k3 ∧ iv = .int .i64 i ∧ Hid (St w b (.slice p0 n0 c0) (.slice q0 k0 d0) l g a b5 (.slice p' n' c') (.slice q' k' d') S1 b6 B1 q1 n1 c1 r1 k1 d1 b8 B2 (.slice p2 n2 c2) (.slice r2 k2 d2) L2 M2 b10 B3 q3 n3 c3 r3 k3 d3 wr)) (fun _ iv _ => k3 - (intOf iv).toNat)
     case atStart => exact ⟨0, Nat.zero_le _, rfl, HST⟩
     case round =>
      clear HST
      obtain ⟨i, hi, rfl, HST⟩ := hrel
      have c_b := HST.out.g10.cell
      have l_b := HST.out.g10.lt
      by_cases hlt : i < k3
      ·obtain ⟨gb, cur, hq, hr, hb, hs, hle⟩ := HST.out.wa3.here (by omega)
       subst hq
       have hfit : i * 10 + (#[.int .u8 0, .int .i64 0, .int .u64 0, .int .u64 0, .int .u64 0, .int .u64 0, .int .u64 0, .int .u64 0, .int .u64 0, .int .u64 0] : Array Value).size ≤ cur.size := by rw [hs]; show i * 10 + 10 ≤ d3 * 10; omega
       have hSz : (Tryz.prog.info? 46).map (·.size) = some (#[.int .u8 0, .int .i64 0, .int .u64 0, .int .u64 0, .int .u64 0, .int .u64 0, .int .u64 0, .int .u64 0, .int .u64 0, .int .u64 0] : Array Value).size := by kernel_rfl
       have hOne : (#[.int .u8 0, .int .i64 0, .int .u64 0, .int .u64 0, .int .u64 0, .int .u64 0, .int .u64 0, .int .u64 0, .int .u64 0, .int .u64 0] : Array Value).all (·.oneCell') = true := by simp [Value.oneCell']
       have HBk := Lib.hid hb
       have HS' := Lib.hid (HST.out.set hb (c' := spl cur (i * 10) (#[.int .u8 0, .int .i64 0, .int .u64 0, .int .u64 0, .int .u64 0, .int .u64 0, .int .u64 0, .int .u64 0, .int .u64 0, .int .u64 0] : Array Value).toList) (by omega) (spl_size hfit))
       clear hb hs
       go_wp2_with (refine wpList_store_at rfl 46 (.tmp 94) (.tmp 93) rfl gb (i * 10) #[.int .u8 0, .int .i64 0, .int .u64 0, .int .u64 0, .int .u64 0, .int .u64 0, .int .u64 0, .int .u64 0, .int .u64 0, .int .u64 0] rfl rfl 46 cur HBk.out hSz hfit hOne ?_)
       go_roundw
       case rel => exact ⟨i + 1, by omega, by go_num, HS'⟩
       case measure => simp [intOf]; omega
      ·have hik : k3 = i := by omega
       clear c_b l_b
       have c_6 := HST.out.g10.cell
       have l_6 := HST.out.g10.lt
       subst hik
       go_wp2_with fail
       clear c_6 l_6
       go_loopw [15, 100] (fun _ iv wr => ∃ i : Nat, i ≤ n3 ∧ iv = .int .i64 i ∧ Hid (St w b (.slice p0 n0 c0) (.slice q0 k0 d0) l g a b5 (.slice p' n' c') (.slice q' k' d') S1 b6 B1 q1 n1 c1 r1 k1 d1 b8 B2 (.slice p2 n2 c2) (.slice r2 k2 d2) L2 M2 b10 B3 q3 n3 c3 r3 k3 d3 wr)) (fun _ iv _ => n3 - (intOf iv).toNat)
       case atStart => exact ⟨0, Nat.zero_le _, rfl, HST⟩
       case round =>
        clear HST
        obtain ⟨i, hi, rfl, HST⟩ := hrel
        have c_b := HST.out.g10.cell
        have l_b := HST.out.g10.lt
        by_cases hlt : i < n3
        ·obtain ⟨gb, cur, hq, hr, hb, hs, hle⟩ := HST.out.ws3.here (by omega)
         subst hq
         have hfit : i * 8 + (#[.int .u64 0, .int .u64 0, .int .u64 0, .int .u64 0, .int .u64 0, .int .u64 0, .int .u64 0, .int .u64 0] : Array Value).size ≤ cur.size := by rw [hs]; show i * 8 + 8 ≤ c3 * 8; omega
         have hSz : (Tryz.prog.info? 24).map (·.size) = some (#[.int .u64 0, .int .u64 0, .int .u64 0, .int .u64 0, .int .u64 0, .int .u64 0, .int .u64 0, .int .u64 0] : Array Value).size := by kernel_rfl
         have hOne : (#[.int .u64 0, .int .u64 0, .int .u64 0, .int .u64 0, .int .u64 0, .int .u64 0, .int .u64 0, .int .u64 0] : Array Value).all (·.oneCell') = true := by simp [Value.oneCell']
         have HBk := Lib.hid hb
         have HS' := Lib.hid (HST.out.set hb (c' := spl cur (i * 8) (#[.int .u64 0, .int .u64 0, .int .u64 0, .int .u64 0, .int .u64 0, .int .u64 0, .int .u64 0, .int .u64 0] : Array Value).toList) (by omega) (spl_size hfit))
         clear hb hs
         go_wp2_with (refine wpList_store_at rfl 24 (.tmp 108) (.tmp 107) rfl gb (i * 8) #[.int .u64 0, .int .u64 0, .int .u64 0, .int .u64 0, .int .u64 0, .int .u64 0, .int .u64 0, .int .u64 0] rfl rfl 24 cur HBk.out hSz hfit hOne ?_)
         go_roundw
         case rel => exact ⟨i + 1, by omega, by go_num, HS'⟩
         case measure => simp [intOf]; omega
        ·have hik : n3 = i := by omega
         clear c_b l_b
         have hBW := HST.out.bel
         have c_0 := HST.out.g0.cell
         have l_0 := HST.out.g0.lt
         subst hik
         go_wp2_with fail
         refine (H55.out _ hBW).mono ?_
         rintro e w8 ⟨p9, n9, c9, q9, k9, d9, rfl, hS9, hA9, hb⟩
         replace HST := Lib.hid (HST.out.grow hb)
         have HS9 := Lib.hid (And.intro (OwnS.sl hS9) (OwnA.sl hA9))
         clear hb hS9 hA9 c_0 l_0 hBW
         have c_0 := HST.out.g0.cell
         have l_0 := HST.out.g0.lt
         have c_3 := HST.out.g3.cell
         have l_3 := HST.out.g3.lt
         go_wp2_with fail
         refine (H40.out _ (bel_trans HST.out.bel bel_by)).mono ?_
         rintro e w9 ⟨pA, nA, cA, qA, kA, dA, rfl, _, _, hb⟩
         have hbb : Below w8.heap.size w8 w9 := bel_trans bni hb
         have g16 : Blk w9 w8.heap.size #[.int .u64 (pl B2 0), .int .u64 (pl B2 1), .int .u64 (pl B2 2), .int .u64 (pl B2 3), .int .u64 (pl B2 4), .int .u64 (pl B2 5), .int .u64 (pl B2 6), .int .u64 (pl B2 7), .slice p9 n9 c9, .slice q9 k9 d9] 30 := Blk.grow bks_by hb
         replace HST := Lib.hid (HST.out.grow hbb)
         replace HS9 := Lib.hid (And.intro (HS9.out.1.mono hbb) (HS9.out.2.mono hbb))
         clear hb hbb c_0 l_0 c_3 l_3
         generalize w8.heap.size = b16 at *
         go_wp2_with fail
         refine (HAL.out _ (bel_trans HST.out.bel bel_by)).mono ?_
         rintro e wa ⟨rfl, hb⟩
         have hbb : Below w9.heap.size w9 wa := bel_trans bni hb
         replace HST := Lib.hid (HST.out.grow hbb)
         replace HS9 := Lib.hid (And.intro (HS9.out.1.mono hbb) (HS9.out.2.mono hbb))
         replace g16 := g16.grow hbb
         clear hb hbb
         have c_0 := HST.out.g0.cell
         have l_0 := HST.out.g0.lt
         have c_5 := HST.out.g5.cell
         have l_5 := HST.out.g5.lt
         go_wp2_with fail
         refine (Same_eq wa (HV.out.1.mono HST.out.bel) (HV.out.2.1.mono HST.out.bel) (OwnS.sl HST.out.cp.s) (OwnA.sl HST.out.cp.a)).mono ?_
         rintro e wb ⟨rfl, hb⟩
         replace HST := Lib.hid (HST.out.grow hb)
         replace HS9 := Lib.hid (And.intro (HS9.out.1.mono hb) (HS9.out.2.mono hb))
         replace g16 := g16.grow hb
         clear hb c_0 l_0 c_5 l_5
         have c_8 := HST.out.g8.cell
         have l_8 := HST.out.g8.lt
         have c_16 := g16.cell
         have l_16 := g16.lt
         go_wp2_with fail
         refine (Same_eq wb (OwnS.sl HST.out.tw.s) (OwnA.sl HST.out.tw.a) HS9.out.1 HS9.out.2).mono ?_
         rintro e wc ⟨rfl, hb⟩
         have hBz := bel_trans HST.out.bel hb
         clear hb c_8 l_8 c_16 l_16 g16
         go_wp2_with fail
         refine bodyPost_ret (v := .bool true) (by simp [results, Tryz.results16, go_sem]) rfl ⟨rfl, hBz⟩
theorem TraceMemory_walk (b0 : Sol) (u0 : Value) (l0 : List Sol) (av0 : Value) (g : List Ac) (a : Ac) (w : World)
  (S0 : SlS w u0 l0) (A0 : SlA w av0 g) (N0 : ∀ n c, av0 = .slice none n c → c = 0) (hT : w.cell? ⟨5, 15, none⟩ = some (.int .u8 4)) :
  Calls Tryz.prog 16 #[.agg #[.int .u64 (pl b0 0), .int .u64 (pl b0 1), .int .u64 (pl b0 2), .int .u64 (pl b0 3), .int .u64 (pl b0 4), .int .u64 (pl b0 5), .int .u64 (pl b0 6), .int .u64 (pl b0 7), u0, av0], .agg #[.int .u8 a.1, .int .i64 a.2.1, .int .u64 (pl a.2.2 0), .int .u64 (pl a.2.2 1), .int .u64 (pl a.2.2 2), .int .u64 (pl a.2.2 3), .int .u64 (pl a.2.2 4), .int .u64 (pl a.2.2 5), .int .u64 (pl a.2.2 6), .int .u64 (pl a.2.2 7)]] w fun e w' => e = .returned (.bool true) ∧ Below w.heap.size w w' := by
 have HAL := alive_h w hT
 have G0 : SlN w av0 g := ⟨A0, N0⟩
 have T0 := S0
 have X0 := A0
 obtain ⟨p0, c0, rfl, _, _⟩ := T0
 obtain ⟨q0, d0, rfl, hkd0, hdM0⟩ := X0
 have hk0 : (g.map acL).length = g.length := List.length_map ..
 have hl0 : (l0.map solL).length = l0.length := List.length_map ..
 generalize (g.map acL).length = k0 at *
 generalize (l0.map solL).length = n0 at *
 cases hm : many k0 n0 with
 | true => exact TraceMemory_many b0 p0 q0 n0 c0 k0 d0 a w hm HAL
 | false =>
  have hlen : l0.length ≤ 1048576 ∧ g.length ≤ 1048576 := by
   unfold many at hm
   have := of_decide_eq_false hm
   omega
  obtain ⟨B1, L1, M1, E1, hM1, H40⟩ := Act_o b0 _ _ l0 g a w S0 G0
  obtain ⟨B2, L2, M2, E2, H55⟩ := Normal_ores b0 _ _ l0 g w S0 A0
  obtain ⟨B3, L3, M3, E3, H21⟩ := Reduced_ores b0 _ _ l0 g w S0 A0
  have H69 := Lib.hid fun w' (hb : Below w.heap.size w w') => Steps_rets b0 _ _ l0 g w' (S0.mono hb) (A0.mono hb)
  have H26 := Lib.hid fun w' p n c q k d (hb : Below w.heap.size w w') (hs : SlS w' (.slice p n c) L1) (ha : SlA w' (.slice q k d) M1) => Merge_rets b0 B1 _ _ _ _ l0 L1 g M1 w' (S0.mono hb) (A0.mono hb) hs ha (fun h14 => by omega) (fun s hs => by
   obtain ⟨t, R, _⟩ := Runs.of hs
   have := R.len
   rw [← hk0]
   exact few_len hm (by omega))
  exact TraceMemory_good b0 p0 q0 n0 c0 k0 d0 a w hm l0 g (Lib.hid ⟨S0, G0⟩) (Lib.hid hlen) B1 B2 B3 L1 L2 L3 M1 M2 M3 E1 E2 E3 H40 H55 H21 H69 H26 HAL
end Go.Proofs.YtccnkebkgegohaaGreatDoor
end
