import Derived.Test.YtccnkebkgegohaaGreatDoorHS8
/-
  Given contracts of functions of the program, and laws for them, one behind the other.
-/
set_option linter.unusedVariables false
set_option linter.unusedSimpArgs false
set_option linter.unusedSectionVars false
section
namespace Go.Proofs.YtccnkebkgegohaaGreatDoor
open Go.RowKit Go.Rel
set_option maxRecDepth 100000
/-! Act, of the reference -/
theorem acv_sl {a : Ac} {W : World} {g : Nat} (h : Blk W g #[.int .u8 a.1, .int .i64 a.2.1, .int .u64 (pl a.2.2 0), .int .u64 (pl a.2.2 1), .int .u64 (pl a.2.2 2), .int .u64 (pl a.2.2 3), .int .u64 (pl a.2.2 4), .int .u64 (pl a.2.2 5), .int .u64 (pl a.2.2 6), .int .u64 (pl a.2.2 7)] 46) : SlN W (.slice (some ⟨g, 0, none⟩) 1 1) [a] :=
  ⟨Sl.ofBlk h rfl (by decide) (by simp) (by simp), fun n c e => by cases e⟩
/-- a list of acts appended to a list that has no room -/
theorem app_full {q : Option Addr} {u : Value} {xs ys : List Ac} {W : World} (hx : SlN W (.slice q xs.length xs.length) xs) (hs : SlN W u ys) (hy : ys ≠ []) (hk : xs.length + ys.length ≤ 1048576) :
    ∃ v' w', (Builtin.append_ #[28, 28] 28 #[.slice q xs.length xs.length, u]).run Tryz.prog W = .ok v' w' ∧ OwnA w' W.heap.size v' (xs ++ ys) ∧ Below W.heap.size W w' := by
  obtain ⟨i0, hi, hz0, hz1, hz2⟩ := info_parts info46
  rcases hs.opn with ⟨rfl, h0⟩ | ⟨p, c, rfl, hc⟩
  · exact absurd h0 hy
  · have hyl : 0 < ys.length := List.length_pos_iff.2 hy
    rcases hx.opn with ⟨he, h0⟩ | ⟨p', c', he, hc'⟩
    · subst h0
      have hq : q = none := by simpa using he
      subst hq
      obtain ⟨v', w', hr, ho, hgr, _⟩ := run_append_keep W W.heap.size 28 28 46 i0 (.agg #[.int .u8 0, .int .i64 0, .int .u64 0, .int .u64 0, .int .u64 0, .int .u64 0, .int .u64 0, .int .u64 0, .int .u64 0, .int .u64 0]) 10 80 Tryz.underlying28 hi hz0 hz1 hz2 rfl (by decide) (.slice none 0 0) 0 [] (World.ownsRow_nil _ _ _ _) p ys.length c ((ys.map acL).flatten) (acFlat_len ys) (hc W (Below.refl _ _)) one_ac (by unfold maxLen; omega) (by omega) (Nat.le_refl _)
      refine ⟨v', w', hr, ?_, (Below.refl _ _).grown hgr (Nat.le_refl _) (fun k hk => by cases hk)⟩
      unfold OwnA
      simpa using ho
    · have hc2 : xs.length = c' := by injection he
      have hq : q = some p' := by injection he
      subst hq
      have hr := run_append_grow (P := Tryz.prog) W 28 28 46 i0 (.agg #[.int .u8 0, .int .i64 0, .int .u64 0, .int .u64 0, .int .u64 0, .int .u64 0, .int .u64 0, .int .u64 0, .int .u64 0, .int .u64 0]) Tryz.underlying28 hi hz0 p' xs.length xs.length ((xs.map acL).flatten) (by rw [acFlat_len, hz1]) (hc' W (Below.refl _ _)) p ys.length c ((ys.map acL).flatten) (by rw [acFlat_len, hz1]) (hc W (Below.refl _ _)) (by omega) (by omega) (growslice_fits (by omega) (by rw [hz2]; omega))
      refine ⟨_, _, hr, ?_, bel_alloc (bel_drew (bel_refl _)) _⟩
      have hlen : ((xs.map acL).flatten ++ (ys.map acL).flatten).length = (xs.length + ys.length) * 10 := by rw [List.length_append, acFlat_len, acFlat_len, Nat.add_mul]
      have hfl : ((xs ++ ys).map acL).flatten = (xs.map acL).flatten ++ (ys.map acL).flatten := by simp
      unfold OwnA
      rw [List.length_append, hfl]
      have hge := grownCap_ge W (xs.length + ys.length) xs.length 46
      refine ⟨hlen, .inr ⟨W.heap.size, _, _, rfl, Nat.le_refl _, heap_alloc_new W.drew _, hge, grownCap_le_maxLen W _ _ _ (by unfold maxLen; omega), ?_, ?_⟩⟩
      · simp only [Array.size_append, List.size_toArray, size_zeroCells, acFlat_len]
        rw [show (Value.cells (.agg #[.int .u8 0, .int .i64 0, .int .u64 0, .int .u64 0, .int .u64 0, .int .u64 0, .int .u64 0, .int .u64 0, .int .u64 0, .int .u64 0])).size = 10 from rfl]
        omega
      · simp only [Array.toList_append, List.append_assoc]
        rw [← List.append_assoc, ← hlen]
        exact List.take_left
set_option maxHeartbeats 4000000 in
theorem refAct_no (b : Sol) (p q : Option Addr) (n c k d : Nat) (a : Ac) (w : World) (x y : Int) (hne : (y != 0) = true) (H : Hid (∀ w', Below w.heap.size w w' → Calls Tryz.prog 38 #[.agg #[.int .u64 (pl b 0), .int .u64 (pl b 1), .int .u64 (pl b 2), .int .u64 (pl b 3), .int .u64 (pl b 4), .int .u64 (pl b 5), .int .u64 (pl b 6), .int .u64 (pl b 7), .slice p n c, .slice q k d]] w' fun e w'' => e = .returned (.tuple #[.int .i64 x, .int .i64 y]) ∧ Below w'.heap.size w' w'')) :
    Calls Tryz.prog 41 #[.agg #[.int .u64 (pl b 0), .int .u64 (pl b 1), .int .u64 (pl b 2), .int .u64 (pl b 3), .int .u64 (pl b 4), .int .u64 (pl b 5), .int .u64 (pl b 6), .int .u64 (pl b 7), .slice p n c, .slice q k d], .agg #[.int .u8 a.1, .int .i64 a.2.1, .int .u64 (pl a.2.2 0), .int .u64 (pl a.2.2 1), .int .u64 (pl a.2.2 2), .int .u64 (pl a.2.2 3), .int .u64 (pl a.2.2 4), .int .u64 (pl a.2.2 5), .int .u64 (pl a.2.2 6), .int .u64 (pl a.2.2 7)]] w fun e w' => e = .returned (.tuple #[.agg #[.int .u64 0, .int .u64 0, .int .u64 0, .int .u64 0, .int .u64 0, .int .u64 0, .int .u64 0, .int .u64 0, .slice none 0 0, .slice none 0 0], .int .i64 y]) ∧ Below w.heap.size w w' := by
  go_enter Tryz.func41, Tryz.ntmps41
  go_wp2_with fail
  refine (H.out _ bel_by).mono ?_
  rintro e w1 ⟨rfl, hb⟩
  have b1 : Blk w1 (w.heap.size + 1 + 1) #[.int .u64 0, .int .u64 0, .int .u64 0, .int .u64 0, .int .u64 0, .int .u64 0, .int .u64 0, .int .u64 0, .slice none 0 0, .slice none 0 0] 30 := Blk.grow blk_by hb
  have hB1 : Below w.heap.size w w1 := bel_trans bel_by hb
  have r1 := b1.row
  have l1 := b1.lt
  rw [← b1.rw]
  clear b1 hb
  go_wp2_with fail
  refine bodyPost_ret (by simp [results, Tryz.results41, go_sem, *]) rfl ⟨rfl, blw_row hB1 (by omega) _⟩
set_option maxHeartbeats 8000000 in
theorem refAct_go (b : Sol) (p q : Option Addr) (n c k d : Nat) (a : Ac) (w : World) (x y : Int) (r : Bool) (x2 y2 : Int) (l : List Sol) (m : List Ac) (HV : Hid (SlS w (.slice p n c) l)) (hne : (y != 0) = false) (hn2 : (y2 != 0) = r) (H : Hid (∀ w', Below w.heap.size w w' → Calls Tryz.prog 38 #[.agg #[.int .u64 (pl b 0), .int .u64 (pl b 1), .int .u64 (pl b 2), .int .u64 (pl b 3), .int .u64 (pl b 4), .int .u64 (pl b 5), .int .u64 (pl b 6), .int .u64 (pl b 7), .slice p n c, .slice q k d]] w' fun e w'' => e = .returned (.tuple #[.int .i64 x, .int .i64 y]) ∧ Below w'.heap.size w' w''))
    (H106 : Hid (∀ w', Below w.heap.size w w' → ∀ u, SlN w' u [a] → Calls Tryz.prog 106 #[.agg #[.int .u64 (pl b 0), .int .u64 (pl b 1), .int .u64 (pl b 2), .int .u64 (pl b 3), .int .u64 (pl b 4), .int .u64 (pl b 5), .int .u64 (pl b 6), .int .u64 (pl b 7), .slice p n c, .slice q k d], u] w' fun e w'' => ∃ p' n' c', e = .returned (.agg #[.int .u64 (pl b 0), .int .u64 (pl b 1), .int .u64 (pl b 2), .int .u64 (pl b 3), .int .u64 (pl b 4), .int .u64 (pl b 5), .int .u64 (pl b 6), .int .u64 (pl b 7), .slice p n c, .slice p' n' c']) ∧ OwnA w'' w'.heap.size (.slice p' n' c') m ∧ Below w'.heap.size w' w''))
    (H2 : Hid (∀ w', Below w.heap.size w w' → ∀ p' n' c', SlA w' (.slice p' n' c') m → Calls Tryz.prog 38 #[.agg #[.int .u64 (pl b 0), .int .u64 (pl b 1), .int .u64 (pl b 2), .int .u64 (pl b 3), .int .u64 (pl b 4), .int .u64 (pl b 5), .int .u64 (pl b 6), .int .u64 (pl b 7), .slice p n c, .slice p' n' c']] w' fun e w'' => e = .returned (.tuple #[.int .i64 x2, .int .i64 y2]) ∧ Below w'.heap.size w' w'')) :
    Calls Tryz.prog 41 #[.agg #[.int .u64 (pl b 0), .int .u64 (pl b 1), .int .u64 (pl b 2), .int .u64 (pl b 3), .int .u64 (pl b 4), .int .u64 (pl b 5), .int .u64 (pl b 6), .int .u64 (pl b 7), .slice p n c, .slice q k d], .agg #[.int .u8 a.1, .int .i64 a.2.1, .int .u64 (pl a.2.2 0), .int .u64 (pl a.2.2 1), .int .u64 (pl a.2.2 2), .int .u64 (pl a.2.2 3), .int .u64 (pl a.2.2 4), .int .u64 (pl a.2.2 5), .int .u64 (pl a.2.2 6), .int .u64 (pl a.2.2 7)]] w fun e w' => if r = true then e = .returned (.tuple #[.agg #[.int .u64 0, .int .u64 0, .int .u64 0, .int .u64 0, .int .u64 0, .int .u64 0, .int .u64 0, .int .u64 0, .slice none 0 0, .slice none 0 0], .int .i64 y2]) ∧ Below w.heap.size w w' else HRes b l m 0 w e w' := by
  go_enter Tryz.func41, Tryz.ntmps41
  go_wp2_with fail
  refine (H.out _ bel_by).mono ?_
  rintro e w1 ⟨rfl, hb⟩
  have hB1 : Below w.heap.size w w1 := bel_trans bel_by hb
  have g0 : Blk w1 w.heap.size #[.int .u64 (pl b 0), .int .u64 (pl b 1), .int .u64 (pl b 2), .int .u64 (pl b 3), .int .u64 (pl b 4), .int .u64 (pl b 5), .int .u64 (pl b 6), .int .u64 (pl b 7), .slice p n c, .slice q k d] 30 := Blk.grow blk_by hb
  have g1 : Blk w1 (w.heap.size + 1) #[.int .u8 a.1, .int .i64 a.2.1, .int .u64 (pl a.2.2 0), .int .u64 (pl a.2.2 1), .int .u64 (pl a.2.2 2), .int .u64 (pl a.2.2 3), .int .u64 (pl a.2.2 4), .int .u64 (pl a.2.2 5), .int .u64 (pl a.2.2 6), .int .u64 (pl a.2.2 7)] 46 := Blk.grow blk_by hb
  have g2 : Blk w1 (w.heap.size + 1 + 1) #[.int .u64 0, .int .u64 0, .int .u64 0, .int .u64 0, .int .u64 0, .int .u64 0, .int .u64 0, .int .u64 0, .slice none 0 0, .slice none 0 0] 30 := Blk.grow blk_by hb
  have c0 := g0.cell
  have l0 := g0.lt
  have c1 := g1.cell
  have l1 := g1.lt
  have l2 := g2.lt
  clear hb
  go_wp2_with fail
  clear c0 l0 c1 l1
  have hbe : Below w1.heap.size w1 (w1.alloc (.cells (#[.int .u8 a.1, .int .i64 a.2.1, .int .u64 (pl a.2.2 0), .int .u64 (pl a.2.2 1), .int .u64 (pl a.2.2 2), .int .u64 (pl a.2.2 3), .int .u64 (pl a.2.2 4), .int .u64 (pl a.2.2 5), .int .u64 (pl a.2.2 6), .int .u64 (pl a.2.2 7)] : Array Value) 46)) := bel_alloc (bel_refl _) _
  have hsl : SlN (w1.alloc (.cells (#[.int .u8 a.1, .int .i64 a.2.1, .int .u64 (pl a.2.2 0), .int .u64 (pl a.2.2 1), .int .u64 (pl a.2.2 2), .int .u64 (pl a.2.2 3), .int .u64 (pl a.2.2 4), .int .u64 (pl a.2.2 5), .int .u64 (pl a.2.2 6), .int .u64 (pl a.2.2 7)] : Array Value) 46)) (.slice (some ⟨w1.heap.size, 0, none⟩) 1 1) [a] := acv_sl (Blk.new _ _ _)
  generalize hwv : (w1.alloc (.cells (#[.int .u8 a.1, .int .i64 a.2.1, .int .u64 (pl a.2.2 0), .int .u64 (pl a.2.2 1), .int .u64 (pl a.2.2 2), .int .u64 (pl a.2.2 3), .int .u64 (pl a.2.2 4), .int .u64 (pl a.2.2 5), .int .u64 (pl a.2.2 6), .int .u64 (pl a.2.2 7)] : Array Value) 46)) = wv at *
  have hB2 : Below w.heap.size w wv := bel_trans hB1 hbe
  refine (H106.out _ hB2 _ hsl).mono ?_
  rintro e w2 ⟨p', n', c', rfl, hO, hb2⟩
  have hB3 : Below w.heap.size w w2 := bel_trans hB2 hb2
  have g2' : Blk w2 (w.heap.size + 1 + 1) #[.int .u64 0, .int .u64 0, .int .u64 0, .int .u64 0, .int .u64 0, .int .u64 0, .int .u64 0, .int .u64 0, .slice none 0 0, .slice none 0 0] 30 := (g2.grow hbe).grow hb2
  have hsz := hbe.size
  have hO2 := own_weak hO (show w.heap.size + 1 + 1 + 1 ≤ wv.heap.size by omega)
  have l2' := g2'.lt
  clear hO hsl hwv hbe hb2 g0 g1 g2 l2 hsz hB1 hB2
  go_wp2_with fail
  have hbe : Below w2.heap.size w2 (w2.alloc (.cells (#[.int .u64 (pl b 0), .int .u64 (pl b 1), .int .u64 (pl b 2), .int .u64 (pl b 3), .int .u64 (pl b 4), .int .u64 (pl b 5), .int .u64 (pl b 6), .int .u64 (pl b 7), .slice p n c, .slice p' n' c'] : Array Value) 30)) := bel_alloc (bel_refl _) _
  have g8 : Blk (w2.alloc (.cells (#[.int .u64 (pl b 0), .int .u64 (pl b 1), .int .u64 (pl b 2), .int .u64 (pl b 3), .int .u64 (pl b 4), .int .u64 (pl b 5), .int .u64 (pl b 6), .int .u64 (pl b 7), .slice p n c, .slice p' n' c'] : Array Value) 30)) w2.heap.size #[.int .u64 (pl b 0), .int .u64 (pl b 1), .int .u64 (pl b 2), .int .u64 (pl b 3), .int .u64 (pl b 4), .int .u64 (pl b 5), .int .u64 (pl b 6), .int .u64 (pl b 7), .slice p n c, .slice p' n' c'] 30 := Blk.new _ _ _
  generalize hwv : (w2.alloc (.cells (#[.int .u64 (pl b 0), .int .u64 (pl b 1), .int .u64 (pl b 2), .int .u64 (pl b 3), .int .u64 (pl b 4), .int .u64 (pl b 5), .int .u64 (pl b 6), .int .u64 (pl b 7), .slice p n c, .slice p' n' c'] : Array Value) 30)) = w3 at *
  have hB4 : Below w.heap.size w w3 := bel_trans hB3 hbe
  have hO3 := own_grow hO2 hbe
  have HO := Lib.hid hO3
  refine (H2.out _ hB4 _ _ _ (OwnA.sl hO3)).mono ?_
  rintro e w4 ⟨rfl, hb4⟩
  have hB5 : Below w.heap.size w w4 := bel_trans hB4 hb4
  have G2 : Blk w4 (w.heap.size + 1 + 1) #[.int .u64 0, .int .u64 0, .int .u64 0, .int .u64 0, .int .u64 0, .int .u64 0, .int .u64 0, .int .u64 0, .slice none 0 0, .slice none 0 0] 30 := (g2'.grow hbe).grow hb4
  have G8 := g8.grow hb4
  have HO4 := Lib.hid (own_grow HO.out hb4)
  have hne8 : w2.heap.size ≠ w.heap.size + 1 + 1 := by omega
  clear hO2 hO3 HO hwv hbe hb4 g2' g8 hB3 hB4 l2'
  generalize w2.heap.size = B8 at *
  have c8 := G8.cell
  have l8 := G8.lt
  have r2 := G2.row
  have l2 := G2.lt
  rw [← G2.rw]
  clear G8
  cases r with
  | false =>
    go_wp2_with fail
    refine bodyPost_ret (v := .tuple #[.agg #[.int .u64 (pl b 0), .int .u64 (pl b 1), .int .u64 (pl b 2), .int .u64 (pl b 3), .int .u64 (pl b 4), .int .u64 (pl b 5), .int .u64 (pl b 6), .int .u64 (pl b 7), .slice p n c, .slice p' n' c'], .int .i64 0]) (by simp [results, Tryz.results41, go_sem, *]) rfl ?_
    have hBf : Below w.heap.size w (w4.setRow (w.heap.size + 1 + 1) #[.int .u64 (pl b 0), .int .u64 (pl b 1), .int .u64 (pl b 2), .int .u64 (pl b 3), .int .u64 (pl b 4), .int .u64 (pl b 5), .int .u64 (pl b 6), .int .u64 (pl b 7), .slice p n c, .slice p' n' c']) := blw_row hB5 (by omega) _
    show HRes b l m 0 w _ _
    exact ⟨p, n, c, p', n', c', rfl, HV.out.mono hBf, (own_rowO HO4.out _).sl, hBf⟩
  | true =>
    go_wp2_with fail
    refine bodyPost_ret (v := .tuple #[.agg #[.int .u64 0, .int .u64 0, .int .u64 0, .int .u64 0, .int .u64 0, .int .u64 0, .int .u64 0, .int .u64 0, .slice none 0 0, .slice none 0 0], .int .i64 y2]) (by simp [results, Tryz.results41, go_sem, *]) rfl ?_
    show _ = _ ∧ _
    exact ⟨rfl, blw_row hB5 (by omega) _⟩
theorem refAct_spec (b : Sol) (v av : Value) (l : List Sol) (m : List Ac) (a : Ac) (w : World) (Hv : SlS w v l) (Hav : SlN w av m) :
    Calls Tryz.prog 41 #[.agg #[.int .u64 (pl b 0), .int .u64 (pl b 1), .int .u64 (pl b 2), .int .u64 (pl b 3), .int .u64 (pl b 4), .int .u64 (pl b 5), .int .u64 (pl b 6), .int .u64 (pl b 7), v, av], .agg #[.int .u8 a.1, .int .i64 a.2.1, .int .u64 (pl a.2.2 0), .int .u64 (pl a.2.2 1), .int .u64 (pl a.2.2 2), .int .u64 (pl a.2.2 3), .int .u64 (pl a.2.2 4), .int .u64 (pl a.2.2 5), .int .u64 (pl a.2.2 6), .int .u64 (pl a.2.2 7)]] w (ActRes b l m a w) := by
  have Hv' := Hv
  have Hav' := Hav.1
  obtain ⟨p, c, rfl, _, _⟩ := Hv'
  obtain ⟨q, d, rfl, _, _⟩ := Hav'
  have H := Lib.hid fun w' (hb : Below w.heap.size w w') => refCheck_spec b _ _ l m w' (Hv.mono hb) (Hav.1.mono hb)
  by_cases h0 : (checkR b l m).2 = 0
  · have H106 := Lib.hid fun w' (hb : Below w.heap.size w w') => fun u (hu : SlN w' u [a]) => (behind_spec b _ _ u m [a] w' ⟨_, _, _, rfl⟩ (Hav.mono hb) hu (by have := checkR_len h0; simp; omega)).mono fun e w'' (h : ∃ bv, e = .returned (.agg #[.int .u64 (pl b 0), .int .u64 (pl b 1), .int .u64 (pl b 2), .int .u64 (pl b 3), .int .u64 (pl b 4), .int .u64 (pl b 5), .int .u64 (pl b 6), .int .u64 (pl b 7), .slice p (l.map solL).length c, bv]) ∧ OwnA w'' w'.heap.size bv (m ++ [a]) ∧ Below w'.heap.size w' w'') => by
      obtain ⟨bv, he, hO, hb2⟩ := h
      obtain ⟨p', n', c', rfl⟩ := own_shape hO
      exact (⟨p', n', c', he, hO, hb2⟩ : ∃ p' n' c', e = .returned (.agg #[.int .u64 (pl b 0), .int .u64 (pl b 1), .int .u64 (pl b 2), .int .u64 (pl b 3), .int .u64 (pl b 4), .int .u64 (pl b 5), .int .u64 (pl b 6), .int .u64 (pl b 7), .slice p (l.map solL).length c, .slice p' n' c']) ∧ OwnA w'' w'.heap.size (.slice p' n' c') (m ++ [a]) ∧ Below w'.heap.size w' w'')
    have H2 := Lib.hid fun w' (hb : Below w.heap.size w w') => fun p' n' c' (ha : SlA w' (.slice p' n' c') (m ++ [a])) => refCheck_spec b _ _ l (m ++ [a]) w' (Hv.mono hb) ha
    by_cases h2 : (checkR b l (m ++ [a])).2 = 0
    · exact (refAct_go b p q _ c _ d a w _ _ false _ _ l (m ++ [a]) (Lib.hid Hv) (by simpa using h0) (by simpa using h2) H H106 H2).mono fun e w' h => actRes_yes h0 h2 (by rw [if_neg (by decide)] at h; exact h)
    · exact (refAct_go b p q _ c _ d a w _ _ true _ _ l (m ++ [a]) (Lib.hid Hv) (by simpa using h0) (by simpa using h2) H H106 H2).mono fun e w' h => actRes_no2 h0 h2 (by rw [if_pos rfl] at h; obtain ⟨rfl, hb⟩ := h; exact hres_zero hb)
  · exact (refAct_no b p q _ c _ d a w _ _ (by simpa using h0) H).mono fun e w' h => actRes_no h0 (by obtain ⟨rfl, hb⟩ := h; exact hres_zero hb)
end Go.Proofs.YtccnkebkgegohaaGreatDoor
end
section
namespace Go.Proofs.YtccnkebkgegohaaGreatDoor
open Go.RowKit Go.Rel
set_option maxRecDepth 100000
/-! Act -/
@[irreducible] def VSNf (xs : List Ac) (v : Value) (W : World) : Prop := ∃ q, v = .slice q xs.length xs.length ∧ SlN W v xs
@[irreducible] def VSA1 (xs : List Ac) (v : Value) (W : World) : Prop := SlA W v xs
@[irreducible] def VS1 (xs : List Ac) (v : Value) (W : World) : Prop := ∃ g, v = .slice (some ⟨g, 0, none⟩) 1 1 ∧ SlN W v xs
theorem VSNf.stab {xs : List Ac} (v : Value) (W W' : World) (h : VSNf xs v W) (g : Grows W W') : VSNf xs v W' := by unfold VSNf at *; obtain ⟨q, h1, h2⟩ := h; exact ⟨q, h1, h2.mono g⟩
theorem VSA1.stab {xs : List Ac} (v : Value) (W W' : World) (h : VSA1 xs v W) (g : Grows W W') : VSA1 xs v W' := by unfold VSA1 at *; exact h.mono g
theorem VS1.stab {xs : List Ac} (v : Value) (W W' : World) (h : VS1 xs v W) (g : Grows W W') : VS1 xs v W' := by unfold VS1 at *; obtain ⟨q, h1, h2⟩ := h; exact ⟨q, h1, h2.mono g⟩
theorem begun_no (b : Sol) (l : List Sol) (m : List Ac) {v av : Value} (w : World) (Hv : SlS w v l) (Hav : SlA w av m) (h0 : ¬ (checkR b l m).2 = 0) :
    Calls Tryz.prog 89 #[.agg #[.int .u64 (pl b 0), .int .u64 (pl b 1), .int .u64 (pl b 2), .int .u64 (pl b 3), .int .u64 (pl b 4), .int .u64 (pl b 5), .int .u64 (pl b 6), .int .u64 (pl b 7), v, av]] w fun e w' => e = .returned (.tuple #[.pointer none, .int .i64 (checkR b l m).1, .int .i64 (checkR b l m).2]) ∧ Below w.heap.size w w' := by
  unfold checkR at h0 ⊢
  cases h : begunM b l m with
  | inl x => exact begun_bad h w Hv Hav
  | inr s => rw [h] at h0; exact absurd rfl h0
set_option maxHeartbeats 4000000 in
theorem Act_no (b : Sol) (p q : Option Addr) (n c k d : Nat) (a : Ac) (w : World) (x y : Int) (hne : (y != 0) = true) (H : Hid (∀ w', Below w.heap.size w w' → Calls Tryz.prog 89 #[.agg #[.int .u64 (pl b 0), .int .u64 (pl b 1), .int .u64 (pl b 2), .int .u64 (pl b 3), .int .u64 (pl b 4), .int .u64 (pl b 5), .int .u64 (pl b 6), .int .u64 (pl b 7), .slice p n c, .slice q k d]] w' fun e w'' => e = .returned (.tuple #[.pointer none, .int .i64 x, .int .i64 y]) ∧ Below w'.heap.size w' w'')) :
    Calls Tryz.prog 40 #[.agg #[.int .u64 (pl b 0), .int .u64 (pl b 1), .int .u64 (pl b 2), .int .u64 (pl b 3), .int .u64 (pl b 4), .int .u64 (pl b 5), .int .u64 (pl b 6), .int .u64 (pl b 7), .slice p n c, .slice q k d], .agg #[.int .u8 a.1, .int .i64 a.2.1, .int .u64 (pl a.2.2 0), .int .u64 (pl a.2.2 1), .int .u64 (pl a.2.2 2), .int .u64 (pl a.2.2 3), .int .u64 (pl a.2.2 4), .int .u64 (pl a.2.2 5), .int .u64 (pl a.2.2 6), .int .u64 (pl a.2.2 7)]] w fun e w' => e = .returned (.tuple #[.agg #[.int .u64 0, .int .u64 0, .int .u64 0, .int .u64 0, .int .u64 0, .int .u64 0, .int .u64 0, .int .u64 0, .slice none 0 0, .slice none 0 0], .int .i64 y]) ∧ Below w.heap.size w w' := by
  go_enter Tryz.func40, Tryz.ntmps40
  go_wp2_with fail
  refine (H.out _ bel_by).mono ?_
  rintro e w1 ⟨rfl, hb⟩
  have b1 : Blk w1 (w.heap.size + 1 + 1) #[.int .u64 0, .int .u64 0, .int .u64 0, .int .u64 0, .int .u64 0, .int .u64 0, .int .u64 0, .int .u64 0, .slice none 0 0, .slice none 0 0] 30 := Blk.grow blk_by hb
  have hB1 : Below w.heap.size w w1 := bel_trans bel_by hb
  have r1 := b1.row
  have l1 := b1.lt
  rw [← b1.rw]
  clear b1 hb
  go_wp2_with fail
  refine bodyPost_ret (by simp [results, Tryz.results40, go_sem, *]) rfl ⟨rfl, blw_row hB1 (by omega) _⟩
set_option maxHeartbeats 16000000 in
theorem Act_go (b : Sol) (p q : Option Addr) (n c k d : Nat) (a : Ac) (w : World) (r : Bool) (x2 y2 : Int) (l : List Sol) (m : List Ac) (s : Stn) (hk : m.length = k) (hkd : k ≤ d) (HA : Hid (SlN w (.slice q k d) m)) (h60 : k ≤ 60) (h8 : l.length ≤ 8) (HV : Hid (SlS w (.slice p n c) l)) (hn2 : (y2 != 0) = r)
    (H : Hid (∀ w', Below w.heap.size w w' → Calls Tryz.prog 89 #[.agg #[.int .u64 (pl b 0), .int .u64 (pl b 1), .int .u64 (pl b 2), .int .u64 (pl b 3), .int .u64 (pl b 4), .int .u64 (pl b 5), .int .u64 (pl b 6), .int .u64 (pl b 7), .slice p n c, .slice q k d]] w' fun e w'' => ∃ bp, e = .returned (.tuple #[.pointer (some ⟨bp, 0, none⟩), .int .i64 0, .int .i64 0]) ∧ w'.heap.size ≤ bp ∧ PastAt bp b (.slice p n c) (.slice q k d) l m s w'' ∧ Below w'.heap.size w' w''))
    (H2 : Hid (∀ w', Below w.heap.size w w' → ∀ pv bv, SlS w' pv l → SlA w' bv (m ++ [a]) → Calls Tryz.prog 27 #[.agg #[.int .u64 (pl b 0), .int .u64 (pl b 1), .int .u64 (pl b 2), .int .u64 (pl b 3), .int .u64 (pl b 4), .int .u64 (pl b 5), .int .u64 (pl b 6), .int .u64 (pl b 7), pv, bv]] w' fun e w'' => e = .returned (.tuple #[.int .i64 x2, .int .i64 y2]) ∧ Below w'.heap.size w' w'')) :
    Calls Tryz.prog 40 #[.agg #[.int .u64 (pl b 0), .int .u64 (pl b 1), .int .u64 (pl b 2), .int .u64 (pl b 3), .int .u64 (pl b 4), .int .u64 (pl b 5), .int .u64 (pl b 6), .int .u64 (pl b 7), .slice p n c, .slice q k d], .agg #[.int .u8 a.1, .int .i64 a.2.1, .int .u64 (pl a.2.2 0), .int .u64 (pl a.2.2 1), .int .u64 (pl a.2.2 2), .int .u64 (pl a.2.2 3), .int .u64 (pl a.2.2 4), .int .u64 (pl a.2.2 5), .int .u64 (pl a.2.2 6), .int .u64 (pl a.2.2 7)]] w fun e w' => if r = true then e = .returned (.tuple #[.agg #[.int .u64 0, .int .u64 0, .int .u64 0, .int .u64 0, .int .u64 0, .int .u64 0, .int .u64 0, .int .u64 0, .slice none 0 0, .slice none 0 0], .int .i64 y2]) ∧ Below w.heap.size w w' else HRes b l (m ++ [a]) 0 w e w' := by
  go_enter Tryz.func40, Tryz.ntmps40
  go_wp2_with fail
  refine (H.out _ bel_by).mono ?_
  rintro e wb ⟨bp, rfl, hbp, hP, hb⟩
  have hB1 : Below w.heap.size w wb := bel_trans bel_by hb
  have g0 : Blk wb w.heap.size #[.int .u64 (pl b 0), .int .u64 (pl b 1), .int .u64 (pl b 2), .int .u64 (pl b 3), .int .u64 (pl b 4), .int .u64 (pl b 5), .int .u64 (pl b 6), .int .u64 (pl b 7), .slice p n c, .slice q k d] 30 := Blk.grow blk_by hb
  have g1 : Blk wb (w.heap.size + 1) #[.int .u8 a.1, .int .i64 a.2.1, .int .u64 (pl a.2.2 0), .int .u64 (pl a.2.2 1), .int .u64 (pl a.2.2 2), .int .u64 (pl a.2.2 3), .int .u64 (pl a.2.2 4), .int .u64 (pl a.2.2 5), .int .u64 (pl a.2.2 6), .int .u64 (pl a.2.2 7)] 46 := Blk.grow blk_by hb
  have g2 : Blk wb (w.heap.size + 1 + 1) #[.int .u64 0, .int .u64 0, .int .u64 0, .int .u64 0, .int .u64 0, .int .u64 0, .int .u64 0, .int .u64 0, .slice none 0 0, .slice none 0 0] 30 := Blk.grow blk_by hb
  have c0 := g0.cell
  have l0 := g0.lt
  have c1 := g1.cell
  have l1 := g1.lt
  have l2 := g2.lt
  have HP := Lib.hid hP
  have HK := Lib.hid hk
  have H92 : Hid (∀ w', Below wb.heap.size wb w' → ∀ u, SlA w' u (m ++ [a]) → Calls Tryz.prog 92 #[.pointer (some ⟨bp, 0, none⟩), u] w' fun e w'' => ∃ pv bv, e = .returned (.agg #[.int .u64 (pl b 0), .int .u64 (pl b 1), .int .u64 (pl b 2), .int .u64 (pl b 3), .int .u64 (pl b 4), .int .u64 (pl b 5), .int .u64 (pl b 6), .int .u64 (pl b 7), pv, bv]) ∧ OwnS w'' w'.heap.size pv l ∧ OwnA w'' w'.heap.size bv (m ++ [a]) ∧ Below w'.heap.size w' w'') := Lib.hid fun w' hw u hu => with_spec w' (HP.out.grow hw) (HV.out.mono (bel_trans hB1 hw)) h8 u (m ++ [a]) hu (by rw [List.length_append, HK.out]; simp; omega)
  clear hb hP hbp hk H HP
  go_wp2_with fail
  refine wp_region_grow 15 [Is (.pointer (some ⟨bp, 0, none⟩)), Is (.pointer (some ⟨w.heap.size, 9, none⟩)), Is (.slice q k d), Is (.pointer (some ⟨w.heap.size, 9, none⟩)), Is (.slice q k d), Is (.int .i64 (k : Int)), Is (.pointer (some ⟨w.heap.size, 9, none⟩)), Is (.slice q k d), Is (.int .i64 (k : Int)), VSNf m, Is (.agg #[.int .u8 a.1, .int .i64 a.2.1, .int .u64 (pl a.2.2 0), .int .u64 (pl a.2.2 1), .int .u64 (pl a.2.2 2), .int .u64 (pl a.2.2 3), .int .u64 (pl a.2.2 4), .int .u64 (pl a.2.2 5), .int .u64 (pl a.2.2 6), .int .u64 (pl a.2.2 7)]), VS1 [a], VSA1 (m ++ [a]), VHist (w.heap.size + 1 + 1 + 1) b l (m ++ [a]), VBk (w.heap.size + 1 + 1 + 1) #[.int .u64 0, .int .u64 0, .int .u64 0, .int .u64 0, .int .u64 0, .int .u64 0, .int .u64 0, .int .u64 0, .slice none 0 0, .slice none 0 0] 30] (by kernel_rfl) (by kernel_rfl) rfl ⟨fun _ _ _ h _ => h, fun _ _ _ h _ => h, fun _ _ _ h _ => h, fun _ _ _ h _ => h, fun _ _ _ h _ => h, fun _ _ _ h _ => h, fun _ _ _ h _ => h, fun _ _ _ h _ => h, fun _ _ _ h _ => h, VSNf.stab, fun _ _ _ h _ => h, VS1.stab, VSA1.stab, VHist.stable, VBk.stab, trivial⟩ ?_
  simp only [List.take_succ_cons, List.take_zero, List.drop_succ_cons, List.drop_zero]
  refine rel_cons ?_ (fun v0 => ?_)
  · intro w1 hb hF
    have hc := (Grows.cells hb).1
    have hf := (Grows.cells hb).2
    try simp [facts, Is] at hF
    go_simp
    exact Grows.refl _
  refine rel_cons ?_ (fun v1 => ?_)
  · intro w1 hb hF
    have hc := (Grows.cells hb).1
    have hf := (Grows.cells hb).2
    try simp [facts, Is] at hF
    go_simp
    exact Grows.refl _
  refine rel_cons ?_ (fun v2 => ?_)
  · intro w1 hb hF
    have hc := (Grows.cells hb).1
    have hf := (Grows.cells hb).2
    try simp [facts, Is] at hF
    go_simp
    exact Grows.refl _
  refine rel_cons ?_ (fun v3 => ?_)
  · intro w1 hb hF
    have hc := (Grows.cells hb).1
    have hf := (Grows.cells hb).2
    try simp [facts, Is] at hF
    go_simp
    exact Grows.refl _
  refine rel_cons ?_ (fun v4 => ?_)
  · intro w1 hb hF
    have hc := (Grows.cells hb).1
    have hf := (Grows.cells hb).2
    try simp [facts, Is] at hF
    go_simp
    exact Grows.refl _
  refine rel_cons ?_ (fun v5 => ?_)
  · intro w1 hb hF
    have hc := (Grows.cells hb).1
    have hf := (Grows.cells hb).2
    try simp [facts, Is] at hF
    go_simp
    exact Grows.refl _
  refine rel_cons ?_ (fun v6 => ?_)
  · intro w1 hb hF
    have hc := (Grows.cells hb).1
    have hf := (Grows.cells hb).2
    try simp [facts, Is] at hF
    go_simp
    exact Grows.refl _
  refine rel_cons ?_ (fun v7 => ?_)
  · intro w1 hb hF
    have hc := (Grows.cells hb).1
    have hf := (Grows.cells hb).2
    try simp [facts, Is] at hF
    go_simp
    exact Grows.refl _
  refine rel_cons ?_ (fun v8 => ?_)
  · intro w1 hb hF
    have hc := (Grows.cells hb).1
    have hf := (Grows.cells hb).2
    try simp [facts, Is] at hF
    go_simp
    exact Grows.refl _
  refine rel_cons ?_ (fun v9 => ?_)
  · intro w1 hb hF
    have hc := (Grows.cells hb).1
    have hf := (Grows.cells hb).2
    try simp [facts, Is] at hF
    have h := Lib.hid (sln_take (HA.out.mono (bel_trans hB1 hb)).1 (Nat.le_refl k))
    go_simp
    refine ⟨Grows.refl _, ?_⟩
    unfold VSNf
    have hh := h.out
    rw [List.take_of_length_le (by rw [HK.out]; exact Nat.le_refl _)] at hh
    rw [HK.out]
    first | exact ⟨_, rfl, hh⟩ | skip
  refine rel_cons ?_ (fun v10 => ?_)
  · intro w1 hb hF
    have hc := (Grows.cells hb).1
    have hf := (Grows.cells hb).2
    try simp [facts, Is] at hF
    go_simp
    exact Grows.refl _
  refine rel_cons ?_ (fun v11 => ?_)
  · intro w1 hb hF
    have hc := (Grows.cells hb).1
    have hf := (Grows.cells hb).2
    try simp [facts, Is] at hF
    go_simp
    exact ⟨bel_alloc (bel_refl _) _, by unfold VS1; exact ⟨_, rfl, acv_sl (Blk.new _ _ _)⟩⟩
  refine rel_cons ?_ (fun v12 => ?_)
  · intro w1 hb hF
    have hc := (Grows.cells hb).1
    have hf := (Grows.cells hb).2
    try simp [facts, Is] at hF
    have h9 := hF.1
    have h11 := hF.2
    clear hF
    unfold VSNf at h9
    unfold VS1 at h11
    refine Exists.elim h9 (fun q9 h => ?_)
    have e9 := h.1
    have h9' := h.2
    clear h
    rw [e9] at h9'
    refine Exists.elim (app_full h9' (Exists.elim h11 (fun g h => h.2)) (by simp) (by rw [HK.out]; simp; omega)) (fun v' h => Exists.elim h (fun w' h => ?_))
    subst e9
    refine step_append (v := .slice q9 m.length m.length) (v7 := v11) rfl rfl ?_ ?_ h.1 ?_
    · go_simp
    · go_simp
    · exact ⟨h.2.2, by unfold VSA1; exact OwnA.sl h.2.1⟩
  refine rel_cons ?_ (fun v13 => ?_)
  · intro w1 hb hF
    have hc := (Grows.cells hb).1
    have hf := (Grows.cells hb).2
    try simp [facts, Is] at hF
    have h12 := hF.2
    have h0 := hF.1
    clear hF
    subst h0
    unfold VSA1 at h12
    have HS := Lib.hid h12; clear h12
    have hsz := hb.size
    go_simp
    refine (H92.out _ hb _ HS.out).mono ?_
    rintro e w2 ⟨pv, bv, rfl, hS, hA, hB⟩
    exact ⟨_, rfl, hB, by unfold VHist; exact ⟨pv, bv, rfl, own_weak hS (by omega), own_weak hA (by omega)⟩⟩
  refine rel_cons ?_ (fun v14 => ?_)
  · intro w1 hb hF
    have hc := (Grows.cells hb).1
    have hf := (Grows.cells hb).2
    try simp [facts, Is] at hF
    have hsz := hb.size
    go_simp
    exact ⟨bel_alloc (bel_refl _) _, by unfold VBk; exact ⟨_, rfl, (by omega), Blk.new _ _ _⟩⟩
  refine rel_nil ?_
  intro w1 hb hF
  simp [Is, Nat.forall_lt_succ_right] at hF
  have e0 := hF.1.1.1.1.1.1.1.1.1.1.1.1.1.1
  have e1 := hF.1.1.1.1.1.1.1.1.1.1.1.1.1.2
  have e2 := hF.1.1.1.1.1.1.1.1.1.1.1.1.2
  have e3 := hF.1.1.1.1.1.1.1.1.1.1.1.2
  have e4 := hF.1.1.1.1.1.1.1.1.1.1.2
  have e5 := hF.1.1.1.1.1.1.1.1.1.2
  have e6 := hF.1.1.1.1.1.1.1.1.2
  have e7 := hF.1.1.1.1.1.1.1.2
  have e8 := hF.1.1.1.1.1.1.2
  have e9 := hF.1.1.1.1.1.2
  have e10 := hF.1.1.1.1.2
  have e11 := hF.1.1.1.2
  have e12 := hF.1.1.2
  have e13 := hF.1.2
  have e14 := hF.2
  clear hF
  simp only [Act.put, List.setIfInBounds_toArray, List.set_cons_succ, List.set_cons_zero, e0, e1, e2, e3, e4, e5, e6, e7, e8, e10]
  clear e0 e1 e2 e3 e4 e5 e6 e7 e8 e10
  unfold VHist at e13
  unfold VBk at e14
  refine Veil.out ?_
  obtain ⟨pv, bv, rfl, hS, hA⟩ := e13
  obtain ⟨G9, rfl, hG9, g9⟩ := e14
  have HSl := Lib.hid (And.intro hS hA)
  obtain ⟨p', n', c', rfl⟩ := own_shape hS
  obtain ⟨q', k', d', rfl⟩ := own_shape hA
  refine Veil.on ?_
  clear e9 e11 e12 hS hA c0 l0 c1 l1 g0 g1
  have hB2 : Below w.heap.size w w1 := bel_trans hB1 hb
  have G2 := (g2.grow hb).rowO (g := G9) #[.int .u64 (pl b 0), .int .u64 (pl b 1), .int .u64 (pl b 2), .int .u64 (pl b 3), .int .u64 (pl b 4), .int .u64 (pl b 5), .int .u64 (pl b 6), .int .u64 (pl b 7), .slice p' n' c', .slice q' k' d'] (by omega)
  have HS2 : Hid (OwnS (w1.setRow G9 #[.int .u64 (pl b 0), .int .u64 (pl b 1), .int .u64 (pl b 2), .int .u64 (pl b 3), .int .u64 (pl b 4), .int .u64 (pl b 5), .int .u64 (pl b 6), .int .u64 (pl b 7), .slice p' n' c', .slice q' k' d']) (w.heap.size + 1 + 1 + 1) (.slice p' n' c') l ∧ OwnA (w1.setRow G9 #[.int .u64 (pl b 0), .int .u64 (pl b 1), .int .u64 (pl b 2), .int .u64 (pl b 3), .int .u64 (pl b 4), .int .u64 (pl b 5), .int .u64 (pl b 6), .int .u64 (pl b 7), .slice p' n' c', .slice q' k' d']) (w.heap.size + 1 + 1 + 1) (.slice q' k' d') (m ++ [a])) := Lib.hid ⟨own_rowT HSl.out.1 g9 (by decide) _, own_rowT HSl.out.2 g9 (by decide) _⟩
  have hB3 : Below w.heap.size w (w1.setRow G9 #[.int .u64 (pl b 0), .int .u64 (pl b 1), .int .u64 (pl b 2), .int .u64 (pl b 3), .int .u64 (pl b 4), .int .u64 (pl b 5), .int .u64 (pl b 6), .int .u64 (pl b 7), .slice p' n' c', .slice q' k' d']) := blw_row hB2 (by omega) _
  have G9' := g9.rowS #[.int .u64 (pl b 0), .int .u64 (pl b 1), .int .u64 (pl b 2), .int .u64 (pl b 3), .int .u64 (pl b 4), .int .u64 (pl b 5), .int .u64 (pl b 6), .int .u64 (pl b 7), .slice p' n' c', .slice q' k' d']
  have r9 := g9.row
  have l9 := g9.lt
  rw [← g9.rw]
  clear HSl g2 g9 hb
  go_wp2_with fail
  generalize w1.setRow G9 #[.int .u64 (pl b 0), .int .u64 (pl b 1), .int .u64 (pl b 2), .int .u64 (pl b 3), .int .u64 (pl b 4), .int .u64 (pl b 5), .int .u64 (pl b 6), .int .u64 (pl b 7), .slice p' n' c', .slice q' k' d'] = w2 at *
  refine (H2.out _ hB3 _ _ (OwnS.sl HS2.out.1) (OwnA.sl HS2.out.2)).mono ?_
  rintro e w3 ⟨rfl, hb3⟩
  have hB4 : Below w.heap.size w w3 := bel_trans hB3 hb3
  replace G2 := G2.grow hb3
  replace G9' := G9'.grow hb3
  have HS3 := Lib.hid (And.intro (own_grow HS2.out.1 hb3) (own_grow HS2.out.2 hb3))
  clear HS2 hb3 r9 l9 hB1 hB2 hB3 l2
  have hne9 : G9 ≠ w.heap.size + 1 + 1 := by omega
  have c9 := G9'.cell
  have l9 := G9'.lt
  have r2 := G2.row
  have l2 := G2.lt
  rw [← G2.rw]
  clear G9'
  cases r with
  | false =>
    go_wp2_with fail
    refine bodyPost_ret (v := .tuple #[.agg #[.int .u64 (pl b 0), .int .u64 (pl b 1), .int .u64 (pl b 2), .int .u64 (pl b 3), .int .u64 (pl b 4), .int .u64 (pl b 5), .int .u64 (pl b 6), .int .u64 (pl b 7), .slice p' n' c', .slice q' k' d'], .int .i64 0]) (by simp [results, Tryz.results40, go_sem, *]) rfl ?_
    have hBf : Below w.heap.size w (w3.setRow (w.heap.size + 1 + 1) #[.int .u64 (pl b 0), .int .u64 (pl b 1), .int .u64 (pl b 2), .int .u64 (pl b 3), .int .u64 (pl b 4), .int .u64 (pl b 5), .int .u64 (pl b 6), .int .u64 (pl b 7), .slice p' n' c', .slice q' k' d']) := blw_row hB4 (by omega) _
    show HRes b l (m ++ [a]) 0 w _ _
    exact ⟨p', n', c', q', k', d', rfl, OwnS.sl (own_rowT HS3.out.1 G2 (by decide) _), OwnA.sl (own_rowT HS3.out.2 G2 (by decide) _), hBf⟩
  | true =>
    go_wp2_with fail
    refine bodyPost_ret (v := .tuple #[.agg #[.int .u64 0, .int .u64 0, .int .u64 0, .int .u64 0, .int .u64 0, .int .u64 0, .int .u64 0, .int .u64 0, .slice none 0 0, .slice none 0 0], .int .i64 y2]) (by simp [results, Tryz.results40, go_sem, *]) rfl ?_
    show _ = _ ∧ _
    exact ⟨rfl, blw_row hB4 (by omega) _⟩
theorem Act_spec (b : Sol) (v av : Value) (l : List Sol) (m : List Ac) (a : Ac) (w : World) (Hv : SlS w v l) (Hav : SlN w av m) :
    Calls Tryz.prog 40 #[.agg #[.int .u64 (pl b 0), .int .u64 (pl b 1), .int .u64 (pl b 2), .int .u64 (pl b 3), .int .u64 (pl b 4), .int .u64 (pl b 5), .int .u64 (pl b 6), .int .u64 (pl b 7), v, av], .agg #[.int .u8 a.1, .int .i64 a.2.1, .int .u64 (pl a.2.2 0), .int .u64 (pl a.2.2 1), .int .u64 (pl a.2.2 2), .int .u64 (pl a.2.2 3), .int .u64 (pl a.2.2 4), .int .u64 (pl a.2.2 5), .int .u64 (pl a.2.2 6), .int .u64 (pl a.2.2 7)]] w (ActRes b l m a w) := by
  have Hv' := Hv
  have Hav' := Hav.1
  obtain ⟨p, c, rfl, _, _⟩ := Hv'
  obtain ⟨q, d, rfl, hkd, _⟩ := Hav'
  have hl : m.length = (m.map acL).length := (List.length_map ..).symm
  by_cases h0 : (checkR b l m).2 = 0
  · obtain ⟨s, hs⟩ := checkR_ok h0
    have h60 := checkR_len h0
    have H := Lib.hid fun w' (hb : Below w.heap.size w w') => begun_good hs w' (Hv.mono hb) (Hav.1.mono hb)
    have h8 := chkPat_ok (begunM_good hs).1
    have H2 := Lib.hid fun w' (hb : Below w.heap.size w w') => fun pv bv (hp : SlS w' pv l) (ha : SlA w' bv (m ++ [a])) => Check_spec b pv bv l (m ++ [a]) w' hp ha
    by_cases h2 : (checkR b l (m ++ [a])).2 = 0
    · exact (Act_go b p q _ c _ d a w false _ _ l m s hl hkd (Lib.hid Hav) (by omega) h8 (Lib.hid Hv) (by simpa using h2) H H2).mono fun e w' h => actRes_yes h0 h2 (by rw [if_neg (by decide)] at h; exact h)
    · exact (Act_go b p q _ c _ d a w true _ _ l m s hl hkd (Lib.hid Hav) (by omega) h8 (Lib.hid Hv) (by simpa using h2) H H2).mono fun e w' h => actRes_no2 h0 h2 (by rw [if_pos rfl] at h; obtain ⟨rfl, hb⟩ := h; exact hres_zero hb)
  · have H := Lib.hid fun w' (hb : Below w.heap.size w w') => begun_no b l m w' (Hv.mono hb) (Hav.1.mono hb) h0
    exact (Act_no b p q _ c _ d a w _ _ (by simpa using h0) H).mono fun e w' h => actRes_no h0 (by obtain ⟨rfl, hb⟩ := h; exact hres_zero hb)
end Go.Proofs.YtccnkebkgegohaaGreatDoor
end
