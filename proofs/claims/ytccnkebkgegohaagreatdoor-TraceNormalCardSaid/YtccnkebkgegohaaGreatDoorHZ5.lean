import Derived.Test.YtccnkebkgegohaaGreatDoorHZ2
/-
  Given contracts of functions of the program, and laws for them, one behind the other.
-/
set_option linter.unusedVariables false
set_option linter.unusedSimpArgs false
set_option linter.unusedSectionVars false
section
namespace Go.Proofs.YtccnkebkgegohaaGreatDoor
open Go.RowKit Go.Rel
set_option maxRecDepth 100000
/-! one act appended to a list of our own: where the longer list lies -/
theorem app_one {base : Nat} {v : Value} {xs : List Ac} {x : Ac} {p : Addr} {c : Nat} {W : World} (hown : OwnA W base v xs) (hs : SlN W (.slice (some p) 1 c) [x]) (hk : xs.length + 1 ≤ 1048576) (hbase : base ≤ W.heap.size) :
  ∃ v' w', (Builtin.append_ #[28, 28] 28 #[v, .slice (some p) 1 c]).run Tryz.prog W = .ok v' w' ∧ OwnA w' base v' (xs ++ [x]) ∧ W.grownBy w' v.ownBlock ∧ ∀ k, v'.ownBlock = some k → v.ownBlock = some k ∨ W.heap.size ≤ k := by
 obtain ⟨v', w', hr, hO, hg⟩ := app_ac hown hs (by simpa using hk) hbase
 refine ⟨v', w', hr, hO, hg, fun k hkk => ?_⟩
 obtain ⟨i0, hi, hz0, hz1, hz2⟩ := info_parts info46
 have hc : ∀ j u, (([x].map acL).flatten)[j]? = some u → W.cell? (p.add j) = some u := by
  rcases hs.opn with ⟨h, _⟩ | ⟨p', c', h, hc⟩
  ·cases h
  ·cases h
   exact hc W (Below.refl _ _)
 have hl : (([x].map acL).flatten).length = 1 * i0.size := by rw [acFlat_len, hz1]; rfl
 obtain ⟨hle, h | ⟨g, cap, cur, hv, hb, hh, hnc, hcm, hcs, htake⟩⟩ := hown
 ·obtain ⟨rfl, hx⟩ := h
  have hx : xs = [] := List.eq_nil_of_length_eq_zero hx
  subst hx
  obtain ⟨v2, w2, hr2, hO2, _⟩ := app_ac (base := W.heap.size) (W := W) (v := .slice none 0 0) (xs := []) (World.ownsRow_nil _ _ _ _) hs (by simp) (Nat.le_refl _)
  rw [hr2] at hr
  cases hr
  exact .inr (hO2.lt k hkk).1
 ·subst hv
  by_cases hroom : xs.length + 1 ≤ cap
  ·have hr2 := run_append_room (P := Tryz.prog) W 28 28 46 i0 Tryz.underlying28 hi g xs.length cap cur hh p 1 c (([x].map acL).flatten) hl hc one_ac hroom (by rw [hl, hz1, hcs, ← Nat.add_mul]; exact Nat.mul_le_mul_right _ hroom)
   rw [hr2] at hr
   cases hr
   exact .inl hkk
  ·have hn10 : (([x].map acL).flatten).length = 10 := by rw [acFlat_len]; rfl
   have holds := World.ownsRow.cells (w := W) (base := base) (e := 46) (size := 10) (v := .slice (some ⟨g, 0, none⟩) xs.length cap) (n := xs.length) (xs := (xs.map acL).flatten) ⟨hle, .inr ⟨g, cap, cur, rfl, hb, hh, hnc, hcm, hcs, htake⟩⟩ (g := g) rfl
   have hr2 := run_append_grow (P := Tryz.prog) W 28 28 46 i0 _ Tryz.underlying28 hi hz0 ⟨g, 0, none⟩ xs.length cap ((xs.map acL).flatten) (by rw [acFlat_len, hz1]) holds p 1 c (([x].map acL).flatten) hl hc (by omega) (by omega) (by rw [hz2]; exact growslice_fits (by omega) (by omega))
   rw [hr2] at hr
   cases hr
   have : k = W.heap.size := by
    have h1 : (Value.slice (some ⟨W.heap.size, 0, none⟩) (xs.length + 1) _ : Value).ownBlock = some k := hkk
    simpa [Value.ownBlock] using h1.symm
   exact .inr (by omega)
end Go.Proofs.YtccnkebkgegohaaGreatDoor
end
section
namespace Go.Proofs.YtccnkebkgegohaaGreatDoor
open Go.RowKit Go.Rel
set_option maxRecDepth 100000
/-! Steps, of the reference -/
theorem wpList_app_one {ops : Array Oper} {rest : List Oper} {o : Oper} {a : Act} {Q : Exit → Act → World → Prop} {w : World} (hgd : o.guard = none) (s x : Operand)
  (ho : o.op = .call { callee := .builtin .append, args := #[s, x], argTypes := #[28, 28] }) (hty : o.type = 28) (base : Nat) (v : Value) (p : Addr) (c : Nat) (xs : List Ac) (y : Ac) (hs : a.eval s = v) (hx : a.eval x = .slice (some p) 1 c)
  (hown : OwnA w base v xs) (hu : SlN w (.slice (some p) 1 c) [y]) (hk : xs.length + 1 ≤ 1048576) (hbase : base ≤ w.heap.size)
  (h : ∀ v' w', OwnA w' base v' (xs ++ [y]) → w.grownBy w' v.ownBlock → (∀ k, v'.ownBlock = some k → v.ownBlock = some k ∨ w.heap.size ≤ k) → wpList Tryz.prog ops Q rest (a.put o.dst v') w') : wpList Tryz.prog ops Q (o :: rest) a w := by
 refine wpList_plain hgd fun K hK => ?_
 obtain ⟨v', w', hr, h2, h3, h4⟩ := app_one hown hu hk hbase
 unfold Oper.wp execOp
 simp only [ho, hty, resolve, invoke, builtin, Sem.run_bind, Sem.run_pure, Result.andThen_ok, List.map_toArray, List.map_cons, List.map_nil, hs, hx, hr]
 exact hK _ _ (h v' w' h2 h3 h4)
/-- two lists of our own that lie apart -/
structure Two (W : World) (base : Nat) (u v : Value) (xs ys : List Ac) : Prop where
 a : OwnA W base u xs
 b : OwnA W base v ys
 sep : ∀ k, u.ownBlock = some k → v.ownBlock ≠ some k
theorem Two.swap {W : World} {base : Nat} {u v : Value} {xs ys : List Ac} (H : Two W base u v xs ys) : Two W base v u ys xs := ⟨H.b, H.a, fun k h1 h2 => H.sep k h2 h1⟩
theorem Two.grow {W W' : World} {base : Nat} {u v : Value} {xs ys : List Ac} (H : Two W base u v xs ys) (hb : Below W.heap.size W W') : Two W' base u v xs ys := ⟨own_grow H.a hb, own_grow H.b hb, H.sep⟩
theorem Two.app {W W' : World} {base : Nat} {u u' v : Value} {xs ys zs : List Ac} (H : Two W base u v xs ys) (h2 : OwnA W' base u' zs) (h3 : W.grownBy W' u.ownBlock) (h4 : ∀ k, u'.ownBlock = some k → u.ownBlock = some k ∨ W.heap.size ≤ k) : Two W' base u' v zs ys := by
 refine ⟨h2, H.b.kept h3 ?_, fun k hk hv => ?_⟩
 ·cases hu : u.ownBlock with
  | none =>
   cases hv : v.ownBlock with
   | none => exact .inl rfl
   | some g => exact .inr (by simp)
  | some g => exact .inr fun e => H.sep g hu e
 ·rcases h4 k hk with h | h
  ·exact H.sep k h hv
  ·have := (H.b.lt k hv).2; omega
set_option maxHeartbeats 16000000 in
theorem refSteps_yes (b : Sol) (p q0 : Option Addr) (n c k0 d0 : Nat) (l : List Sol) (m : List Ac) (w : World) (F : Fine l m) (Hv : SlS w (.slice p n c) l) (Ha : SlN w (.slice q0 k0 d0) m) (hk : k0 ≤ d0 ∧ d0 ≤ 9223372036854775807 ∧ k0 ≤ 60) (H : Hid (∀ w', Below w.heap.size w w' → Calls Tryz.prog 38 #[.agg #[.int .u64 (pl b 0), .int .u64 (pl b 1), .int .u64 (pl b 2), .int .u64 (pl b 3), .int .u64 (pl b 4), .int .u64 (pl b 5), .int .u64 (pl b 6), .int .u64 (pl b 7), .slice p n c, .slice q0 k0 d0]] w' fun e w'' => e = .returned (.tuple #[.int .i64 0, .int .i64 0]) ∧ Below w'.heap.size w' w'')) :
  Calls Tryz.prog 78 #[.agg #[.int .u64 (pl b 0), .int .u64 (pl b 1), .int .u64 (pl b 2), .int .u64 (pl b 3), .int .u64 (pl b 4), .int .u64 (pl b 5), .int .u64 (pl b 6), .int .u64 (pl b 7), .slice p n c, .slice q0 k0 d0]] w fun e w' => ∃ u ps, e = .returned (.tuple #[u, .int .i64 0]) ∧ (List.map (fun p : Value × List Ac => p.2) ps = stpL l m ∧ Sl w' 1 u (ps.map fun p => [p.1]) ∧ ∀ p ∈ ps, SlN w' p.1 p.2) ∧ Below w.heap.size w w' := by
 have hka := sl_len Ha.1
 obtain ⟨RR, hRR⟩ : ∃ RR, stpL l m = RR := ⟨_, rfl⟩
 rw [hRR]
 have HRR := Lib.hid hRR
 have HV := Lib.hid Hv
 have HM := Lib.hid (And.intro Ha (And.intro hka F))
 obtain ⟨i0, hi, hz0, hz1, hz2⟩ := info_parts info28
 have HI0 := Lib.hid (And.intro hi (And.intro hz0 (And.intro hz1 hz2)))
 have hmf' := hmf
 clear F Hv Ha hRR hi hz0 hz1 hz2 hka
 go_enter Tryz.func78, Tryz.ntmps78
 go_wp2_with fail
 refine (H.out _ bel_by).mono ?_
 rintro e w1 ⟨rfl, hb⟩
 have g0 : Blk w1 w.heap.size #[.int .u64 (pl b 0), .int .u64 (pl b 1), .int .u64 (pl b 2), .int .u64 (pl b 3), .int .u64 (pl b 4), .int .u64 (pl b 5), .int .u64 (pl b 6), .int .u64 (pl b 7), .slice p n c, .slice q0 k0 d0] 30 := Blk.grow blk_by hb
 have hB1 : Below w.heap.size w w1 := bel_trans bel_by hb
 have c0 := g0.cell
 have l0 := g0.lt
 clear hb H
 go_wp2_with fail
 clear c0 l0
 go_loopw [6, 7] (fun ov lv wr => ∃ (q : Option Addr) (k d : Nat) (ml : List Ac) (ps : List (Value × List Ac)) (uv : Value), uv = ov ∧ lv = .slice q k d ∧ Hid (k ≤ d ∧ d ≤ 9223372036854775807) ∧ ps.length + k ≤ 60 ∧ Hid (SlN wr (.slice q k d) ml ∧ ml.length = k ∧ Fine l ml) ∧ Hid (OwnL wr (w.heap.size + 1) uv (ps.map (·.1))) ∧ Hid (∀ p ∈ ps, OwnA wr (w.heap.size + 1) p.1 p.2) ∧ Hid (ps.map (·.2) ++ stpL l ml = RR) ∧ Blk wr w.heap.size #[.int .u64 (pl b 0), .int .u64 (pl b 1), .int .u64 (pl b 2), .int .u64 (pl b 3), .int .u64 (pl b 4), .int .u64 (pl b 5), .int .u64 (pl b 6), .int .u64 (pl b 7), .slice p n c, .slice q0 k0 d0] 30 ∧ Below w.heap.size w wr) (fun _ lv _ => lenS lv)
 case atStart => exact ⟨q0, k0, d0, m, [], _, rfl, rfl, Lib.hid ⟨hk.1, hk.2.1⟩, by simpa using hk.2.2, Lib.hid ⟨HM.out.1.mono hB1, HM.out.2⟩, Lib.hid (World.ownsRow_nil _ _ _ _), Lib.hid (fun p hp => by cases hp), Lib.hid (by simpa using HRR.out), g0, hB1⟩
 case round =>
  clear g0 hB1 hk HM HRR
  obtain ⟨q, k, d, ml, ps, uv, rfl, rfl, HN, hlen, HM, HO, HPS, HR, g0, hB⟩ := hrel
  obtain ⟨W1, hW⟩ : ∃ W1, W1 = wr := ⟨_, rfl⟩
  subst hW
  have l0 := g0.lt
  by_cases hlt : 0 < k
  ·have hlti : (0 : Int) < (k : Int) := by omega
   have hmk := HM.out.2.1
   have hx0 : ml[0]? = some (ml[0]'(by omega)) := by simp
   obtain ⟨ab, ao, rfl, hcs⟩ := acs_at HM.out.1.1 hx0
   have hab := hcs.1
   have HCS := Lib.hid hcs
   have HF : Hid (∀ (i : Nat) w', i < k → Below W1.heap.size W1 w' → Calls Tryz.prog 112 #[.agg #[.int .u64 (pl b 0), .int .u64 (pl b 1), .int .u64 (pl b 2), .int .u64 (pl b 3), .int .u64 (pl b 4), .int .u64 (pl b 5), .int .u64 (pl b 6), .int .u64 (pl b 7), .slice p n c], .slice (some ⟨ab, ao, none⟩) k d, .int .i64 (i : Int)] w' fun e w'' => e = .returned (.bool (freeL l ml i)) ∧ Below w'.heap.size w' w'') := Lib.hid fun i w' hi hb => free112_spec b _ _ l ml i (by omega) HM.out.2.2.fit w' (HV.out.mono (bel_trans hB hb)) (HM.out.1.1.mono hb)
   clear hcs hx0 hmk
   go_wp2_with fail
   have hwr : Below W1.heap.size W1 W1 := Below.refl _ _
   have hnil : Two W1 W1.heap.size (.slice none 0 0) (.slice none 0 0) [] [] := ⟨World.ownsRow_nil _ _ _ _, World.ownsRow_nil _ _ _ _, fun k h => by cases h⟩
   go_loopw [8, 9, 10] (fun sv rv iv wr => ∃ (i : Nat) (tv uv : Value), tv = sv ∧ uv = rv ∧ i ≤ k ∧ iv = .int .i64 i ∧ Hid (Two wr W1.heap.size tv uv (Tra.frs (depA l) [] (ml.take i)) (Tra.lft (depA l) [] (ml.take i))) ∧ Below W1.heap.size W1 wr) (fun _ _ iv _ => k - (intOf iv).toNat)
   case atStart => exact ⟨0, _, _, rfl, rfl, Nat.zero_le _, rfl, Lib.hid (by simpa [Tra.frs, Tra.lft] using hnil), hwr⟩
   case round =>
    clear hwr hnil l0
    obtain ⟨i, tv, rv, rfl, rfl, hi, rfl, HT, hb4⟩ := hrel
    have gq := g0.grow hb4
    have c0 := gq.cell
    have l0 := gq.lt
    by_cases hli : i < k
    ·have hmk := HM.out.2.1
     have hx : ml[i]? = some (ml[i]'(by omega)) := by simp
     have hat : atN ml i = ml[i]'(by omega) := atN_at (by omega)
     have hfa := frs_at HM.out.2.2 (k := i) (by omega)
     have hla := lft_at HM.out.2.2 (k := i) (by omega)
     have hfl : (Tra.frs (depA l) [] (ml.take i)).length ≤ i ∧ (Tra.lft (depA l) [] (ml.take i)).length ≤ i := by
      have := (Tra.frs_lft (D := depA l) (depA_refl l) (depA_symm l) [] (ml.take i)).len (depA_refl l)
      rw [List.length_append, List.length_take] at this
      omega
     rw [hat] at hfa hla
     generalize ml[i]'(by omega) = x at hx hfa hla
     obtain ⟨r, hr⟩ : ∃ r, freeL l ml i = r := ⟨_, rfl⟩
     rw [hr] at hfa hla
     have HC : Hid (∀ w', Below W1.heap.size W1 w' → Calls Tryz.prog 112 #[.agg #[.int .u64 (pl b 0), .int .u64 (pl b 1), .int .u64 (pl b 2), .int .u64 (pl b 3), .int .u64 (pl b 4), .int .u64 (pl b 5), .int .u64 (pl b 6), .int .u64 (pl b 7), .slice p n c], .slice (some ⟨ab, ao, none⟩) k d, .int .i64 (i : Int)] w' fun e w'' => e = .returned (.bool r) ∧ Below w'.heap.size w' w'') := by
      subst hr; exact Lib.hid fun w' hb => HF.out i w' hli hb
     have HX := Lib.hid (And.intro hx (And.intro hfa hla))
     clear hx hat hfa hla hr hmk
     go_wp2_with fail
     refine (HC.out _ hb4).mono ?_
     rintro e w2 ⟨rfl, hb⟩
     have hb5 := bel_trans hb4 hb
     have HT2 := Lib.hid (HT.out.grow hb)
     obtain ⟨a0, a1, a2, a3, a4, a5, a6, a7, a8, a9⟩ := ac_cells (HCS.out.mono hb5 HCS.out.1) HX.out.1
     have labr : ab < w2.heap.size := Nat.lt_of_lt_of_le hab hb5.size
     have hsz5 := hb5.size
     clear hb hb4 gq c0 l0 HT
     cases r with
     | true =>
      go_wp2_with (first
       | (at_builtin; refine wpList_app_one rfl _ _ rfl rfl W1.heap.size tv ⟨w2.heap.size, 0, none⟩ 1 (Tra.frs (depA l) [] (ml.take i)) x rfl rfl (own_grow HT2.out.a (bel_alloc (bel_refl _) _)) (sln_one (Blk.new _ _ _)) (by omega) (by simp; omega) ?_; intro v' w3 hO3 hg3 hk3))
      have HT3 : Hid (Two w3 W1.heap.size v' rv (Tra.frs (depA l) [] (ml.take (i + 1))) (Tra.lft (depA l) [] (ml.take (i + 1)))) := Lib.hid (by
       rw [HX.out.2.1, HX.out.2.2]
       exact (HT2.out.grow (bel_alloc (bel_refl _) _)).app hO3 hg3 hk3)
      have hb6 : Below W1.heap.size W1 w3 := (bel_alloc hb5 _).grown hg3 (by simp; omega) (fun j hj => (HT2.out.a.lt j hj).1)
      clear hO3 hg3 hk3
      go_wp2_with fail
      go_roundw
      case rel => exact ⟨i + 1, v', rv, rfl, rfl, by omega, by go_num, HT3, hb6⟩
      case measure => simp [intOf]; omega
     | false =>
      go_wp2_with (first
       | (at_builtin; refine wpList_app_one rfl _ _ rfl rfl W1.heap.size rv ⟨w2.heap.size, 0, none⟩ 1 (Tra.lft (depA l) [] (ml.take i)) x rfl rfl (own_grow HT2.out.b (bel_alloc (bel_refl _) _)) (sln_one (Blk.new _ _ _)) (by omega) (by simp; omega) ?_; intro v' w3 hO3 hg3 hk3))
      have HT3 : Hid (Two w3 W1.heap.size tv v' (Tra.frs (depA l) [] (ml.take (i + 1))) (Tra.lft (depA l) [] (ml.take (i + 1)))) := Lib.hid (by
       rw [HX.out.2.1, HX.out.2.2]
       exact ((HT2.out.grow (bel_alloc (bel_refl _) _)).swap.app hO3 hg3 hk3).swap)
      have hb6 : Below W1.heap.size W1 w3 := (bel_alloc hb5 _).grown hg3 (by simp; omega) (fun j hj => (HT2.out.b.lt j hj).1)
      clear hO3 hg3 hk3
      go_wp2_with fail
      go_roundw
      case rel => exact ⟨i + 1, tv, v', rfl, rfl, by omega, by go_num, HT3, hb6⟩
      case measure => simp [intOf]; omega
    ·have hik : i = k := by omega
     subst hik
     have hmk := HM.out.2.1
     have ht := HT.out
     rw [List.take_of_length_le (by omega)] at ht
     have HT := Lib.hid ht
     have hne : ml ≠ [] := fun e => by subst e; simp at hmk; omega
     have HR2 : Hid (ps.map (·.2) ++ nrm l (Tra.frs (depA l) [] ml) :: stpL l (Tra.lft (depA l) [] ml) = RR) := Lib.hid (by rw [← stpL_cons hne]; exact HR.out)
     have hfl : (Tra.frs (depA l) [] ml).length + (Tra.lft (depA l) [] ml).length = i := by
      have := (Tra.frs_lft (D := depA l) (depA_refl l) (depA_symm l) [] ml).len (depA_refl l)
      rw [List.length_append] at this
      omega
     have hfp : 0 < (Tra.frs (depA l) [] ml).length := by
      cases ml with
      | nil => exact absurd rfl hne
      | cons y z => exact List.length_pos_iff.2 Tra.frs_ne
     have FS : Fine l (Tra.frs (depA l) [] ml) := HM.out.2.2.sub fun a ha => frs_sub _ _ a ha
     have FL : Fine l (Tra.lft (depA l) [] ml) := HM.out.2.2.sub fun a ha => lft_sub _ _ a ha
     generalize Tra.frs (depA l) [] ml = fr at *
     generalize Tra.lft (depA l) [] ml = lf at *
     refine Veil.out ?_
     obtain ⟨p8, c8, rfl, hc8, hm8⟩ := own_shape' HT.out.a
     refine Veil.on ?_
     have HFS := Lib.hid (And.intro FS FL)
     have hBq := bel_trans hB hb4
     have hbs := hb4.size
     clear ht hmk hne FS FL HR
     go_wp2_with fail
     refine (normal123_main b p n c p8 fr.length c8 l fr wr HFS.out.1 (HV.out.mono hBq) (OwnA.sln HT.out.a) rfl hc8 hm8 (by omega)).mono ?_
     rintro e w6 ⟨x6, rfl, hO6, hb6⟩
     rw [normR_eq HFS.out.1] at hO6
     have hnl : (nrm l fr).length = fr.length := nrm_len l fr
     refine Veil.out ?_
     obtain ⟨p6, c6, rfl, _, _⟩ := own_shapeK hO6 hnl
     refine Veil.on ?_
     have hb16 := bel_trans hb4 hb6
     have HXO := Lib.hid (own_grow HO.out hb16)
     have HX6 := Lib.hid (And.intro (own_grow HT.out.b hb6) (And.intro hO6 (And.intro (fun p (hp : p ∈ ps) => own_grow (HPS.out p hp) hb16) (g0.grow hb16))))
     have hB6 := bel_trans hB hb16
     have hpl : (ps.map (·.1)).length = ps.length := List.length_map ..
     have hz6 := hB6.size
     have hzz : w.heap.size + 1 ≤ w6.heap.size := (g0.grow hb16).lt
     have lgW : w.heap.size + 1 ≤ W1.heap.size := g0.lt
     clear hnl hO6 hb6 hb4 gq c0 l0 HT hBq
     go_wp2_with (first
      | (at_builtin; refine wpList_append_own _ rfl _ _ 83 rfl (w.heap.size + 1) 28 i0 (.slice none 0 0) 1 24 Tryz.underlying83 HI0.out.1 HI0.out.2.1 HI0.out.2.2.1 HI0.out.2.2.2 rfl (by decide) _ _ _ rfl (HXO.out.alloc _) ⟨w6.heap.size, 0, none⟩ 1 1 [.slice p6 fr.length c6] rfl rfl (cell_one_new _ _ _) (fun x hx => by simp at hx; subst hx; rfl) (by unfold maxLen; omega) (by omega) (by simp; omega) ?_; intro v' w7 hown' hgrow7 hnil7))
     have hL7 : OwnA w7 W1.heap.size _ lf := own_kept (HX6.out.1.alloc _) (HXO.out.alloc _) (by decide) hgrow7
     have hN7 : OwnA w7 wr.heap.size _ (nrm l fr) := own_kept (HX6.out.2.1.alloc _) (HXO.out.alloc _) (by decide) hgrow7
     have hP7 : ∀ p ∈ ps, OwnA w7 (w.heap.size + 1) p.1 p.2 := fun p hp => own_kept ((HX6.out.2.2.1 p hp).alloc _) (HXO.out.alloc _) (by decide) hgrow7
     have hB7 : Below w.heap.size w w7 := (bel_alloc hB6 _).grown hgrow7 (by have := hB6.size; simp; omega) (fun j hj => by have := (HXO.out.lt j hj).1; omega)
     have g7 : Blk w7 w.heap.size #[.int .u64 (pl b 0), .int .u64 (pl b 1), .int .u64 (pl b 2), .int .u64 (pl b 3), .int .u64 (pl b 4), .int .u64 (pl b 5), .int .u64 (pl b 6), .int .u64 (pl b 7), .slice p n c, .slice q0 k0 d0] 30 := by
      have h1 := HX6.out.2.2.2.alloc (.cells (#[.slice p6 fr.length c6] : Array Value) 28)
      exact h1.kept (hgrow7.block _ h1.lt (fun e => by have := (HXO.out.lt _ e.symm).1; omega))
     have HO7 : Hid (OwnL w7 (w.heap.size + 1) v' ((ps ++ [(Value.slice p6 fr.length c6, nrm l fr)]).map (·.1))) := Lib.hid (by
      show World.ownsRow _ _ _ _ _ _ _
      rw [List.map_append, List.length_append]
      exact hown')
     have HP7 : Hid (∀ p ∈ ps ++ [(Value.slice p6 fr.length c6, nrm l fr)], OwnA w7 (w.heap.size + 1) p.1 p.2) := Lib.hid (fun p hp => by
      rcases List.mem_append.1 hp with hp | hp
      ·exact hP7 p hp
      ·rw [List.mem_singleton.1 hp]
       exact own_weak hN7 (by omega))
     have HR7 : Hid ((ps ++ [(Value.slice p6 fr.length c6, nrm l fr)]).map (·.2) ++ stpL l lf = RR) := Lib.hid (by rw [← HR2.out, List.map_append, List.append_assoc]; rfl)
     obtain ⟨p9, c9, hrv, hc9, hm9⟩ := own_shape' hL7
     subst hrv
     have HM7 := Lib.hid (And.intro (OwnA.sln hL7) (And.intro (show lf.length = lf.length from rfl) HFS.out.2))
     clear hown' hgrow7 hnil7 hL7 hN7 hP7 hB6 HX6 HXO
     go_wp2_with fail
     go_roundw
     case rel => exact ⟨p9, lf.length, c9, lf, ps ++ [(Value.slice p6 fr.length c6, nrm l fr)], v', rfl, rfl, Lib.hid ⟨hc9, hm9⟩, by rw [List.length_append, List.length_singleton]; omega, HM7, HO7, HP7, HR7, g7, hB7⟩
     case measure =>
      simp only [lenS]
      omega
  ·have hk0 : k = 0 := by omega
   subst hk0
   have hml : ml = [] := List.eq_nil_of_length_eq_zero HM.out.2.1
   subst hml
   have HRE : Hid (ps.map (·.2) = RR) := Lib.hid (by simpa [stpL_nil] using HR.out)
   clear HR
   go_wp2_with fail
   refine bodyPost_ret (v := .tuple #[uv, .int .i64 0]) (by simp [results, Tryz.results78, go_sem]) rfl ?_
   refine ⟨uv, ps, rfl, ⟨HRE.out, ?_, fun p hp => OwnA.sln (HPS.out p hp)⟩, hB⟩
   have := OwnL.sl HO.out
   rwa [List.map_map] at this
end Go.Proofs.YtccnkebkgegohaaGreatDoor
end
