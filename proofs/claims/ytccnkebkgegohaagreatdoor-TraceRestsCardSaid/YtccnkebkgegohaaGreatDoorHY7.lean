import Derived.Test.YtccnkebkgegohaaGreatDoorHY1
/-
  Given contracts of functions of the program, and laws for them, one behind the other.
-/
set_option linter.unusedVariables false
set_option linter.unusedSimpArgs false
set_option linter.unusedSectionVars false
section
namespace Go.Proofs.YtccnkebkgegohaaGreatDoor
open Go.RowKit Go.Rel
set_option maxRecDepth 100000
section
variable {b : Sol} {l : List Sol} {g h : List Ac} {t u : StB} {v av v2 av2 : Value}
set_option maxHeartbeats 8000000 in
theorem Common_o (R : Runs b l g t) (R2 : Runs b l h u) (w : World) (Hv : SlS w v l) (Hav : SlA w av g) (Hv2 : SlS w v2 l) (Hav2 : SlA w av2 h) :
  Calls Tryz.prog 29 #[.agg #[.int .u64 (pl b 0), .int .u64 (pl b 1), .int .u64 (pl b 2), .int .u64 (pl b 3), .int .u64 (pl b 4), .int .u64 (pl b 5), .int .u64 (pl b 6), .int .u64 (pl b 7), v, av], .agg #[.int .u64 (pl b 0), .int .u64 (pl b 1), .int .u64 (pl b 2), .int .u64 (pl b 3), .int .u64 (pl b 4), .int .u64 (pl b 5), .int .u64 (pl b 6), .int .u64 (pl b 7), v2, av2]] w fun e w' => ∃ p n c q k d, e = .returned (.tuple #[.agg #[.int .u64 (pl b 0), .int .u64 (pl b 1), .int .u64 (pl b 2), .int .u64 (pl b 3), .int .u64 (pl b 4), .int .u64 (pl b 5), .int .u64 (pl b 6), .int .u64 (pl b 7), .slice p n c, .slice q k d], .int .i64 0]) ∧ OwnS w' w.heap.size (.slice p n c) l ∧ OwnA w' w.heap.size (.slice q k d) (nrm l (beyA l g h).1) ∧ Below w.heap.size w w' := by
 obtain ⟨tc, RC⟩ := R.pre (bey_A l g h).pre1
 have HC : Hid ((beyondM l g l h).1 = (beyA l g h).1) := Lib.hid (beyondM_is R.fine R2.fine).c
 have HRC := Lib.hid RC; clear RC
 have H := Lib.hid fun w' (hb : Below w.heap.size w w') => together_good R.good R2.good w' (Hv.mono hb) (Hav.mono hb) (Hv2.mono hb) (Hav2.mono hb) true (by simp [samePat])
 rw [if_pos rfl] at H
 have h8 := pat_len R.pat
 have hn := R.len
 have hn2 := R2.len
 have HBK := Lib.hid (beyondM_ok l g l h)
 have HV := Lib.hid (And.intro Hv (And.intro Hav (And.intro Hv2 Hav2)))
 clear R R2 Hv Hav Hv2 Hav2
 go_enter Tryz.func29, Tryz.ntmps29
 go_wp2_with fail
 refine (H.out _ bel_by).mono ?_
 rintro e w1 ⟨bp, bq, rfl, hP, hQ, hb⟩
 have b1 : Blk w1 (w.heap.size + 1 + 1) #[.int .u64 0, .int .u64 0, .int .u64 0, .int .u64 0, .int .u64 0, .int .u64 0, .int .u64 0, .int .u64 0, .slice none 0 0, .slice none 0 0] 30 := Blk.grow blk_by hb
 have hB1 : Below w.heap.size w w1 := bel_trans bel_by hb
 have HPQ := Lib.hid (And.intro hP hQ); clear hP hQ hb H
 have hs1 := b1.lt
 go_wp2_with fail
 refine (beyond_spec w1 HPQ.out.1 HPQ.out.2 (HV.out.2.1.mono hB1) (HV.out.2.2.2.mono hB1) hn hn2).mono ?_
 rintro e w2 ⟨uc, ua, ub, rfl, oc, oa, ob, hb2⟩
 have hB2 : Below w.heap.size w w2 := bel_trans hB1 hb2
 have b2 := b1.grow hb2
 have HO2 : Hid (OwnA w2 w1.heap.size uc (beyondM l g l h).1) := Lib.hid oc
 have HP2 := Lib.hid (HPQ.out.1.grow hb2)
 have hs2 := hb2.size
 clear oc oa ob hb2 b1
 go_wp2_with fail
 refine (with_spec w2 HP2.out (HV.out.1.mono hB2) h8 uc (beyondM l g l h).1 HO2.out.sl (Nat.le_trans HBK.out.lc (by omega))).mono ?_
 rintro e w8 ⟨pv8, bv8, rfl, hS8, hA8, hb8⟩
 have hB8 : Below w.heap.size w w8 := bel_trans hB2 hb8
 have b8 := b2.grow hb8
 have hs8 := hb8.size
 have HN8 := Lib.hid (And.intro hS8 hA8)
 rw [HC.out] at HN8
 clear hS8 hA8 hb8 b2
 go_wp2_with fail
 refine (Normal_good HRC.out.good w8 HN8.out.1.sl HN8.out.2.sl).mono ?_
 rintro e w9 ⟨pv9, bv9, rfl, hS9, hA9, hb9⟩
 have hB9 : Below w.heap.size w w9 := bel_trans hB8 hb9
 have b9 := b8.grow hb9
 have hs9 := hb9.size
 have HS9 := Lib.hid (And.intro hS9 hA9)
 rw [normalM_eq HRC.out.fine] at HS9
 refine Veil.out ?_
 obtain ⟨p, c, hp, _, _⟩ := own_shape' hS9
 obtain ⟨p', c', hp', _, _⟩ := own_shape' hA9
 subst hp
 subst hp'
 refine Veil.on ?_
 clear hS9 hA9 hb9 b8
 have r1 := b9.row
 rw [← b9.rw]
 clear b9
 go_wp2_with fail
 refine bodyPost_ret (by simp [results, Tryz.results29, go_sem, *]) rfl ⟨_, _, _, _, _, _, rfl, own_weak (own_row (bp := w.heap.size + 1 + 1) HS9.out.1 (by omega) _) (by omega), own_weak (own_row (bp := w.heap.size + 1 + 1) HS9.out.2 (by omega) _) (by omega), blw_row hB9 (by omega) _⟩
theorem Common_r (R : Runs b l g t) (R2 : Runs b l h u) (w : World) (Hv : SlS w v l) (Hav : SlA w av g) (Hv2 : SlS w v2 l) (Hav2 : SlA w av2 h) :
  Calls Tryz.prog 29 #[.agg #[.int .u64 (pl b 0), .int .u64 (pl b 1), .int .u64 (pl b 2), .int .u64 (pl b 3), .int .u64 (pl b 4), .int .u64 (pl b 5), .int .u64 (pl b 6), .int .u64 (pl b 7), v, av], .agg #[.int .u64 (pl b 0), .int .u64 (pl b 1), .int .u64 (pl b 2), .int .u64 (pl b 3), .int .u64 (pl b 4), .int .u64 (pl b 5), .int .u64 (pl b 6), .int .u64 (pl b 7), v2, av2]] w (HRes b l (nrm l (beyA l g h).1) 0 w) :=
 (Common_o R R2 w Hv Hav Hv2 Hav2).mono fun e w' ⟨p, n, c, q, k, d, he, h1, h2, h3⟩ => ⟨p, n, c, q, k, d, he, h1.sl, h2.sl, h3⟩
set_option maxHeartbeats 8000000 in
theorem Begins_r (R : Runs b l g t) (R2 : Runs b l h u) (w : World) (Hv : SlS w v l) (Hav : SlA w av g) (Hv2 : SlS w v2 l) (Hav2 : SlA w av2 h) :
  Calls Tryz.prog 61 #[.agg #[.int .u64 (pl b 0), .int .u64 (pl b 1), .int .u64 (pl b 2), .int .u64 (pl b 3), .int .u64 (pl b 4), .int .u64 (pl b 5), .int .u64 (pl b 6), .int .u64 (pl b 7), v, av], .agg #[.int .u64 (pl b 0), .int .u64 (pl b 1), .int .u64 (pl b 2), .int .u64 (pl b 3), .int .u64 (pl b 4), .int .u64 (pl b 5), .int .u64 (pl b 6), .int .u64 (pl b 7), v2, av2]] w fun e w' => e = .returned (.tuple #[.bool (beyA l g h).2.1.isEmpty, .int .i64 0]) ∧ Below w.heap.size w w' := by
 have HE : Hid ((beyA l g h).2.1.isEmpty = decide ((beyondM l g l h).2.1.length = 0)) := Lib.hid (by
  rw [← (beyondM_is R.fine R2.fine).a, List.isEmpty_map]
  cases (beyondM l g l h).2.1 <;> simp)
 have H := Lib.hid fun w' (hb : Below w.heap.size w w') => both_good R.good R2.good w' (Hv.mono hb) (Hav.mono hb) (Hv2.mono hb) (Hav2.mono hb)
 have hs : samePat b l b l = true := by simp [samePat]
 rw [hs] at H
 have hn := R.len
 have hn2 := R2.len
 have HV := Lib.hid (And.intro Hv (And.intro Hav (And.intro Hv2 Hav2)))
 clear R R2 Hv Hav Hv2 Hav2 hs
 rw [HE.out]
 clear HE
 generalize hnn : (beyondM l g l h).2.1.length = nn
 have HNN := Lib.hid hnn; clear hnn
 go_enter Tryz.func61, Tryz.ntmps61
 go_wp2_with fail
 refine (H.out _ bel_by).mono ?_
 rintro e w1 ⟨bp, bq, rfl, hP, hQ, hb⟩
 have hB1 : Below w.heap.size w w1 := bel_trans bel_by hb
 have HPQ := Lib.hid (And.intro hP hQ); clear hP hQ hb H
 go_wp2_with fail
 refine (beyond_spec w1 HPQ.out.1 HPQ.out.2 (HV.out.2.1.mono hB1) (HV.out.2.2.2.mono hB1) hn hn2).mono ?_
 rintro e w2 ⟨uc, ua, ub, rfl, oc, oa, ob, hb2⟩
 have hB2 : Below w.heap.size w w2 := bel_trans hB1 hb2
 have HA2 : Hid (∃ p c, ua = .slice p nn c) := Lib.hid (by obtain ⟨p, c, e, _⟩ := own_shape' oa; have e2 := HNN.out; unfold beyondM at e2; exact ⟨p, c, by rw [e, e2]⟩)
 clear oc oa ob hb2
 refine Veil.out ?_
 obtain ⟨pa, ca, hpa⟩ := HA2.out
 subst hpa
 refine Veil.on ?_
 clear HA2
 go_wp2_with fail
 have e : ((nn : Int) == 0) = decide (nn = 0) := by
  rw [Bool.eq_iff_iff, beq_iff_eq, decide_eq_true_iff]; omega
 refine bodyPost_ret (v := .tuple #[.bool ((nn : Int) == 0), .int .i64 0]) (by simp [results, Tryz.results61, go_sem]) rfl ⟨by rw [e], hB2⟩
/-- whether a history begins another one -/
def preB (l : List Sol) (g h : List Ac) : Bool := (beyA l g h).2.1.isEmpty
end
end Go.Proofs.YtccnkebkgegohaaGreatDoor
end
section
namespace Go.Proofs.YtccnkebkgegohaaGreatDoor
open Go.RowKit Go.Rel
set_option maxRecDepth 100000
theorem samePat_eq {b b' : Sol} {l l' : List Sol} (h : samePat b l b' l' = true) : b' = b ∧ l' = l := by
 unfold samePat at h
 simp only [Bool.and_eq_true, beq_iff_eq] at h
 exact ⟨h.1.symm, h.2.symm⟩
end Go.Proofs.YtccnkebkgegohaaGreatDoor
end
section
namespace Go.Proofs.YtccnkebkgegohaaGreatDoor
open Go.RowKit Go.Rel
set_option maxRecDepth 100000
/-! Merge, Conflict -/
section
variable {b : Sol} {l : List Sol} {g h : List Ac} {t u : StB} {v av v2 av2 : Value}
theorem Merge_j (R : Runs b l g t) (R2 : Runs b l h u) (hf : Free2 l g h) (hlen : g.length + h.length ≤ 60) (w : World) (Hv : SlS w v l) (Hav : SlA w av g) (Hv2 : SlS w v2 l) (Hav2 : SlA w av2 h) :
  Calls Tryz.prog 26 #[.agg #[.int .u64 (pl b 0), .int .u64 (pl b 1), .int .u64 (pl b 2), .int .u64 (pl b 3), .int .u64 (pl b 4), .int .u64 (pl b 5), .int .u64 (pl b 6), .int .u64 (pl b 7), v, av], .agg #[.int .u64 (pl b 0), .int .u64 (pl b 1), .int .u64 (pl b 2), .int .u64 (pl b 3), .int .u64 (pl b 4), .int .u64 (pl b 5), .int .u64 (pl b 6), .int .u64 (pl b 7), v2, av2]] w (HRes b l (nrm l (joinA l g h)) 0 w) := by
 obtain ⟨x, RJ⟩ := join_good R R2 hf (Nat.le_trans (join_len l g h) hlen)
 have hm : mergeM l g h = some (joinA l g h) := by rw [mergeM_eq R.fine R2.fine, (confA_none R.fine R2.fine).2 hf]
 refine (Merge_good R.good R2.good hm RJ.good w Hv Hav Hv2 Hav2).mono fun e w' ⟨pv, bv, he, h1, h2, h3⟩ => ?_
 subst he
 rw [normalM_eq RJ.fine] at h2
 exact hres_own h1 h2 h3
theorem Merge_c (R : Runs b l g t) (R2 : Runs b l h u) (hf : ¬ Free2 l g h) (w : World) (Hv : SlS w v l) (Hav : SlA w av g) (Hv2 : SlS w v2 l) (Hav2 : SlA w av2 h) :
  Calls Tryz.prog 26 #[.agg #[.int .u64 (pl b 0), .int .u64 (pl b 1), .int .u64 (pl b 2), .int .u64 (pl b 3), .int .u64 (pl b 4), .int .u64 (pl b 5), .int .u64 (pl b 6), .int .u64 (pl b 7), v, av], .agg #[.int .u64 (pl b 0), .int .u64 (pl b 1), .int .u64 (pl b 2), .int .u64 (pl b 3), .int .u64 (pl b 4), .int .u64 (pl b 5), .int .u64 (pl b 6), .int .u64 (pl b 7), v2, av2]] w (HRes 0 [] [] 45 w) := by
 have hm : mergeM l g h = none := by
  rw [mergeM_eq R.fine R2.fine]
  cases hc : confA l g h with
  | none => exact absurd ((confA_none R.fine R2.fine).1 hc) hf
  | some x => rfl
 refine (Merge_clash R.good R2.good hm w Hv Hav Hv2 Hav2).mono fun e w' ⟨he, hb⟩ => ?_
 subst he
 exact hres_zero hb
def confV (x : Option (Ac × Ac)) : Ac × Ac × Bool := match x with
 | some (a, b) => (a, b, true)
 | none => ((0, 0, 0), (0, 0, 0), false)
theorem zeroA_ac : zeroA = acA (0, 0, 0) := by simp [show ∀ k, pl (0#512) k = 0 from pl_zero]
theorem conflR_V (x : Option (Ac × Ac)) : conflR x = .tuple #[.agg (acA (confV x).1), .agg (acA (confV x).2.1), .bool (confV x).2.2] := by
 cases x with
 | none => show Value.tuple #[.agg zeroA, .agg zeroA, .bool false] = _; rw [zeroA_ac]; rfl
 | some x => rfl
structure TwoB (b1 b2 : Nat) (x y : Ac) (W : World) : Prop where
 p : Blk W b1 (acA x) 46
 q : Blk W b2 (acA y) 46
theorem TwoB.grow {b1 b2 : Nat} {x y : Ac} {W W' : World} (H : TwoB b1 b2 x y W) (hb : Below W.heap.size W W') : TwoB b1 b2 x y W' := ⟨H.p.grow hb, H.q.grow hb⟩
theorem TwoB.set1 {b1 b2 : Nat} {x y : Ac} {W : World} (H : TwoB b1 b2 x y W) (hne : b2 ≠ b1) : TwoB b1 b2 x y (W.setRow b1 (acA x)) := ⟨H.p.rowS _, H.q.rowO _ hne⟩
theorem TwoB.set2 {b1 b2 : Nat} {x y : Ac} {W : World} (H : TwoB b1 b2 x y W) (hne : b1 ≠ b2) : TwoB b1 b2 x y (W.setRow b2 (acA y)) := ⟨H.p.rowO _ hne, H.q.rowS _⟩
set_option maxHeartbeats 8000000 in
theorem Conflict_r (R : Runs b l g t) (R2 : Runs b l h u) (x y : Ac) (r : Bool) (hx : confV (confA l g h) = (x, y, r)) (w : World) (Hv : SlS w v l) (Hav : SlA w av g) (Hv2 : SlS w v2 l) (Hav2 : SlA w av2 h) :
  Calls Tryz.prog 60 #[.agg #[.int .u64 (pl b 0), .int .u64 (pl b 1), .int .u64 (pl b 2), .int .u64 (pl b 3), .int .u64 (pl b 4), .int .u64 (pl b 5), .int .u64 (pl b 6), .int .u64 (pl b 7), v, av], .agg #[.int .u64 (pl b 0), .int .u64 (pl b 1), .int .u64 (pl b 2), .int .u64 (pl b 3), .int .u64 (pl b 4), .int .u64 (pl b 5), .int .u64 (pl b 6), .int .u64 (pl b 7), v2, av2]] w fun e w' => e = .returned (.tuple #[.agg (acA x), .agg (acA y), .bool r, .int .i64 0]) ∧ Below w.heap.size w w' := by
 have BI := beyondM_is R.fine R2.fine
 have BL := bey_leastA R.fine R2.fine
 have BF := bey_fine R.fine R2.fine
 have H1 : Hid (leastI (depI (cellsOf l g)) (cmpN g) (beyondM l g l h).2.1.length (beyondM l g l h).2.1 |> actsAt g |> fun z => z = nrm l (beyA l g h).2.1) := Lib.hid BL.1
 have H2 : Hid (leastI (depI (cellsOf l h)) (cmpN h) (beyondM l g l h).2.2.length (beyondM l g l h).2.2 |> actsAt h |> fun z => z = nrm l (beyA l g h).2.2) := Lib.hid BL.2
 have HCV : Hid (conflR (conflictM l (nrm l (beyA l g h).2.1) (nrm l (beyA l g h).2.2)) = .tuple #[.agg (acA x), .agg (acA y), .bool r]) := Lib.hid (by
  rw [conflR_V]
  show Value.tuple #[.agg (acA (confV (confA l g h)).1), .agg (acA (confV (confA l g h)).2.1), .bool (confV (confA l g h)).2.2] = _
  rw [hx])
 have HF : Hid ((∀ a ∈ nrm l (beyA l g h).2.1, fits l.length a = true) ∧ (∀ a ∈ nrm l (beyA l g h).2.2, fits l.length a = true)) := Lib.hid ⟨fun a ha => BF.2.1.fit a ((mem_nrm _ a).1 ha), fun a ha => BF.2.2.fit a ((mem_nrm _ a).1 ha)⟩
 have H := Lib.hid fun w' (hb : Below w.heap.size w w') => together_good R.good R2.good w' (Hv.mono hb) (Hav.mono hb) (Hv2.mono hb) (Hav2.mono hb) true (by simp [samePat])
 rw [if_pos rfl] at H
 have h8 := pat_len R.pat
 have hn := R.len
 have hn2 := R2.len
 have HBK := Lib.hid (beyondM_ok l g l h)
 have hla60 : (beyondM l g l h).2.1.length ≤ 60 := Nat.le_trans HBK.out.la hn
 have hlb60 : (beyondM l g l h).2.2.length ≤ 60 := Nat.le_trans HBK.out.lb hn2
 have HV := Lib.hid (And.intro Hv (And.intro Hav (And.intro Hv2 Hav2)))
 clear R R2 Hv Hav Hv2 Hav2 BI BL BF hx
 go_enter Tryz.func60, Tryz.ntmps60
 go_wp2_with fail
 refine (H.out _ bel_by).mono ?_
 rintro e w1 ⟨bp, bq, rfl, hP, hQ, hb⟩
 have b1 : Blk w1 (w.heap.size + 1 + 1) zeroA 46 := Blk.grow blk_by hb
 have b2 : Blk w1 (w.heap.size + 1 + 1 + 1) zeroA 46 := Blk.grow blk_by hb
 have hB1 : Below w.heap.size w w1 := bel_trans bel_by hb
 have HPQ := Lib.hid (And.intro hP hQ); clear hP hQ hb H
 go_wp2_with fail
 refine (beyond_spec w1 HPQ.out.1 HPQ.out.2 (HV.out.2.1.mono hB1) (HV.out.2.2.2.mono hB1) hn hn2).mono ?_
 rintro e w2 ⟨uc, ua, ub, rfl, oc, oa, ob, hb2⟩
 have hB2 : Below w.heap.size w w2 := bel_trans hB1 hb2
 replace b1 := b1.grow hb2
 replace b2 := b2.grow hb2
 have HO2 : Hid (SlI w2 ua (beyondM l g l h).2.1 ∧ SlI w2 ub (beyondM l g l h).2.2) := Lib.hid ⟨oa.sl, ob.sl⟩
 have HP2 := Lib.hid (And.intro (HPQ.out.1.grow hb2) (HPQ.out.2.grow hb2))
 clear oc oa ob hb2
 go_wp2_with fail
 refine (least_spec w2 HP2.out.1 (HV.out.2.1.mono hB2) hn ua (beyondM l g l h).2.1 HO2.out.1 HBK.out.a hla60).mono ?_
 rintro e w3 ⟨u1, rfl, o1, hb3⟩
 have hB3 : Below w.heap.size w w3 := bel_trans hB2 hb3
 replace b1 := b1.grow hb3
 replace b2 := b2.grow hb3
 have e1 := H1.out
 rw [e1] at o1
 have HO3 : Hid (SlI w3 ub (beyondM l g l h).2.2 ∧ SlA w3 u1 (nrm l (beyA l g h).2.1)) := Lib.hid ⟨HO2.out.2.mono hb3, o1.sl⟩
 have HP3 := Lib.hid (And.intro (HP2.out.1.grow hb3) (HP2.out.2.grow hb3))
 clear o1 hb3 e1
 go_wp2_with fail
 refine (least_spec w3 HP3.out.2 (HV.out.2.2.2.mono hB3) hn2 ub (beyondM l g l h).2.2 HO3.out.1 HBK.out.b hlb60).mono ?_
 rintro e w4 ⟨u2, rfl, o2, hb4⟩
 have hB4 : Below w.heap.size w w4 := bel_trans hB3 hb4
 replace b1 := b1.grow hb4
 replace b2 := b2.grow hb4
 have e1 := H2.out
 rw [e1] at o2
 have HO4 : Hid (SlA w4 u1 (nrm l (beyA l g h).2.1) ∧ SlA w4 u2 (nrm l (beyA l g h).2.2)) := Lib.hid ⟨HO3.out.2.mono hb4, o2.sl⟩
 have HP4 := Lib.hid (HP3.out.1.grow hb4)
 clear o2 hb4 e1
 go_wp2_with fail
 refine (conflict_spec w4 HP4.out (HV.out.1.mono hB4) h8 u1 u2 _ _ HO4.out.1 HO4.out.2 HF.out.1 HF.out.2).mono ?_
 rw [HCV.out]
 rintro e w5 ⟨rfl, hb5⟩
 have hB5 : Below w.heap.size w w5 := bel_trans hB4 hb5
 replace b1 := b1.grow hb5
 replace b2 := b2.grow hb5
 clear hb5
 have r1 := b1.row
 have r2 := b2.row
 obtain ⟨w6, hw6⟩ : ∃ w6 : World, w6 = (w5.setRow (w.heap.size + 1 + 1 + 1) (acA y)).setRow (w.heap.size + 1 + 1) (acA x) := ⟨_, rfl⟩
 have t2 : TwoB (w.heap.size + 1 + 1) (w.heap.size + 1 + 1 + 1) x y w6 := by subst hw6; exact ⟨(b1.rowO _ (by omega)).rowS _, (b2.rowS _).rowO _ (by omega)⟩
 have hB6 : Below w.heap.size w w6 := by subst hw6; exact blw_row (blw_row hB5 (by omega) _) (by omega) _
 have HW6 := Lib.hid hw6; clear hw6
 rw [← b1.rw, ← b2.rw]
 clear b1 b2
 go_wp2_with fail
 rw [← HW6.out]
 clear HW6 r1 r2
 have hne : w.heap.size + 1 + 1 ≠ w.heap.size + 1 + 1 + 1 := by omega
 refine wp_region_inv (Below w.heap.size) (fun L => TwoB (w.heap.size + 1 + 1) (w.heap.size + 1 + 1 + 1) x y) [Is (.agg (acA x)), Is (.agg (acA y)), Is (.bool r), Is undef, Is undef, Is (.bool r), Is (.int .i64 0)] (by kernel_rfl) (by kernel_rfl) rfl (Below.refl w.heap.size) (fun _ _ _ => Below.trans) (stable_mem ⟨fun _ _ _ h _ => h, fun _ _ _ h _ => h, fun _ _ _ h _ => h, fun _ _ _ h _ => h, fun _ _ _ h _ => h, fun _ _ _ h _ => h, fun _ _ _ h _ => h, trivial⟩) w6 (Below.drew (Below.refl _ _)) (t2.grow (Below.drew (Below.refl _ _))) ?_
 refine inv_cons ?_ (fun v0 => ?_)
 ·intro L w1 hat hb hI hF; try simp [factsI, Region.binds, Is] at hF
  have c0 := hI.p.cell
  go_simp
  exact Below.refl _ _
 refine inv_cons ?_ (fun v1 => ?_)
 ·intro L w1 hat hb hI hF; try simp [factsI, Region.binds, Is] at hF
  have c0 := hI.q.cell
  go_simp
  exact Below.refl _ _
 refine inv_cons ?_ (fun v2 => ?_)
 ·intro L w1 hat hb hI hF; try simp [factsI, Region.binds, Is] at hF
  go_simp
  exact Below.refl _ _
 refine inv_cons ?_ (fun v3 => ?_)
 ·intro L w1 hat hb hI hF; try simp [factsI, Region.binds, Is] at hF
  have r1 := hI.p.row
  have HS := Lib.hid (hI.set1 hne.symm)
  rw [← hI.p.rw]
  clear hI
  go_simp
  exact ⟨blw_rows (by omega) _ _, HS.out⟩
 refine inv_cons ?_ (fun v4 => ?_)
 ·intro L w1 hat hb hI hF; try simp [factsI, Region.binds, Is] at hF
  have r1 := hI.q.row
  have HS := Lib.hid (hI.set2 hne)
  rw [← hI.q.rw]
  clear hI
  go_simp
  exact ⟨blw_rows (by omega) _ _, HS.out⟩
 iterate 2 (refine inv_cons ?_ (fun _ => ?_); · intro L w1 hat hb hI hF; (try simp [factsI, Region.binds, Is] at hF); go_simp; exact Below.refl _ _)
 refine inv_nil ?_
 intro w1 hb hI hF
 simp [Is, Nat.forall_lt_succ_right] at hF
 simp only [Act.put, List.setIfInBounds_toArray, List.set_cons_succ, List.set_cons_zero, hF]
 clear hF
 have c1 := hI.p.cell
 have c2 := hI.q.cell
 have hB7 := hB6.trans hb
 go_wp2_with fail
 refine bodyPost_ret (by simp [results, Tryz.results60, go_sem, *]) rfl ⟨rfl, hB7⟩
end
end Go.Proofs.YtccnkebkgegohaaGreatDoor
end
section
namespace Go.Proofs.YtccnkebkgegohaaGreatDoor
open Go.RowKit Go.Rel
set_option maxRecDepth 100000
/-- a world that grew by what a walk lays: found by its form -/
class BelI (w0 w : World) : Prop where
 out : Below w0.heap.size w0 w
instance (w : World) : BelI w w := ⟨bel_refl w⟩
instance (w0 w : World) [h : BelI w0 w] (o : Obj) : BelI w0 (w.alloc o) := ⟨bel_alloc h.out o⟩
instance (w0 w : World) [h : BelI w0 w] : BelI w0 w.drew := ⟨bel_drew h.out⟩
instance (w0 w : World) [h : BelI w0 w] (n : Nat) : BelI w0 (w.drewN n) := ⟨bel_drewN h.out n⟩
theorem bni {w0 w : World} [h : BelI w0 w] : Below w0.heap.size w0 w := h.out
theorem few_len {m n : Nat} (h : many m n = false) (h60 : m ≤ 60) : m ≤ 14 := by
 unfold many at h
 have := of_decide_eq_false h
 omega
end Go.Proofs.YtccnkebkgegohaaGreatDoor
end
