import Derived.Test.YtccnkebkgegohaaGreatDoorHY3
/-
  Given contracts of functions of the program, and laws for them, one behind the other.
-/
set_option linter.unusedVariables false
set_option linter.unusedSimpArgs false
set_option linter.unusedSectionVars false
section
namespace Go.Proofs.YtccnkebkgegohaaGreatDoor
open Go.RowKit Go.Rel
set_option maxRecDepth 100000
section
variable {b : Sol} {l : List Sol} {g h : List Ac} {t u : StB} {v av v2 av2 : Value}
set_option maxHeartbeats 8000000 in
theorem Common_o (R : Runs b l g t) (R2 : Runs b l h u) (w : World) (Hv : SlS w v l) (Hav : SlA w av g) (Hv2 : SlS w v2 l) (Hav2 : SlA w av2 h) :
    Calls Tryz.prog 29 #[.agg #[.int .u64 (pl b 0), .int .u64 (pl b 1), .int .u64 (pl b 2), .int .u64 (pl b 3), .int .u64 (pl b 4), .int .u64 (pl b 5), .int .u64 (pl b 6), .int .u64 (pl b 7), v, av], .agg #[.int .u64 (pl b 0), .int .u64 (pl b 1), .int .u64 (pl b 2), .int .u64 (pl b 3), .int .u64 (pl b 4), .int .u64 (pl b 5), .int .u64 (pl b 6), .int .u64 (pl b 7), v2, av2]] w fun e w' => ∃ p n c q k d, e = .returned (.tuple #[.agg #[.int .u64 (pl b 0), .int .u64 (pl b 1), .int .u64 (pl b 2), .int .u64 (pl b 3), .int .u64 (pl b 4), .int .u64 (pl b 5), .int .u64 (pl b 6), .int .u64 (pl b 7), .slice p n c, .slice q k d], .int .i64 0]) ∧ OwnS w' w.heap.size (.slice p n c) l ∧ OwnA w' w.heap.size (.slice q k d) (nrm l (beyA l g h).1) ∧ Below w.heap.size w w' := by
  obtain ⟨tc, RC⟩ := R.pre (bey_A l g h).pre1
  have HC : Hid ((beyondM l g l h).1 = (beyA l g h).1) := Lib.hid (beyondM_is R.fine R2.fine).c
  have HRC := Lib.hid RC; clear RC
  have H := Lib.hid fun w' (hb : Below w.heap.size w w') => together_good R.good R2.good w' (Hv.mono hb) (Hav.mono hb) (Hv2.mono hb) (Hav2.mono hb) true (by simp [samePat])
  rw [if_pos rfl] at H
  have h8 := pat_len R.pat
  have hn := R.len
  have hn2 := R2.len
  have HBK := Lib.hid (beyondM_ok l g l h)
  have HV := Lib.hid (And.intro Hv (And.intro Hav (And.intro Hv2 Hav2)))
  clear R R2 Hv Hav Hv2 Hav2
  go_enter Tryz.func29, Tryz.ntmps29
  go_wp2_with fail
  refine (H.out _ (by repeat (first | with_reducible exact bel_refl _ | with_reducible assumption | with_reducible refine bel_drewN ?_ _ | with_reducible refine bel_drew ?_ | with_reducible refine bel_alloc ?_ _ | with_reducible refine bel_row ?_ ?_ _ | with_reducible refine bel_set ?_ ?_ _ | refine bel_trans ?_ (by with_reducible assumption) | (simp; done) | (simp; omega)))).mono ?_
  rintro e w1 ⟨bp, bq, rfl, hP, hQ, hb⟩
  have b1 : Blk w1 (w.heap.size + 1 + 1) #[.int .u64 0, .int .u64 0, .int .u64 0, .int .u64 0, .int .u64 0, .int .u64 0, .int .u64 0, .int .u64 0, .slice none 0 0, .slice none 0 0] 30 := Blk.grow (by repeat (first | with_reducible assumption | (refine Blk.at _ _ ?_; (simp; done)) | with_reducible refine Blk.alloc ?_ _ | with_reducible refine Blk.drew ?_ | with_reducible refine Blk.rowS ?_ _ | with_reducible refine Blk.rowO ?_ _ (by simp))) hb
  have hB1 : Below w.heap.size w w1 := bel_trans (by repeat (first | with_reducible exact bel_refl _ | with_reducible assumption | with_reducible refine bel_drewN ?_ _ | with_reducible refine bel_drew ?_ | with_reducible refine bel_alloc ?_ _ | with_reducible refine bel_row ?_ ?_ _ | with_reducible refine bel_set ?_ ?_ _ | refine bel_trans ?_ (by with_reducible assumption) | (simp; done) | (simp; omega))) hb
  have HPQ := Lib.hid (And.intro hP hQ); clear hP hQ hb H
  have hs1 := b1.lt
  go_wp2_with fail
  refine (beyond_spec w1 HPQ.out.1 HPQ.out.2 (HV.out.2.1.mono hB1) (HV.out.2.2.2.mono hB1) hn hn2).mono ?_
  rintro e w2 ⟨uc, ua, ub, rfl, oc, oa, ob, hb2⟩
  have hB2 : Below w.heap.size w w2 := bel_trans hB1 hb2
  have b2 := b1.grow hb2
  have HO2 : Hid (OwnA w2 w1.heap.size uc (beyondM l g l h).1) := Lib.hid oc
  have HP2 := Lib.hid (HPQ.out.1.grow hb2)
  have hs2 := hb2.size
  clear oc oa ob hb2 b1
  go_wp2_with fail
  refine (with_spec w2 HP2.out (HV.out.1.mono hB2) h8 uc (beyondM l g l h).1 HO2.out.sl (Nat.le_trans HBK.out.lc (by omega))).mono ?_
  rintro e w8 ⟨pv8, bv8, rfl, hS8, hA8, hb8⟩
  have hB8 : Below w.heap.size w w8 := bel_trans hB2 hb8
  have b8 := b2.grow hb8
  have hs8 := hb8.size
  have HN8 := Lib.hid (And.intro hS8 hA8)
  rw [HC.out] at HN8
  clear hS8 hA8 hb8 b2
  go_wp2_with fail
  refine (Normal_good HRC.out.good w8 HN8.out.1.sl HN8.out.2.sl).mono ?_
  rintro e w9 ⟨pv9, bv9, rfl, hS9, hA9, hb9⟩
  have hB9 : Below w.heap.size w w9 := bel_trans hB8 hb9
  have b9 := b8.grow hb9
  have hs9 := hb9.size
  have HS9 := Lib.hid (And.intro hS9 hA9)
  rw [normalM_eq HRC.out.fine] at HS9
  refine Veil.out ?_
  obtain ⟨p, c, hp, _, _⟩ := own_shape' hS9
  obtain ⟨p', c', hp', _, _⟩ := own_shape' hA9
  subst hp
  subst hp'
  refine Veil.on ?_
  clear hS9 hA9 hb9 b8
  have r1 := b9.row
  rw [← b9.rw]
  clear b9
  go_wp2_with fail
  refine bodyPost_ret (by simp [results, Tryz.results29, go_sem, *]) rfl ⟨_, _, _, _, _, _, rfl, own_weak (own_row (bp := w.heap.size + 1 + 1) HS9.out.1 (by omega) _) (by omega), own_weak (own_row (bp := w.heap.size + 1 + 1) HS9.out.2 (by omega) _) (by omega), blw_row hB9 (by omega) _⟩
theorem Common_r (R : Runs b l g t) (R2 : Runs b l h u) (w : World) (Hv : SlS w v l) (Hav : SlA w av g) (Hv2 : SlS w v2 l) (Hav2 : SlA w av2 h) :
    Calls Tryz.prog 29 #[.agg #[.int .u64 (pl b 0), .int .u64 (pl b 1), .int .u64 (pl b 2), .int .u64 (pl b 3), .int .u64 (pl b 4), .int .u64 (pl b 5), .int .u64 (pl b 6), .int .u64 (pl b 7), v, av], .agg #[.int .u64 (pl b 0), .int .u64 (pl b 1), .int .u64 (pl b 2), .int .u64 (pl b 3), .int .u64 (pl b 4), .int .u64 (pl b 5), .int .u64 (pl b 6), .int .u64 (pl b 7), v2, av2]] w (HRes b l (nrm l (beyA l g h).1) 0 w) :=
  (Common_o R R2 w Hv Hav Hv2 Hav2).mono fun e w' ⟨p, n, c, q, k, d, he, h1, h2, h3⟩ => ⟨p, n, c, q, k, d, he, h1.sl, h2.sl, h3⟩
set_option maxHeartbeats 8000000 in
theorem Begins_r (R : Runs b l g t) (R2 : Runs b l h u) (w : World) (Hv : SlS w v l) (Hav : SlA w av g) (Hv2 : SlS w v2 l) (Hav2 : SlA w av2 h) :
    Calls Tryz.prog 61 #[.agg #[.int .u64 (pl b 0), .int .u64 (pl b 1), .int .u64 (pl b 2), .int .u64 (pl b 3), .int .u64 (pl b 4), .int .u64 (pl b 5), .int .u64 (pl b 6), .int .u64 (pl b 7), v, av], .agg #[.int .u64 (pl b 0), .int .u64 (pl b 1), .int .u64 (pl b 2), .int .u64 (pl b 3), .int .u64 (pl b 4), .int .u64 (pl b 5), .int .u64 (pl b 6), .int .u64 (pl b 7), v2, av2]] w fun e w' => e = .returned (.tuple #[.bool (beyA l g h).2.1.isEmpty, .int .i64 0]) ∧ Below w.heap.size w w' := by
  have HE : Hid ((beyA l g h).2.1.isEmpty = decide ((beyondM l g l h).2.1.length = 0)) := Lib.hid (by
    rw [← (beyondM_is R.fine R2.fine).a, List.isEmpty_map]
    cases (beyondM l g l h).2.1 <;> simp)
  have H := Lib.hid fun w' (hb : Below w.heap.size w w') => both_good R.good R2.good w' (Hv.mono hb) (Hav.mono hb) (Hv2.mono hb) (Hav2.mono hb)
  have hs : samePat b l b l = true := by simp [samePat]
  rw [hs] at H
  have hn := R.len
  have hn2 := R2.len
  have HV := Lib.hid (And.intro Hv (And.intro Hav (And.intro Hv2 Hav2)))
  clear R R2 Hv Hav Hv2 Hav2 hs
  rw [HE.out]
  clear HE
  generalize hnn : (beyondM l g l h).2.1.length = nn
  have HNN := Lib.hid hnn; clear hnn
  go_enter Tryz.func61, Tryz.ntmps61
  go_wp2_with fail
  refine (H.out _ (by repeat (first | with_reducible exact bel_refl _ | with_reducible assumption | with_reducible refine bel_drewN ?_ _ | with_reducible refine bel_drew ?_ | with_reducible refine bel_alloc ?_ _ | with_reducible refine bel_row ?_ ?_ _ | with_reducible refine bel_set ?_ ?_ _ | refine bel_trans ?_ (by with_reducible assumption) | (simp; done) | (simp; omega)))).mono ?_
  rintro e w1 ⟨bp, bq, rfl, hP, hQ, hb⟩
  have hB1 : Below w.heap.size w w1 := bel_trans (by repeat (first | with_reducible exact bel_refl _ | with_reducible assumption | with_reducible refine bel_drewN ?_ _ | with_reducible refine bel_drew ?_ | with_reducible refine bel_alloc ?_ _ | with_reducible refine bel_row ?_ ?_ _ | with_reducible refine bel_set ?_ ?_ _ | refine bel_trans ?_ (by with_reducible assumption) | (simp; done) | (simp; omega))) hb
  have HPQ := Lib.hid (And.intro hP hQ); clear hP hQ hb H
  go_wp2_with fail
  refine (beyond_spec w1 HPQ.out.1 HPQ.out.2 (HV.out.2.1.mono hB1) (HV.out.2.2.2.mono hB1) hn hn2).mono ?_
  rintro e w2 ⟨uc, ua, ub, rfl, oc, oa, ob, hb2⟩
  have hB2 : Below w.heap.size w w2 := bel_trans hB1 hb2
  have HA2 : Hid (∃ p c, ua = .slice p nn c) := Lib.hid (by obtain ⟨p, c, e, _⟩ := own_shape' oa; have e2 := HNN.out; unfold beyondM at e2; exact ⟨p, c, by rw [e, e2]⟩)
  clear oc oa ob hb2
  refine Veil.out ?_
  obtain ⟨pa, ca, hpa⟩ := HA2.out
  subst hpa
  refine Veil.on ?_
  clear HA2
  go_wp2_with fail
  have e : ((nn : Int) == 0) = decide (nn = 0) := by
    rw [Bool.eq_iff_iff, beq_iff_eq, decide_eq_true_iff]; omega
  refine bodyPost_ret (v := .tuple #[.bool ((nn : Int) == 0), .int .i64 0]) (by simp [results, Tryz.results61, go_sem]) rfl ⟨by rw [e], hB2⟩
set_option maxHeartbeats 8000000 in
theorem Equal_r (R : Runs b l g t) (R2 : Runs b l h u) (w : World) (Hv : SlS w v l) (Hav : SlA w av g) (Hv2 : SlS w v2 l) (Hav2 : SlA w av2 h) :
    Calls Tryz.prog 42 #[.agg #[.int .u64 (pl b 0), .int .u64 (pl b 1), .int .u64 (pl b 2), .int .u64 (pl b 3), .int .u64 (pl b 4), .int .u64 (pl b 5), .int .u64 (pl b 6), .int .u64 (pl b 7), v, av], .agg #[.int .u64 (pl b 0), .int .u64 (pl b 1), .int .u64 (pl b 2), .int .u64 (pl b 3), .int .u64 (pl b 4), .int .u64 (pl b 5), .int .u64 (pl b 6), .int .u64 (pl b 7), v2, av2]] w fun e w' => e = .returned (.tuple #[.bool (nrm l g == nrm l h), .int .i64 0]) ∧ Below w.heap.size w w' := by
  have H := Lib.hid fun w' (hb : Below w.heap.size w w') => both_good R.good R2.good w' (Hv.mono hb) (Hav.mono hb) (Hv2.mono hb) (Hav2.mono hb)
  have hs : samePat b l b l = true := by simp [samePat]
  rw [hs] at H
  have hn := R.len
  have hn2 := R2.len
  have HN1 : Hid (actsAt g (leastI (depI (cellsOf l g)) (cmpN g) (upto g.length).length (upto g.length)) = nrm l g) := Lib.hid (normalM_eq R.fine)
  have HN2 : Hid (actsAt h (leastI (depI (cellsOf l h)) (cmpN h) (upto h.length).length (upto h.length)) = nrm l h) := Lib.hid (normalM_eq R2.fine)
  have HV := Lib.hid (And.intro Hv (And.intro Hav (And.intro Hv2 Hav2)))
  clear R R2 Hv Hav Hv2 Hav2 hs
  go_enter Tryz.func42, Tryz.ntmps42
  go_wp2_with fail
  refine (H.out _ (by repeat (first | with_reducible exact bel_refl _ | with_reducible assumption | with_reducible refine bel_drewN ?_ _ | with_reducible refine bel_drew ?_ | with_reducible refine bel_alloc ?_ _ | with_reducible refine bel_row ?_ ?_ _ | with_reducible refine bel_set ?_ ?_ _ | refine bel_trans ?_ (by with_reducible assumption) | (simp; done) | (simp; omega)))).mono ?_
  rintro e w1 ⟨bp, bq, rfl, hP, hQ, hb⟩
  have hB1 : Below w.heap.size w w1 := bel_trans (by repeat (first | with_reducible exact bel_refl _ | with_reducible assumption | with_reducible refine bel_drewN ?_ _ | with_reducible refine bel_drew ?_ | with_reducible refine bel_alloc ?_ _ | with_reducible refine bel_row ?_ ?_ _ | with_reducible refine bel_set ?_ ?_ _ | refine bel_trans ?_ (by with_reducible assumption) | (simp; done) | (simp; omega))) hb
  have HPQ := Lib.hid (And.intro hP hQ); clear hP hQ hb H
  go_wp2_with fail
  refine (indices_spec w1 HPQ.out.1 hn).mono ?_
  rintro e w2 ⟨u2, rfl, o2, hb2⟩
  have hB2 : Below w.heap.size w w2 := bel_trans hB1 hb2
  have HP2 := Lib.hid (And.intro (HPQ.out.1.grow hb2) (HPQ.out.2.grow hb2))
  have HO2 := Lib.hid o2.sl
  clear o2 hb2
  go_wp2_with fail
  refine (least_spec w2 HP2.out.1 (HV.out.2.1.mono hB2) hn u2 (upto g.length) HO2.out upto_range (by rw [upto_length]; exact hn)).mono ?_
  rintro e w3 ⟨u3, rfl, o3, hb3⟩
  have hB3 : Below w.heap.size w w3 := bel_trans hB2 hb3
  have HP3 := Lib.hid (And.intro (HP2.out.1.grow hb3) (HP2.out.2.grow hb3))
  rw [HN1.out] at o3
  have HO3 := Lib.hid o3.sl
  clear o3 hb3 HO2
  go_wp2_with fail
  refine (indices_spec w3 HP3.out.2 hn2).mono ?_
  rintro e w4 ⟨u4, rfl, o4, hb4⟩
  have hB4 : Below w.heap.size w w4 := bel_trans hB3 hb4
  have HP4 := Lib.hid (HP3.out.2.grow hb4)
  have HO4 := Lib.hid (And.intro (HO3.out.mono hb4) o4.sl)
  clear o4 hb4 HO3
  go_wp2_with fail
  refine (least_spec w4 HP4.out (HV.out.2.2.2.mono hB4) hn2 u4 (upto h.length) HO4.out.2 upto_range (by rw [upto_length]; exact hn2)).mono ?_
  rintro e w5 ⟨u5, rfl, o5, hb5⟩
  have hB5 : Below w.heap.size w w5 := bel_trans hB4 hb5
  rw [HN2.out] at o5
  have HO5 := Lib.hid (And.intro (HO4.out.1.mono hb5) o5.sl)
  clear o5 hb5 HO4
  go_wp2_with fail
  refine (EqualAc_spec _ _ _ _ w5 HO5.out.1 HO5.out.2).mono ?_
  rintro e w6 ⟨rfl, hb6⟩
  have hB6 : Below w.heap.size w w6 := bel_trans hB5 hb6
  go_wp2_with fail
  refine bodyPost_ret (by simp [results, Tryz.results42, go_sem]) rfl ⟨rfl, hB6⟩
theorem pre_iff {l : List Sol} {g h : List Ac} : (beyA l g h).2.1.isEmpty = true ↔ Tra.Pre (depA l) g h := by
  rw [List.isEmpty_iff]; exact (bey_A l g h).begins (depA_refl l) (depA_symm l)
/-- whether a history begins another one -/
def preB (l : List Sol) (g h : List Ac) : Bool := (beyA l g h).2.1.isEmpty
set_option maxHeartbeats 8000000 in
theorem begins_r (R : Runs b l g t) (R2 : Runs b l h u) (w : World) (Hv : SlS w v l) (Hav : SlA w av g) (Hv2 : SlS w v2 l) (Hav2 : SlA w av2 h) :
    Calls Tryz.prog 56 #[.agg #[.int .u64 (pl b 0), .int .u64 (pl b 1), .int .u64 (pl b 2), .int .u64 (pl b 3), .int .u64 (pl b 4), .int .u64 (pl b 5), .int .u64 (pl b 6), .int .u64 (pl b 7), v, av], .agg #[.int .u64 (pl b 0), .int .u64 (pl b 1), .int .u64 (pl b 2), .int .u64 (pl b 3), .int .u64 (pl b 4), .int .u64 (pl b 5), .int .u64 (pl b 6), .int .u64 (pl b 7), v2, av2]] w fun e w' => e = .returned (.bool (preB l g h)) ∧ Below w.heap.size w w' := by
  have H := Lib.hid fun w' (hb : Below w.heap.size w w') => Begins_r R R2 w' (Hv.mono hb) (Hav.mono hb) (Hv2.mono hb) (Hav2.mono hb)
  unfold preB
  clear R R2 Hv Hav Hv2 Hav2
  generalize (beyA l g h).2.1.isEmpty = r at *
  go_enter Tryz.func56, Tryz.ntmps56
  go_wp2_with fail
  refine (H.out _ (by repeat (first | with_reducible exact bel_refl _ | with_reducible assumption | with_reducible refine bel_drewN ?_ _ | with_reducible refine bel_drew ?_ | with_reducible refine bel_alloc ?_ _ | with_reducible refine bel_row ?_ ?_ _ | with_reducible refine bel_set ?_ ?_ _ | refine bel_trans ?_ (by with_reducible assumption) | (simp; done) | (simp; omega)))).mono ?_
  rintro e w1 ⟨rfl, hb⟩
  have hB1 : Below w.heap.size w w1 := bel_trans (by repeat (first | with_reducible exact bel_refl _ | with_reducible assumption | with_reducible refine bel_drewN ?_ _ | with_reducible refine bel_drew ?_ | with_reducible refine bel_alloc ?_ _ | with_reducible refine bel_row ?_ ?_ _ | with_reducible refine bel_set ?_ ?_ _ | refine bel_trans ?_ (by with_reducible assumption) | (simp; done) | (simp; omega))) hb
  clear hb
  go_wp2_with fail
  refine bodyPost_ret (by simp [results, Tryz.results56, go_sem]) rfl ⟨rfl, hB1⟩
theorem begins_is (x : Bool) (hx : preB l g h = x) (R : Runs b l g t) (R2 : Runs b l h u) (w : World) (Hv : SlS w v l) (Hav : SlA w av g) (Hv2 : SlS w v2 l) (Hav2 : SlA w av2 h) :
    Calls Tryz.prog 56 #[.agg #[.int .u64 (pl b 0), .int .u64 (pl b 1), .int .u64 (pl b 2), .int .u64 (pl b 3), .int .u64 (pl b 4), .int .u64 (pl b 5), .int .u64 (pl b 6), .int .u64 (pl b 7), v, av], .agg #[.int .u64 (pl b 0), .int .u64 (pl b 1), .int .u64 (pl b 2), .int .u64 (pl b 3), .int .u64 (pl b 4), .int .u64 (pl b 5), .int .u64 (pl b 6), .int .u64 (pl b 7), v2, av2]] w fun e w' => e = .returned (.bool x) ∧ Below w.heap.size w w' := by
  subst hx; exact begins_r R R2 w Hv Hav Hv2 Hav2
end
end Go.Proofs.YtccnkebkgegohaaGreatDoor
end
