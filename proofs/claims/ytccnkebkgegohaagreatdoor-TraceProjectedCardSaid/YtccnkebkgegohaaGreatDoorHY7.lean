import Derived.Test.YtccnkebkgegohaaGreatDoorHY3
import Derived.Laws.CopyRow
import Derived.Laws.Tables
import Derived.Laws.AppendOwn
/-
  Given contracts of functions of the program, and laws for them, one behind the other.
-/
set_option linter.unusedVariables false
set_option linter.unusedSimpArgs false
set_option linter.unusedSectionVars false
section
namespace Go.Proofs.YtccnkebkgegohaaGreatDoor
open Go.RowKit Go.Rel
set_option maxRecDepth 100000
section
variable {b : Sol} {l : List Sol} {g h : List Ac} {t u : StB} {v av v2 av2 : Value}
set_option maxHeartbeats 8000000 in
theorem Common_o (R : Runs b l g t) (R2 : Runs b l h u) (w : World) (Hv : SlS w v l) (Hav : SlA w av g) (Hv2 : SlS w v2 l) (Hav2 : SlA w av2 h) :
    Calls Tryz.prog 29 #[.agg #[.int .u64 (pl b 0), .int .u64 (pl b 1), .int .u64 (pl b 2), .int .u64 (pl b 3), .int .u64 (pl b 4), .int .u64 (pl b 5), .int .u64 (pl b 6), .int .u64 (pl b 7), v, av], .agg #[.int .u64 (pl b 0), .int .u64 (pl b 1), .int .u64 (pl b 2), .int .u64 (pl b 3), .int .u64 (pl b 4), .int .u64 (pl b 5), .int .u64 (pl b 6), .int .u64 (pl b 7), v2, av2]] w fun e w' => ∃ p n c q k d, e = .returned (.tuple #[.agg #[.int .u64 (pl b 0), .int .u64 (pl b 1), .int .u64 (pl b 2), .int .u64 (pl b 3), .int .u64 (pl b 4), .int .u64 (pl b 5), .int .u64 (pl b 6), .int .u64 (pl b 7), .slice p n c, .slice q k d], .int .i64 0]) ∧ OwnS w' w.heap.size (.slice p n c) l ∧ OwnA w' w.heap.size (.slice q k d) (nrm l (beyA l g h).1) ∧ Below w.heap.size w w' := by
  obtain ⟨tc, RC⟩ := R.pre (bey_A l g h).pre1
  have HC : Hid ((beyondM l g l h).1 = (beyA l g h).1) := Lib.hid (beyondM_is R.fine R2.fine).c
  have HRC := Lib.hid RC; clear RC
  have H := Lib.hid fun w' (hb : Below w.heap.size w w') => together_good R.good R2.good w' (Hv.mono hb) (Hav.mono hb) (Hv2.mono hb) (Hav2.mono hb) true (by simp [samePat])
  rw [if_pos rfl] at H
  have h8 := pat_len R.pat
  have hn := R.len
  have hn2 := R2.len
  have HBK := Lib.hid (beyondM_ok l g l h)
  have HV := Lib.hid (And.intro Hv (And.intro Hav (And.intro Hv2 Hav2)))
  clear R R2 Hv Hav Hv2 Hav2
  go_enter Tryz.func29, Tryz.ntmps29
  go_wp2_with fail
  refine (H.out _ bel_by).mono ?_
  rintro e w1 ⟨bp, bq, rfl, hP, hQ, hb⟩
  have b1 : Blk w1 (w.heap.size + 1 + 1) #[.int .u64 0, .int .u64 0, .int .u64 0, .int .u64 0, .int .u64 0, .int .u64 0, .int .u64 0, .int .u64 0, .slice none 0 0, .slice none 0 0] 30 := Blk.grow blk_by hb
  have hB1 : Below w.heap.size w w1 := bel_trans bel_by hb
  have HPQ := Lib.hid (And.intro hP hQ); clear hP hQ hb H
  have hs1 := b1.lt
  go_wp2_with fail
  refine (beyond_spec w1 HPQ.out.1 HPQ.out.2 (HV.out.2.1.mono hB1) (HV.out.2.2.2.mono hB1) hn hn2).mono ?_
  rintro e w2 ⟨uc, ua, ub, rfl, oc, oa, ob, hb2⟩
  have hB2 : Below w.heap.size w w2 := bel_trans hB1 hb2
  have b2 := b1.grow hb2
  have HO2 : Hid (OwnA w2 w1.heap.size uc (beyondM l g l h).1) := Lib.hid oc
  have HP2 := Lib.hid (HPQ.out.1.grow hb2)
  have hs2 := hb2.size
  clear oc oa ob hb2 b1
  go_wp2_with fail
  refine (with_spec w2 HP2.out (HV.out.1.mono hB2) h8 uc (beyondM l g l h).1 HO2.out.sl (Nat.le_trans HBK.out.lc (by omega))).mono ?_
  rintro e w8 ⟨pv8, bv8, rfl, hS8, hA8, hb8⟩
  have hB8 : Below w.heap.size w w8 := bel_trans hB2 hb8
  have b8 := b2.grow hb8
  have hs8 := hb8.size
  have HN8 := Lib.hid (And.intro hS8 hA8)
  rw [HC.out] at HN8
  clear hS8 hA8 hb8 b2
  go_wp2_with fail
  refine (Normal_good HRC.out.good w8 HN8.out.1.sl HN8.out.2.sl).mono ?_
  rintro e w9 ⟨pv9, bv9, rfl, hS9, hA9, hb9⟩
  have hB9 : Below w.heap.size w w9 := bel_trans hB8 hb9
  have b9 := b8.grow hb9
  have hs9 := hb9.size
  have HS9 := Lib.hid (And.intro hS9 hA9)
  rw [normalM_eq HRC.out.fine] at HS9
  refine Veil.out ?_
  obtain ⟨p, c, hp, _, _⟩ := own_shape' hS9
  obtain ⟨p', c', hp', _, _⟩ := own_shape' hA9
  subst hp
  subst hp'
  refine Veil.on ?_
  clear hS9 hA9 hb9 b8
  have r1 := b9.row
  rw [← b9.rw]
  clear b9
  go_wp2_with fail
  refine bodyPost_ret (by simp [results, Tryz.results29, go_sem, *]) rfl ⟨_, _, _, _, _, _, rfl, own_weak (own_row (bp := w.heap.size + 1 + 1) HS9.out.1 (by omega) _) (by omega), own_weak (own_row (bp := w.heap.size + 1 + 1) HS9.out.2 (by omega) _) (by omega), blw_row hB9 (by omega) _⟩
theorem Common_r (R : Runs b l g t) (R2 : Runs b l h u) (w : World) (Hv : SlS w v l) (Hav : SlA w av g) (Hv2 : SlS w v2 l) (Hav2 : SlA w av2 h) :
    Calls Tryz.prog 29 #[.agg #[.int .u64 (pl b 0), .int .u64 (pl b 1), .int .u64 (pl b 2), .int .u64 (pl b 3), .int .u64 (pl b 4), .int .u64 (pl b 5), .int .u64 (pl b 6), .int .u64 (pl b 7), v, av], .agg #[.int .u64 (pl b 0), .int .u64 (pl b 1), .int .u64 (pl b 2), .int .u64 (pl b 3), .int .u64 (pl b 4), .int .u64 (pl b 5), .int .u64 (pl b 6), .int .u64 (pl b 7), v2, av2]] w (HRes b l (nrm l (beyA l g h).1) 0 w) :=
  (Common_o R R2 w Hv Hav Hv2 Hav2).mono fun e w' ⟨p, n, c, q, k, d, he, h1, h2, h3⟩ => ⟨p, n, c, q, k, d, he, h1.sl, h2.sl, h3⟩
set_option maxHeartbeats 8000000 in
theorem Begins_r (R : Runs b l g t) (R2 : Runs b l h u) (w : World) (Hv : SlS w v l) (Hav : SlA w av g) (Hv2 : SlS w v2 l) (Hav2 : SlA w av2 h) :
    Calls Tryz.prog 61 #[.agg #[.int .u64 (pl b 0), .int .u64 (pl b 1), .int .u64 (pl b 2), .int .u64 (pl b 3), .int .u64 (pl b 4), .int .u64 (pl b 5), .int .u64 (pl b 6), .int .u64 (pl b 7), v, av], .agg #[.int .u64 (pl b 0), .int .u64 (pl b 1), .int .u64 (pl b 2), .int .u64 (pl b 3), .int .u64 (pl b 4), .int .u64 (pl b 5), .int .u64 (pl b 6), .int .u64 (pl b 7), v2, av2]] w fun e w' => e = .returned (.tuple #[.bool (beyA l g h).2.1.isEmpty, .int .i64 0]) ∧ Below w.heap.size w w' := by
  have HE : Hid ((beyA l g h).2.1.isEmpty = decide ((beyondM l g l h).2.1.length = 0)) := Lib.hid (by
    rw [← (beyondM_is R.fine R2.fine).a, List.isEmpty_map]
    cases (beyondM l g l h).2.1 <;> simp)
  have H := Lib.hid fun w' (hb : Below w.heap.size w w') => both_good R.good R2.good w' (Hv.mono hb) (Hav.mono hb) (Hv2.mono hb) (Hav2.mono hb)
  have hs : samePat b l b l = true := by simp [samePat]
  rw [hs] at H
  have hn := R.len
  have hn2 := R2.len
  have HV := Lib.hid (And.intro Hv (And.intro Hav (And.intro Hv2 Hav2)))
  clear R R2 Hv Hav Hv2 Hav2 hs
  rw [HE.out]
  clear HE
  generalize hnn : (beyondM l g l h).2.1.length = nn
  have HNN := Lib.hid hnn; clear hnn
  go_enter Tryz.func61, Tryz.ntmps61
  go_wp2_with fail
  refine (H.out _ bel_by).mono ?_
  rintro e w1 ⟨bp, bq, rfl, hP, hQ, hb⟩
  have hB1 : Below w.heap.size w w1 := bel_trans bel_by hb
  have HPQ := Lib.hid (And.intro hP hQ); clear hP hQ hb H
  go_wp2_with fail
  refine (beyond_spec w1 HPQ.out.1 HPQ.out.2 (HV.out.2.1.mono hB1) (HV.out.2.2.2.mono hB1) hn hn2).mono ?_
  rintro e w2 ⟨uc, ua, ub, rfl, oc, oa, ob, hb2⟩
  have hB2 : Below w.heap.size w w2 := bel_trans hB1 hb2
  have HA2 : Hid (∃ p c, ua = .slice p nn c) := Lib.hid (by obtain ⟨p, c, e, _⟩ := own_shape' oa; have e2 := HNN.out; unfold beyondM at e2; exact ⟨p, c, by rw [e, e2]⟩)
  clear oc oa ob hb2
  refine Veil.out ?_
  obtain ⟨pa, ca, hpa⟩ := HA2.out
  subst hpa
  refine Veil.on ?_
  clear HA2
  go_wp2_with fail
  have e : ((nn : Int) == 0) = decide (nn = 0) := by
    rw [Bool.eq_iff_iff, beq_iff_eq, decide_eq_true_iff]; omega
  refine bodyPost_ret (v := .tuple #[.bool ((nn : Int) == 0), .int .i64 0]) (by simp [results, Tryz.results61, go_sem]) rfl ⟨by rw [e], hB2⟩
set_option maxHeartbeats 8000000 in
theorem Equal_r (R : Runs b l g t) (R2 : Runs b l h u) (w : World) (Hv : SlS w v l) (Hav : SlA w av g) (Hv2 : SlS w v2 l) (Hav2 : SlA w av2 h) :
    Calls Tryz.prog 42 #[.agg #[.int .u64 (pl b 0), .int .u64 (pl b 1), .int .u64 (pl b 2), .int .u64 (pl b 3), .int .u64 (pl b 4), .int .u64 (pl b 5), .int .u64 (pl b 6), .int .u64 (pl b 7), v, av], .agg #[.int .u64 (pl b 0), .int .u64 (pl b 1), .int .u64 (pl b 2), .int .u64 (pl b 3), .int .u64 (pl b 4), .int .u64 (pl b 5), .int .u64 (pl b 6), .int .u64 (pl b 7), v2, av2]] w fun e w' => e = .returned (.tuple #[.bool (nrm l g == nrm l h), .int .i64 0]) ∧ Below w.heap.size w w' := by
  have H := Lib.hid fun w' (hb : Below w.heap.size w w') => both_good R.good R2.good w' (Hv.mono hb) (Hav.mono hb) (Hv2.mono hb) (Hav2.mono hb)
  have hs : samePat b l b l = true := by simp [samePat]
  rw [hs] at H
  have hn := R.len
  have hn2 := R2.len
  have HN1 : Hid (actsAt g (leastI (depI (cellsOf l g)) (cmpN g) (upto g.length).length (upto g.length)) = nrm l g) := Lib.hid (normalM_eq R.fine)
  have HN2 : Hid (actsAt h (leastI (depI (cellsOf l h)) (cmpN h) (upto h.length).length (upto h.length)) = nrm l h) := Lib.hid (normalM_eq R2.fine)
  have HV := Lib.hid (And.intro Hv (And.intro Hav (And.intro Hv2 Hav2)))
  clear R R2 Hv Hav Hv2 Hav2 hs
  go_enter Tryz.func42, Tryz.ntmps42
  go_wp2_with fail
  refine (H.out _ bel_by).mono ?_
  rintro e w1 ⟨bp, bq, rfl, hP, hQ, hb⟩
  have hB1 : Below w.heap.size w w1 := bel_trans bel_by hb
  have HPQ := Lib.hid (And.intro hP hQ); clear hP hQ hb H
  go_wp2_with fail
  refine (indices_spec w1 HPQ.out.1 hn).mono ?_
  rintro e w2 ⟨u2, rfl, o2, hb2⟩
  have hB2 : Below w.heap.size w w2 := bel_trans hB1 hb2
  have HP2 := Lib.hid (And.intro (HPQ.out.1.grow hb2) (HPQ.out.2.grow hb2))
  have HO2 := Lib.hid o2.sl
  clear o2 hb2
  go_wp2_with fail
  refine (least_spec w2 HP2.out.1 (HV.out.2.1.mono hB2) hn u2 (upto g.length) HO2.out upto_range (by rw [upto_length]; exact hn)).mono ?_
  rintro e w3 ⟨u3, rfl, o3, hb3⟩
  have hB3 : Below w.heap.size w w3 := bel_trans hB2 hb3
  have HP3 := Lib.hid (And.intro (HP2.out.1.grow hb3) (HP2.out.2.grow hb3))
  rw [HN1.out] at o3
  have HO3 := Lib.hid o3.sl
  clear o3 hb3 HO2
  go_wp2_with fail
  refine (indices_spec w3 HP3.out.2 hn2).mono ?_
  rintro e w4 ⟨u4, rfl, o4, hb4⟩
  have hB4 : Below w.heap.size w w4 := bel_trans hB3 hb4
  have HP4 := Lib.hid (HP3.out.2.grow hb4)
  have HO4 := Lib.hid (And.intro (HO3.out.mono hb4) o4.sl)
  clear o4 hb4 HO3
  go_wp2_with fail
  refine (least_spec w4 HP4.out (HV.out.2.2.2.mono hB4) hn2 u4 (upto h.length) HO4.out.2 upto_range (by rw [upto_length]; exact hn2)).mono ?_
  rintro e w5 ⟨u5, rfl, o5, hb5⟩
  have hB5 : Below w.heap.size w w5 := bel_trans hB4 hb5
  rw [HN2.out] at o5
  have HO5 := Lib.hid (And.intro (HO4.out.1.mono hb5) o5.sl)
  clear o5 hb5 HO4
  go_wp2_with fail
  refine (EqualAc_spec _ _ _ _ w5 HO5.out.1 HO5.out.2).mono ?_
  rintro e w6 ⟨rfl, hb6⟩
  have hB6 : Below w.heap.size w w6 := bel_trans hB5 hb6
  go_wp2_with fail
  refine bodyPost_ret (by simp [results, Tryz.results42, go_sem]) rfl ⟨rfl, hB6⟩
theorem pre_iff {l : List Sol} {g h : List Ac} : (beyA l g h).2.1.isEmpty = true ↔ Tra.Pre (depA l) g h := by
  rw [List.isEmpty_iff]; exact (bey_A l g h).begins (depA_refl l) (depA_symm l)
/-- whether a history begins another one -/
def preB (l : List Sol) (g h : List Ac) : Bool := (beyA l g h).2.1.isEmpty
set_option maxHeartbeats 8000000 in
theorem begins_r (R : Runs b l g t) (R2 : Runs b l h u) (w : World) (Hv : SlS w v l) (Hav : SlA w av g) (Hv2 : SlS w v2 l) (Hav2 : SlA w av2 h) :
    Calls Tryz.prog 56 #[.agg #[.int .u64 (pl b 0), .int .u64 (pl b 1), .int .u64 (pl b 2), .int .u64 (pl b 3), .int .u64 (pl b 4), .int .u64 (pl b 5), .int .u64 (pl b 6), .int .u64 (pl b 7), v, av], .agg #[.int .u64 (pl b 0), .int .u64 (pl b 1), .int .u64 (pl b 2), .int .u64 (pl b 3), .int .u64 (pl b 4), .int .u64 (pl b 5), .int .u64 (pl b 6), .int .u64 (pl b 7), v2, av2]] w fun e w' => e = .returned (.bool (preB l g h)) ∧ Below w.heap.size w w' := by
  have H := Lib.hid fun w' (hb : Below w.heap.size w w') => Begins_r R R2 w' (Hv.mono hb) (Hav.mono hb) (Hv2.mono hb) (Hav2.mono hb)
  unfold preB
  clear R R2 Hv Hav Hv2 Hav2
  generalize (beyA l g h).2.1.isEmpty = r at *
  go_enter Tryz.func56, Tryz.ntmps56
  go_wp2_with fail
  refine (H.out _ bel_by).mono ?_
  rintro e w1 ⟨rfl, hb⟩
  have hB1 : Below w.heap.size w w1 := bel_trans bel_by hb
  clear hb
  go_wp2_with fail
  refine bodyPost_ret (by simp [results, Tryz.results56, go_sem]) rfl ⟨rfl, hB1⟩
theorem begins_is (x : Bool) (hx : preB l g h = x) (R : Runs b l g t) (R2 : Runs b l h u) (w : World) (Hv : SlS w v l) (Hav : SlA w av g) (Hv2 : SlS w v2 l) (Hav2 : SlA w av2 h) :
    Calls Tryz.prog 56 #[.agg #[.int .u64 (pl b 0), .int .u64 (pl b 1), .int .u64 (pl b 2), .int .u64 (pl b 3), .int .u64 (pl b 4), .int .u64 (pl b 5), .int .u64 (pl b 6), .int .u64 (pl b 7), v, av], .agg #[.int .u64 (pl b 0), .int .u64 (pl b 1), .int .u64 (pl b 2), .int .u64 (pl b 3), .int .u64 (pl b 4), .int .u64 (pl b 5), .int .u64 (pl b 6), .int .u64 (pl b 7), v2, av2]] w fun e w' => e = .returned (.bool x) ∧ Below w.heap.size w w' := by
  subst hx; exact begins_r R R2 w Hv Hav Hv2 Hav2
end
end Go.Proofs.YtccnkebkgegohaaGreatDoor
end
section
namespace Go.Proofs.YtccnkebkgegohaaGreatDoor
open Go.RowKit Go.Rel
set_option maxRecDepth 100000
theorem samePat_eq {b b' : Sol} {l l' : List Sol} (h : samePat b l b' l' = true) : b' = b ∧ l' = l := by
  unfold samePat at h
  simp only [Bool.and_eq_true, beq_iff_eq] at h
  exact ⟨h.1.symm, h.2.symm⟩
theorem pre_of {l : List Sol} {g h : List Ac} (p : Tra.Pre (depA l) g h) : preB l g h = true := pre_iff.2 p
theorem of_pre {l : List Sol} {g h : List Ac} (p : preB l g h = true) : Tra.Pre (depA l) g h := pre_iff.1 p
theorem bad_or {b : Sol} {l : List Sol} {m : List Ac} : Bad b l m ∨ ∃ t, Runs b l m t := by
  cases h : begunM b l m with
  | inl x => exact .inl ⟨x, h⟩
  | inr s =>
    obtain ⟨t, R, _⟩ := Runs.of h
    exact .inr ⟨t, R⟩
theorem Check_ok {b : Sol} {l : List Sol} {m : List Ac} {t : StB} (R : Runs b l m t) {v av : Value} (w : World) (Hv : SlS w v l) (Hav : SlA w av m) :
    Calls Tryz.prog 27 #[.agg #[.int .u64 (pl b 0), .int .u64 (pl b 1), .int .u64 (pl b 2), .int .u64 (pl b 3), .int .u64 (pl b 4), .int .u64 (pl b 5), .int .u64 (pl b 6), .int .u64 (pl b 7), v, av]] w fun e w' => e = .returned (.tuple #[.int .i64 0, .int .i64 0]) ∧ Below w.heap.size w w' := by
  have := Check_spec b v av l m w Hv Hav
  unfold checkR at this
  rw [R.good] at this
  exact this
theorem Check_any (b : Sol) (l : List Sol) (m : List Ac) : ∃ x y : Int, (Bad b l m → (y != 0) = true) ∧ ∀ {v av : Value} (w : World), SlS w v l → SlA w av m →
    Calls Tryz.prog 27 #[.agg #[.int .u64 (pl b 0), .int .u64 (pl b 1), .int .u64 (pl b 2), .int .u64 (pl b 3), .int .u64 (pl b 4), .int .u64 (pl b 5), .int .u64 (pl b 6), .int .u64 (pl b 7), v, av]] w fun e w' => e = .returned (.tuple #[.int .i64 x, .int .i64 y]) ∧ Below w.heap.size w w' := by
  refine ⟨_, (checkR b l m).2, fun ⟨x, hx⟩ => ?_, fun w h1 h2 => Check_spec b _ _ l m w h1 h2⟩
  unfold checkR
  rw [hx]; exact begunM_bad hx
/-- the greatest common beginning -/
theorem meets_law {l : List Sol} (g h k : List Ac) : preB l (nrm l (beyA l g h).1) g = true ∧ preB l (nrm l (beyA l g h).1) h = true ∧ (preB l k g = true → preB l k h = true → preB l k (nrm l (beyA l g h).1) = true) := by
  have B := bey_A l g h
  have e := nrm_eqv l (beyA l g h).1
  exact ⟨pre_of (B.pre1.eqv e (Tra.Eqv.refl _)), pre_of (B.pre2.eqv e (Tra.Eqv.refl _)), fun h1 h2 => pre_of ((B.great (depA_refl l) (depA_symm l) (of_pre h1) (of_pre h2)).eqv (Tra.Eqv.refl _) e)⟩
end Go.Proofs.YtccnkebkgegohaaGreatDoor
end
section
namespace Go.Proofs.YtccnkebkgegohaaGreatDoor
open Go.RowKit Go.Rel
set_option maxRecDepth 100000
/-- a world that grew by what a walk lays: found by its form -/
class BelI (w0 w : World) : Prop where
  out : Below w0.heap.size w0 w
instance (w : World) : BelI w w := ⟨bel_refl w⟩
instance (w0 w : World) [h : BelI w0 w] (o : Obj) : BelI w0 (w.alloc o) := ⟨bel_alloc h.out o⟩
instance (w0 w : World) [h : BelI w0 w] : BelI w0 w.drew := ⟨bel_drew h.out⟩
instance (w0 w : World) [h : BelI w0 w] (n : Nat) : BelI w0 (w.drewN n) := ⟨bel_drewN h.out n⟩
theorem bni {w0 w : World} [h : BelI w0 w] : Below w0.heap.size w0 w := h.out
/-- two acts of a history that hang together are not independent -/
theorem Indep_dep {b : Sol} {l : List Sol} {g h : List Ac} {t u : StB} (R : Runs b l g t) (R2 : Runs b l h u) {x y : Ac} (hx : x ∈ g) (hy : y ∈ h) (hd : depA l x y = true) {v : Value} (w : World) (Hv : SlS w v l) :
    Calls Tryz.prog 32 #[.agg #[.int .u64 (pl b 0), .int .u64 (pl b 1), .int .u64 (pl b 2), .int .u64 (pl b 3), .int .u64 (pl b 4), .int .u64 (pl b 5), .int .u64 (pl b 6), .int .u64 (pl b 7), v], .agg #[.int .u8 x.1, .int .i64 x.2.1, .int .u64 (pl x.2.2 0), .int .u64 (pl x.2.2 1), .int .u64 (pl x.2.2 2), .int .u64 (pl x.2.2 3), .int .u64 (pl x.2.2 4), .int .u64 (pl x.2.2 5), .int .u64 (pl x.2.2 6), .int .u64 (pl x.2.2 7)], .agg #[.int .u8 y.1, .int .i64 y.2.1, .int .u64 (pl y.2.2 0), .int .u64 (pl y.2.2 1), .int .u64 (pl y.2.2 2), .int .u64 (pl y.2.2 3), .int .u64 (pl y.2.2 4), .int .u64 (pl y.2.2 5), .int .u64 (pl y.2.2 6), .int .u64 (pl y.2.2 7)]] w fun e w' => e = .returned (.tuple #[.bool false, .int .i64 0]) ∧ Below w.heap.size w w' := by
  have hs := Independent_spec b v l x y w Hv
  have hx0 : chkAc b l x = 0 := by unfold chkAc; rw [if_pos R.pat, if_pos (R.fine.fit x hx)]
  have hy0 : chkAc b l y = 0 := by unfold chkAc; rw [if_pos R.pat, if_pos (R2.fine.fit y hy)]
  have hi : indErr b l x y = 0 := by unfold indErr; rw [if_pos hx0, hy0]
  have ha : apartB l x y = false := by
    unfold apartB
    rw [depA_meets (R.fine.ne x hx)] at hd
    rw [hd]; rfl
  rw [hi, ha] at hs
  exact hs
theorem few_len {m n : Nat} (h : many m n = false) (h60 : m ≤ 60) : m ≤ 14 := by
  unfold many at h
  have := of_decide_eq_false h
  omega
end Go.Proofs.YtccnkebkgegohaaGreatDoor
end
section
namespace Go.Proofs.YtccnkebkgegohaaGreatDoor
open Go Go.Tra
/-! ### neighbours exchanged; projections -/
def swp (m : List Ac) (i : Nat) : List Ac := (m.set i (m.getD (i + 1) (0, 0, 0))).set (i + 1) (m.getD i (0, 0, 0))
theorem swp_len (m : List Ac) (i : Nat) : (swp m i).length = m.length := by simp [swp]
theorem set_mid {α : Type} : ∀ (u : List α) (x y a b : α) (v : List α), ((u ++ x :: y :: v).set u.length a).set (u.length + 1) b = u ++ a :: b :: v
  | [], x, y, a, b, v => rfl
  | z :: u, x, y, a, b, v => by simp [List.set_cons_succ, set_mid u x y a b v]
theorem two_at {m : List Ac} {i : Nat} (hi : i + 1 < m.length) : ∃ u v, u.length = i ∧ m = u ++ m.getD i (0, 0, 0) :: m.getD (i + 1) (0, 0, 0) :: v := by
  refine ⟨m.take i, m.drop (i + 2), by rw [List.length_take]; omega, ?_⟩
  have h0 : m.getD i (0, 0, 0) = m[i] := by simp [List.getD_eq_getElem?_getD, List.getElem?_eq_getElem (show i < m.length by omega)]
  have h1 : m.getD (i + 1) (0, 0, 0) = m[i + 1] := by simp [List.getD_eq_getElem?_getD, List.getElem?_eq_getElem hi]
  rw [h0, h1, ← List.drop_eq_getElem_cons hi, ← List.drop_eq_getElem_cons (show i < m.length by omega), List.take_append_drop]
theorem swp_eqv {l : List Sol} {m : List Ac} {i : Nat} (hi : i + 1 < m.length) (hd : depA l (m.getD i (0, 0, 0)) (m.getD (i + 1) (0, 0, 0)) = false) : Eqv (depA l) m (swp m i) := by
  obtain ⟨u, v, hu, hm⟩ := two_at hi
  have e : swp m i = u ++ m.getD (i + 1) (0, 0, 0) :: m.getD i (0, 0, 0) :: v := by
    unfold swp
    generalize m.getD i (0, 0, 0) = x at *
    generalize m.getD (i + 1) (0, 0, 0) = y at *
    subst hu
    rw [hm, set_mid]
  rw [e]
  have := Eqv.swap (depA_symm l) hd v
  have h2 := Eqv.app (Eqv.refl (D := depA l) u) this
  rw [← hm] at h2
  exact h2
theorem apart_dep {l : List Sol} {m : List Ac} (F : Fine l m) {x y : Ac} (hx : x ∈ m) : (!meetsB (acCells l x) (acCells l y)) = !depA l x y := by rw [depA_meets (F.ne x hx)]
/-- of a list only two acts, as the law keeps them -/
def prj (a b : Ac) (m : List Ac) : List Ac := m.filter fun x => !((!(x == a)) && (!(x == b)))
theorem prj_eq (a b : Ac) (m : List Ac) : prj a b m = pj a b m := by
  unfold prj pj
  congr 1
  funext x
  rw [Bool.eq_iff_iff]; simp
def freeOrSame (l : List Sol) (g h : List Ac) (a b : Ac) : Bool := !meetsB (acCells l a) (acCells l b) || (prj a b g == prj a b h)
theorem pj_out {a b : Ac} {m : List Ac} (h : a ∉ m) : pj a b m = pj b b m := by
  unfold pj
  refine List.filter_congr fun x hx => ?_
  have : x ≠ a := fun e => h (e ▸ hx)
  simp [this]
theorem pj_comm (a b : Ac) (m : List Ac) : pj a b m = pj b a m := by
  unfold pj; congr 1; funext x; rw [Bool.or_comm]
theorem projected_law {l : List Sol} {g h : List Ac} (F : Fine l g) (G : Fine l h) : (nrm l g == nrm l h) = (g ++ h).all fun a => (g ++ h).all fun b => freeOrSame l g h a b := by
  have FG := F.app G
  rw [Bool.eq_iff_iff, beq_iff_eq, nrm_iff]
  have key : ∀ a ∈ g ++ h, ∀ b, (freeOrSame l g h a b = true ↔ (depA l a b = true → pj a b g = pj a b h)) := by
    intro a ha b
    unfold freeOrSame
    rw [apart_dep FG ha, prj_eq, prj_eq]
    cases depA l a b <;> simp
  simp only [List.all_eq_true]
  constructor
  · intro e a ha b hb
    exact (key a ha b).2 fun hd => e a b hd
  · intro H a b hd
    by_cases ha : a ∈ g ++ h
    · by_cases hb : b ∈ g ++ h
      · exact (key a ha b).1 (H a ha b hb) hd
      · have hb1 : b ∉ g := fun h => hb (List.mem_append_left _ h)
        have hb2 : b ∉ h := fun h => hb (List.mem_append_right _ h)
        rw [pj_comm a b g, pj_comm a b h, pj_out hb1, pj_out hb2]
        exact (key a ha a).1 (H a ha a ha) (depA_refl l a)
    · have ha1 : a ∉ g := fun h => ha (List.mem_append_left _ h)
      have ha2 : a ∉ h := fun h => ha (List.mem_append_right _ h)
      rw [pj_out ha1, pj_out ha2]
      by_cases hb : b ∈ g ++ h
      · exact (key b hb b).1 (H b hb b hb) (depA_refl l b)
      · have hb1 : b ∉ g := fun h => hb (List.mem_append_left _ h)
        have hb2 : b ∉ h := fun h => hb (List.mem_append_right _ h)
        have h0 : ∀ {m : List Ac}, b ∉ m → pj b b m = [] := by
          intro m hm
          unfold pj
          rw [List.filter_eq_nil_iff]
          intro x hx
          have : x ≠ b := fun e => hm (e ▸ hx)
          simp [this]
        rw [h0 hb1, h0 hb2]
end Go.Proofs.YtccnkebkgegohaaGreatDoor
end
section
namespace Go.Proofs.YtccnkebkgegohaaGreatDoor
open Go
/-! a struct stored into a list in place -/
def spl (cur : Array Value) (o : Nat) (vs : List Value) : Array Value := (cur.toList.take o ++ vs ++ cur.toList.drop (o + vs.length)).toArray
theorem spl_size {cur : Array Value} {o : Nat} {vs : List Value} (h : o + vs.length ≤ cur.size) : (spl cur o vs).size = cur.size := by
  unfold spl; simp; omega
theorem run_storeVar_at {P : Program} (w : World) (g of : Nat) (t ty : TypeId) (cur cells : Array Value) (hg : w.heap[g]? = some (.cells cur t (0, 0))) (hi : (P.info? ty).map (·.size) = some cells.size)
    (hfit : of + cells.size ≤ cur.size) (h1 : cells.all (·.oneCell') = true) : (storeVar ty ⟨g, of, none⟩ (.agg cells)).run P w = .ok () (w.setRow g (spl cur of cells.toList)) := by
  have := run_storeCells_at (P := P) g of t cells.toList 0 cur w hg (by simpa using hfit) (fun v hv => (Array.all_eq_true_iff_forall_mem.1 h1) v (by simpa using hv))
  cases hq : P.info? ty with
  | none => simp [hq] at hi
  | some i =>
    have hs : cells.size = i.size := by simp [hq] at hi; omega
    simp only [Nat.add_zero] at this
    simp [storeVar, sizeOf, typeInfo, hq, Value.cells, hs, this, spl]
theorem wpList_store_at {P : Program} {ops : Array Oper} {rest : List Oper} {o : Oper} {a : Act} {w : World} {Q : Exit → Act → World → Prop} (hgd : o.guard = none) (ty : TypeId) (x y : Operand) (ho : o.op = .store ty x y)
    (g of : Nat) (cells : Array Value) (hx : a.eval x = .pointer (some ⟨g, of, none⟩)) (hy : a.eval y = .agg cells)
    (t : TypeId) (cur : Array Value) (hg : w.heap[g]? = some (.cells cur t (0, 0))) (hi : (P.info? ty).map (·.size) = some cells.size)
    (hfit : of + cells.size ≤ cur.size) (h1 : cells.all (·.oneCell') = true)
    (h : wpList P ops Q rest (a.put o.dst undef) (w.setRow g (spl cur of cells.toList))) : wpList P ops Q (o :: rest) a w :=
  wpList_plain hgd fun _ hK => by
    unfold Oper.wp execOp
    simp only [ho, hx, hy, Instr.storeAt, Instr.sureAddr, Sem.run_bind, Sem.run_pure, Result.andThen_ok, run_storeVar_at w g of t ty cur cells hg hi hfit h1]
    exact hK _ _ h
/-- rows of k cells, one of them set -/
theorem flat_set {k : Nat} {α : Type} (row : α → List Value) (hk : ∀ a, (row a).length = k) (x : α) : ∀ (m : List α) (i : Nat), i < m.length → ((m.set i x).map row).flatten = (m.map row).flatten.take (i * k) ++ row x ++ (m.map row).flatten.drop (i * k + k)
  | y :: m, 0, _ => by
    have h : (row y).length = k := hk y
    simp only [List.set_cons_zero, List.map_cons, List.flatten_cons, Nat.zero_mul, List.take_zero, List.nil_append, Nat.zero_add]
    rw [← h, List.drop_left]
  | y :: m, i + 1, h => by
    have hy : (row y).length = k := hk y
    have ih := flat_set row hk x m i (by simpa using h)
    simp only [List.set_cons_succ, List.map_cons, List.flatten_cons, ih]
    have e1 : (i + 1) * k = (row y).length + i * k := by rw [hy, Nat.add_mul, Nat.one_mul, Nat.add_comm]
    rw [e1, List.take_length_add_append, Nat.add_assoc, List.drop_length_add_append]
    simp
theorem flat_len10 {k : Nat} {α : Type} (row : α → List Value) (hk : ∀ a, (row a).length = k) : ∀ m : List α, ((m.map row).flatten).length = m.length * k
  | [] => by simp
  | y :: m => by simp [flat_len10 row hk m, hk y, Nat.add_mul]; omega
/-- a block whose first cells are the rows of a list, one row stored -/
theorem spl_take {k : Nat} {α : Type} (row : α → List Value) (hk : ∀ a, (row a).length = k) {m : List α} {cur : Array Value} {i : Nat} (hi : i < m.length) (hc : m.length * k ≤ cur.size) (ht : cur.toList.take (m.length * k) = (m.map row).flatten) (x : α) :
    (spl cur (i * k) (row x)).toList.take (m.length * k) = ((m.set i x).map row).flatten := by
  rw [flat_set row hk x m i hi, ← ht]
  have hik : i * k + k ≤ m.length * k := by
    have := Nat.mul_le_mul_right k (show i + 1 ≤ m.length from hi)
    rwa [Nat.add_mul, Nat.one_mul] at this
  unfold spl
  simp only [hk]
  rw [List.take_take, Nat.min_eq_left (by omega), List.drop_take]
  have hP : (cur.toList.take (i * k) ++ row x).length = i * k + k := by
    rw [List.length_append, List.length_take, Array.length_toList, hk]; omega
  have hN : m.length * k = (cur.toList.take (i * k) ++ row x).length + (m.length * k - (i * k + k)) := by rw [hP]; omega
  show (cur.toList.take (i * k) ++ row x ++ cur.toList.drop (i * k + k)).take (m.length * k) = _
  generalize hM : m.length * k - (i * k + k) = M at *
  rw [hN, List.take_length_add_append]
end Go.Proofs.YtccnkebkgegohaaGreatDoor
end
section
namespace Go.Proofs.YtccnkebkgegohaaGreatDoor
open Go.RowKit Go.Rel
set_option maxRecDepth 100000
/-! a list of acts of our own, one act stored in place -/
structure OwnB (W : World) (base : Nat) (m : List Ac) (g cap : Nat) (cur : Array Value) : Prop where
  base : base ≤ g
  blk : Blk W g cur 46
  le : m.length ≤ cap
  lim : cap ≤ maxLen
  size : cur.size = cap * 10
  rows : cur.toList.take (m.length * 10) = (m.map acL).flatten
theorem OwnA.opn {W : World} {base : Nat} {v : Value} {m : List Ac} (h : OwnA W base v m) (h0 : m ≠ []) : ∃ g cap cur, v = .slice (some ⟨g, 0, none⟩) m.length cap ∧ OwnB W base m g cap cur := by
  obtain ⟨_, h | ⟨g, cap, cur, hv, hg, hh, hr⟩⟩ := h
  · exact absurd (List.eq_nil_of_length_eq_zero h.2) h0
  · exact ⟨g, cap, cur, hv, hg, hh, hr.1, hr.2.1, hr.2.2.1, hr.2.2.2⟩
theorem acL_len (a : Ac) : (acL a).length = 10 := rfl
@[irreducible] def VBk (base : Nat) (C : Array Value) (t : TypeId) (v : Value) (W : World) : Prop := ∃ g, v = .pointer (some ⟨g, 0, none⟩) ∧ base ≤ g ∧ Blk W g C t
theorem VBk.stab {base : Nat} {C : Array Value} {t : TypeId} (v : Value) (W W' : World) (h : VBk base C t v W) (g : Grows W W') : VBk base C t v W' := by unfold VBk at *; obtain ⟨q, h1, h2, h3⟩ := h; exact ⟨q, h1, h2, h3.grow g⟩
section
variable {W : World} {base g cap : Nat} {m : List Ac} {cur : Array Value}
theorem OwnB.own (h : OwnB W base m g cap cur) : OwnA W base (.slice (some ⟨g, 0, none⟩) m.length cap) m :=
  ⟨flat_len10 acL acL_len m, .inr ⟨g, cap, cur, rfl, h.base, h.blk, h.le, h.lim, h.size, h.rows⟩⟩
theorem OwnB.fit (h : OwnB W base m g cap cur) {i : Nat} (hi : i < m.length) (x : Ac) : i * 10 + (acL x).length ≤ cur.size := by
  rw [h.size, acL_len]
  have := h.le
  omega
theorem OwnB.set (h : OwnB W base m g cap cur) {i : Nat} (hi : i < m.length) (x : Ac) : OwnB (W.setRow g (spl cur (i * 10) (acL x))) base (m.set i x) g cap (spl cur (i * 10) (acL x)) := by
  have hf := h.fit hi x
  have hl : (m.set i x).length = m.length := List.length_set ..
  refine ⟨h.base, h.blk.rowS _, by rw [hl]; exact h.le, h.lim, by rw [spl_size hf]; exact h.size, ?_⟩
  rw [hl]
  exact spl_take acL acL_len hi (by rw [h.size]; have := h.le; omega) h.rows x
end
theorem own_rowT {w : World} {base bp : Nat} {e t : TypeId} {size : Nat} {u : Value} {n : Nat} {zs : List Value} {C : Array Value} (hu : w.ownsRow base e size u n zs) (hb : Blk w bp C t) (hne : t ≠ e) (c : Array Value) : (w.setRow bp c).ownsRow base e size u n zs := by
  obtain ⟨hl, h | ⟨g, cap, cur, hv, hg, hh, hr⟩⟩ := hu
  · exact ⟨hl, .inl h⟩
  · refine ⟨hl, .inr ⟨g, cap, cur, hv, hg, (setRow_other w bp g c ?_).trans hh, hr⟩⟩
    rintro rfl
    have h2 : w.heap[g]? = some (.cells C t (0, 0)) := hb
    rw [h2] at hh
    exact hne (by injection hh with hh; injection hh)
theorem own_len {W : World} {base k cap : Nat} {q : Option Addr} {m : List Ac} (h : OwnA W base (.slice q m.length cap) m) (hk : m.length = k) : OwnA W base (.slice q k cap) m := by
  subst hk; exact h
theorem own_shapeK {W : World} {base k : Nat} {v : Value} {m : List Ac} (h : OwnA W base v m) (hk : m.length = k) : ∃ p c, v = .slice p k c ∧ k ≤ c ∧ c ≤ 9223372036854775807 := by
  subst hk; exact own_shape' h
theorem OwnB.cells {W : World} {base g cap : Nat} {m : List Ac} {cur : Array Value} (h : OwnB W base m g cap cur) (h0 : m ≠ []) : Cells W g 0 10 (m.map acL) := by
  rcases Sl.cases h.own.sl with ⟨hl, _⟩ | ⟨b, off, c, he, _, _, _, hc⟩
  · exact absurd (by simpa using hl) h0
  · injection he with h1 _ _
    injection h1 with h1
    injection h1 with h1 h2 _
    subst h1 h2
    exact hc
theorem OwnA.opnK {W : World} {base k : Nat} {bq : Option Addr} {bd : Nat} {m : List Ac} (h : OwnA W base (.slice bq k bd) m) (h0 : m ≠ []) : ∃ g cur, bq = some ⟨g, 0, none⟩ ∧ OwnB W base m g bd cur := by
  obtain ⟨g, cap, cur, he, hB⟩ := h.opn h0
  injection he with h1 h2 h3
  subst h3
  exact ⟨g, cur, h1, hB⟩
theorem act_size : (Tryz.prog.info? 46).map (·.size) = some 10 := by kernel_rfl
theorem ac_one (x : Ac) : (acA x).all (·.oneCell') = true := by simp [acA, Value.oneCell']
end Go.Proofs.YtccnkebkgegohaaGreatDoor
end
