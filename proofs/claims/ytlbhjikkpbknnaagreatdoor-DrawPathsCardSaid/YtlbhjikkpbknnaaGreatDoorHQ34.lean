import Derived.Test.YtlbhjikkpbknnaaGreatDoorHQ26
import Derived.Test.YtlbhjikkpbknnaaGreatDoorHQ32
import Derived.Test.YtlbhjikkpbknnaaGreatDoorHQ33
/-
  Given contracts of functions of the program, and laws for them, one behind the other.
-/
set_option linter.unusedVariables false
set_option linter.unusedSimpArgs false
set_option linter.unusedSectionVars false
section
namespace Go.Proofs.YtlbhjikkpbknnaaGreatDoor
open Go.RowKit Go.Rel Go.Draw
set_option maxRecDepth 100000
/-! DrawPaths -/
theorem pt_head {m : List Sol} {p : Int} (h : qkB m p = true) : askE m [] [p] = 0 ∧ ∃ S rest, pathsM m p.toNat = S :: rest ∧ ptL m p = intsL (listU S) :: (rest.map listU).map intsL := by
 unfold qkB at h
 rw [Bool.and_eq_true, decide_eq_true_eq] at h
 refine ⟨h.1, ?_⟩
 unfold ptL
 rw [if_pos h.1]
 cases hp : pathsM m p.toNat with
 | nil => rw [hp] at h; simp at h
 | cons S rest => exact ⟨S, rest, rfl, rfl⟩
theorem pt_nil {m : List Sol} {p : Int} (h : qkB m p = false) : ptL m p = [] := by
 unfold ptL
 by_cases h0 : askE m [] [p] = 0
 ·rw [if_pos h0]
  unfold qkB at h
  rw [decide_eq_true h0] at h
  cases hp : pathsM m p.toNat with
  | nil => rfl
  | cons S rest => rw [hp] at h; simp at h
 ·rw [if_neg h0]
set_option maxHeartbeats 8000000 in
theorem DrawPaths_walk {W : World} {v : Value} {m : List Sol} {p : Int} (H : SlS W v m) (hT : Tab W) : Calls Tryz.prog 4 #[v, .int .i64 p] W fun e w' => e = .returned (.bool true) ∧ Below W.heap.size W w' := by
  have HFW := Lib.hid (few_spec 6 H)
  have HAR := Lib.hid fun W1 (h : Below W.heap.size W W1) => (show SlS W1 v m ∧ Tab W1 from ⟨H.mono h, hT.grow h⟩)
  have HC := Lib.hid fun W1 (h : Below W.heap.size W W1) => cast_spec (hT.grow h)
  obtain ⟨F, hF⟩ : ∃ F, F = (decide ((m.length : Int) ≤ 6) || (decide (12 < m.length) && decide (m.length ≤ 15))) := ⟨_, rfl⟩
  rw [← hF] at HFW
  clear H hT hF
  go_enter Tryz.func4, Tryz.ntmps4
  go_wp2_with fail
  refine HFW.out.mono ?_
  rintro e w1 ⟨rfl, hw1⟩
  have hw2 := hw1.symm
  subst hw2
  clear hw1
  cases F
  · go_wp2_with fail
    refine (HC.out _ (bel_refl _)).mono ?_
    rintro e w4 ⟨rfl, hb4⟩
    have H4 := Lib.hid hb4; clear hb4
    go_wp2_with fail
    go_ret
    exact ⟨rfl, H4.out⟩
  · have HB2 := Lib.hid (bel_refl W)
    obtain ⟨NE, hNE⟩ : ∃ x, x = needE m p := ⟨_, rfl⟩
    obtain ⟨A, hA⟩ : ∃ x, x = askE m [] [p] := ⟨_, rfl⟩
    obtain ⟨L1, hL1⟩ : ∃ x, x = ndL m p := ⟨_, rfl⟩
    obtain ⟨L2, hL2⟩ : ∃ x, x = ptL m p := ⟨_, rfl⟩
    obtain ⟨QB, hQB⟩ : ∃ x, x = qkB m p := ⟨_, rfl⟩
    have S1 := Lib.hid fun W1 (h : Below W.heap.size W W1) => Needs_n (p := p) (HAR.out W1 h).1 (HAR.out W1 h).2
    have S2 := Lib.hid fun W1 (h : Below W.heap.size W W1) => refNeeds_n (p := p) (HAR.out W1 h).1
    have S3 := Lib.hid fun W1 (h : Below W.heap.size W W1) => Paths_n (p := p) (HAR.out W1 h).1 (HAR.out W1 h).2
    have S4 := Lib.hid fun W1 (h : Below W.heap.size W W1) => refPaths_n (p := p) (HAR.out W1 h).1
    have S5 := Lib.hid fun W1 (h : Below W.heap.size W W1) => Quick_n (p := p) (HAR.out W1 h).1 (HAR.out W1 h).2
    simp only [← hNE, ← hL1] at S1 S2
    simp only [← hA, ← hL2] at S3 S4
    simp only [← hA, ← hQB] at S5
    have HV := Lib.hid (And.intro hQB (And.intro hL2 hA))
    clear hNE hA hL1 hL2 hQB
    go_wp2_with fail
    refine (S1.out _ HB2.out).mono ?_
    rintro e w3 ⟨u1, rfl, hs, hb⟩
    have HB3 := Lib.hid (bel_trans HB2.out hb)
    have HU1 := Lib.hid hs
    clear hb hs
    go_wp2_with fail
    refine (S2.out _ HB3.out).mono ?_
    rintro e w4 ⟨u2, rfl, hs, hb⟩
    have HB4 := Lib.hid (bel_trans HB3.out hb)
    replace HU1 := Lib.hid (HU1.out.mono hb)
    have HU2 := Lib.hid hs
    clear hb hs
    go_wp2_with fail
    refine (S3.out _ HB4.out).mono ?_
    rintro e w5 ⟨u3, rfl, hs, hb⟩
    have HB5 := Lib.hid (bel_trans HB4.out hb)
    replace HU1 := Lib.hid (HU1.out.mono hb)
    replace HU2 := Lib.hid (HU2.out.mono hb)
    have HU3 := Lib.hid hs
    clear hb hs
    go_wp2_with fail
    refine (S4.out _ HB5.out).mono ?_
    rintro e w6 ⟨u4, rfl, hs, hb⟩
    have HB6 := Lib.hid (bel_trans HB5.out hb)
    replace HU1 := Lib.hid (HU1.out.mono hb)
    replace HU2 := Lib.hid (HU2.out.mono hb)
    replace HU3 := Lib.hid (HU3.out.mono hb)
    have HU4 := Lib.hid hs
    clear hb hs
    go_wp2_with fail
    refine (S5.out _ HB6.out).mono ?_
    rintro e w7 ⟨u5, ql, rfl, hs, hq0, hq1, hb⟩
    have HB7 := Lib.hid (bel_trans HB6.out hb)
    replace HU1 := Lib.hid (HU1.out.mono hb)
    replace HU2 := Lib.hid (HU2.out.mono hb)
    replace HU3 := Lib.hid (HU3.out.mono hb)
    replace HU4 := Lib.hid (HU4.out.mono hb)
    have HU5 := Lib.hid hs
    have HQ := Lib.hid (And.intro hq0 hq1)
    clear hq0 hq1
    clear hb hs
    obtain ⟨b5, c5, rfl, hm5, hc5⟩ := mvs_open HU5.out
    obtain ⟨us4, hs4, hl4, hi4⟩ := HU4.out
    obtain ⟨b4, c4, rfl, hm4, hc4⟩ := vals_open hs4
    have HY := Lib.hid (And.intro hl4 (And.intro hi4 (And.intro hc4 hc5)))
    obtain ⟨n4, hn4⟩ : ∃ n, n = us4.length := ⟨_, rfl⟩
    obtain ⟨n5, hn5⟩ : ∃ n, n = ql.length := ⟨_, rfl⟩
    rw [← hn4] at HU4 hm4 ⊢
    rw [← hn5] at HU5 hm5 ⊢
    have HN := Lib.hid (And.intro hn4 hn5)
    clear hs4 hl4 hi4 hc4 hc5 hn4 hn5
    have HWY : Hid (∀ W1, Below w7.heap.size w7 W1 → True) := Lib.hid (fun _ _ => trivial)
    cases QB with
    | false =>
      have hp0 := pt_nil HV.out.1.symm
      have h40 : n4 = 0 := by rw [HN.out.1, HY.out.1, HV.out.2.1, hp0]; rfl
      have h50 : n5 = 0 := by rw [HN.out.2, HQ.out.1 rfl]; rfl
      subst h40 h50
      clear hp0
      go_wp2_with fail
      refine (SameInts_spec HU1.out HU2.out).mono ?_
      rintro e w8 ⟨rfl, hb⟩
      rw [beq_self_eq_true]
      have HB8 := Lib.hid (bel_trans HB7.out hb)
      replace HU1 := Lib.hid (HU1.out.mono hb)
      replace HU2 := Lib.hid (HU2.out.mono hb)
      replace HU3 := Lib.hid (HU3.out.mono hb)
      replace HU4 := Lib.hid (HU4.out.mono hb)
      replace HU5 := Lib.hid (HU5.out.mono hb)
      clear hb
      go_wp2_with fail
      refine (SameLists_spec HU3.out HU4.out).mono ?_
      rintro e w9 ⟨rfl, hb⟩
      rw [beq_self_eq_true]
      have HB9 := Lib.hid (bel_trans HB8.out hb)
      replace HU1 := Lib.hid (HU1.out.mono hb)
      replace HU2 := Lib.hid (HU2.out.mono hb)
      replace HU3 := Lib.hid (HU3.out.mono hb)
      replace HU4 := Lib.hid (HU4.out.mono hb)
      replace HU5 := Lib.hid (HU5.out.mono hb)
      clear hb
      go_wp2_with fail
      refine (HC.out _ HB9.out).mono ?_
      rintro e w90 ⟨rfl, hb⟩
      have HB90 := Lib.hid (bel_trans HB9.out hb)
      clear hb
      go_wp2_with fail
      go_ret
      exact ⟨ret_bool (by simp), HB90.out⟩
    | true =>
      obtain ⟨hA0, S, rest, hps, hpl⟩ := pt_head HV.out.1.symm
      obtain ⟨S', rest', out, x, q1, q2, q3, q4, q5⟩ := HQ.out.2 rfl
      obtain ⟨rfl, -⟩ := List.cons.inj (hps.symm.trans q1)
      obtain ⟨hE0, P, rfl, hP⟩ := asked_in hA0
      have hL2 : L2 = intsL (listU S) :: (rest.map listU).map intsL := HV.out.2.1.trans hpl
      have h4 : n4 = rest.length + 1 := by rw [HN.out.1, HY.out.1, hL2]; simp
      obtain ⟨u0, hu0⟩ : ∃ u, us4[0]? = some u := ⟨us4[0]'(by rw [← HN.out.1, h4]; omega), List.getElem?_eq_getElem _⟩
      have hu0s := HY.out.2.1 0 u0 (intsL (listU S)) hu0 (by rw [hL2]; rfl)
      obtain ⟨b0, c0, hu0e⟩ := ints_shape hu0s
      subst hu0e
      obtain ⟨ib4, io4, rfl, l4, c4e⟩ := HY.out.2.2.1 0 _ hu0
      have hn0 : (intsL (listU S)).length = n5 := by rw [intsL_length, HN.out.2, q4]
      rw [hn0] at c4e
      obtain ⟨K, hK⟩ : ∃ K, n5 = K + 1 := ⟨out.length, by rw [HN.out.2, q2]; simp⟩
      have hlast : ql[K]? = some (intMv x) := by
        have hKo : K = out.length := by have : n5 = out.length + 1 := by rw [HN.out.2, q2]; simp
                                        omega
        rw [q2, hKo]; simp
      obtain ⟨ib5, io5, rfl, l5, c5e, -, -⟩ := HY.out.2.2.2 K _ hlast
      have hx1 : (intMv x).1 = (P : Int) := by simp [intMv, q5]
      rw [hx1] at c5e
      have HCL := Lib.hid fun W1 (h : Below w7.heap.size w7 W1) => (show W1.cell? ⟨ib4, io4, none⟩ = some (.slice b0 n5 c0) ∧ ib4 < W1.heap.size ∧ W1.cell? ⟨ib5, io5 + K * 3, none⟩ = some (.int .i64 (P : Int)) ∧ ib5 < W1.heap.size from ⟨(h.cell (p := ⟨ib4, io4, none⟩) l4).trans c4e, Nat.lt_of_lt_of_le l4 h.size, (h.cell (p := ⟨ib5, io5 + K * 3, none⟩) l5).trans c5e, Nat.lt_of_lt_of_le l5 h.size⟩)
      have hql : ql.length ≤ 1000 := by
        rw [q4]; exact Nat.le_trans (cardU_le S) (by omega)
      have HCK := Lib.hid fun W1 (h : Below W.heap.size W W1) (hl : SlX W1 (.slice (some ⟨ib5, io5, none⟩) n5 c5) ql) => refCheckOrder_n (HAR.out W1 h).1 hl hql
      have hck : chkB m ql = true := by unfold chkB; rw [if_pos hE0, q3]; rfl
      rw [hck, hE0] at HCK
      have hA00 : A = 0 := HV.out.2.2.trans hA0
      subst hA00
      subst hK
      clear hA0 hps hpl q1 q2 q3 q4 q5 hE0 hP hL2 hu0 hu0s l4 c4e hn0 hlast l5 c5e hx1 hql hck
      have hn41 : 0 < n4 := by omega
      clear h4
      have HW7 := Lib.hid (bel_refl w7)
      go_wp2_with fail
      refine (SameInts_spec HU1.out HU2.out).mono ?_
      rintro e w8 ⟨rfl, hb⟩
      rw [beq_self_eq_true]
      have HB8 := Lib.hid (bel_trans HB7.out hb)
      replace HU1 := Lib.hid (HU1.out.mono hb)
      replace HU2 := Lib.hid (HU2.out.mono hb)
      replace HU3 := Lib.hid (HU3.out.mono hb)
      replace HU4 := Lib.hid (HU4.out.mono hb)
      replace HU5 := Lib.hid (HU5.out.mono hb)
      replace HW7 := Lib.hid (bel_trans HW7.out hb)
      clear hb
      go_wp2_with fail
      refine (SameLists_spec HU3.out HU4.out).mono ?_
      rintro e w9 ⟨rfl, hb⟩
      rw [beq_self_eq_true]
      have HB9 := Lib.hid (bel_trans HB8.out hb)
      replace HU1 := Lib.hid (HU1.out.mono hb)
      replace HU2 := Lib.hid (HU2.out.mono hb)
      replace HU3 := Lib.hid (HU3.out.mono hb)
      replace HU4 := Lib.hid (HU4.out.mono hb)
      replace HU5 := Lib.hid (HU5.out.mono hb)
      replace HW7 := Lib.hid (bel_trans HW7.out hb)
      clear hb
      go_wp2_with fail
      refine (HCK.out _ HB9.out HU5.out).mono ?_
      rintro e w80 ⟨rfl, hb⟩
      have HB80 := Lib.hid (bel_trans HB9.out hb)
      replace HW7 := Lib.hid (bel_trans HW7.out hb)
      clear hb
      go_wp2_with fail
      refine (HC.out _ HB80.out).mono ?_
      rintro e w90 ⟨rfl, hb⟩
      have HB90 := Lib.hid (bel_trans HB80.out hb)
      obtain ⟨d0, d1, d2, d3⟩ := HCL.out w90 (bel_trans HW7.out hb)
      clear hb
      go_wp2_with fail
      go_ret
      exact ⟨ret_bool (by simp), HB90.out⟩
end Go.Proofs.YtlbhjikkpbknnaaGreatDoor
end
