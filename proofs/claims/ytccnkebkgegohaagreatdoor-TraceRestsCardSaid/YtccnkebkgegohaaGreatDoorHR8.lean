import Derived.Test.YtccnkebkgegohaaGreatDoorHY7
import Derived.Test.YtccnkebkgegohaaGreatDoorHV12
/-
  Given contracts of functions of the program, and laws for them, one behind the other.
-/
set_option linter.unusedVariables false
set_option linter.unusedSimpArgs false
set_option linter.unusedSectionVars false
section
namespace Go.Proofs.YtccnkebkgegohaaGreatDoor
open Go.RowKit Go.Rel
set_option maxRecDepth 100000
/-! two histories: what is told when they are bad or of two patterns -/
set_option maxHeartbeats 4000000 in
theorem Begins_e (b b2 : Sol) (v av v2 av2 : Value) (y : Int) (w : World) (H : Hid (∀ w', Below w.heap.size w w' → Calls Tryz.prog 107 #[.agg #[.int .u64 (pl b 0), .int .u64 (pl b 1), .int .u64 (pl b 2), .int .u64 (pl b 3), .int .u64 (pl b 4), .int .u64 (pl b 5), .int .u64 (pl b 6), .int .u64 (pl b 7), v, av], .agg #[.int .u64 (pl b2 0), .int .u64 (pl b2 1), .int .u64 (pl b2 2), .int .u64 (pl b2 3), .int .u64 (pl b2 4), .int .u64 (pl b2 5), .int .u64 (pl b2 6), .int .u64 (pl b2 7), v2, av2]] w' fun e w'' => (∃ sp tq, e = .returned (.tuple #[.pointer sp, .pointer tq, .bool false, .int .i64 y])) ∧ Below w'.heap.size w' w'')) :
  Calls Tryz.prog 61 #[.agg #[.int .u64 (pl b 0), .int .u64 (pl b 1), .int .u64 (pl b 2), .int .u64 (pl b 3), .int .u64 (pl b 4), .int .u64 (pl b 5), .int .u64 (pl b 6), .int .u64 (pl b 7), v, av], .agg #[.int .u64 (pl b2 0), .int .u64 (pl b2 1), .int .u64 (pl b2 2), .int .u64 (pl b2 3), .int .u64 (pl b2 4), .int .u64 (pl b2 5), .int .u64 (pl b2 6), .int .u64 (pl b2 7), v2, av2]] w fun e w' => e = .returned (.tuple #[.bool false, .int .i64 y]) ∧ Below w.heap.size w w' := by
 go_enter Tryz.func61, Tryz.ntmps61
 obtain ⟨r, hr⟩ : ∃ r, (y != 0) = r := ⟨_, rfl⟩
 go_wp2_with fail
 refine (H.out _ bel_by).mono ?_
 rintro e w1 ⟨⟨sp, tq, rfl⟩, hb⟩
 have hB1 : Below w.heap.size w w1 := bel_trans bel_by hb
 clear  hb
 cases r with
 | true =>
  go_wp2_with fail
  refine bodyPost_ret (v := .tuple #[.bool false, .int .i64 y]) (by simp [results, Tryz.results61, go_sem, *]) rfl ⟨rfl, hB1⟩
 | false =>
  go_wp2_with fail
  refine bodyPost_ret (v := .tuple #[.bool false, .int .i64 y]) (by simp [results, Tryz.results61, go_sem, *]) rfl ⟨rfl, hB1⟩
set_option maxHeartbeats 4000000 in
theorem Rest_e (b b2 : Sol) (v av v2 av2 : Value) (y : Int) (hne : (y != 0) = true) (w : World) (H : Hid (∀ w', Below w.heap.size w w' → Calls Tryz.prog 96 #[.agg #[.int .u64 (pl b 0), .int .u64 (pl b 1), .int .u64 (pl b 2), .int .u64 (pl b 3), .int .u64 (pl b 4), .int .u64 (pl b 5), .int .u64 (pl b 6), .int .u64 (pl b 7), v, av], .agg #[.int .u64 (pl b2 0), .int .u64 (pl b2 1), .int .u64 (pl b2 2), .int .u64 (pl b2 3), .int .u64 (pl b2 4), .int .u64 (pl b2 5), .int .u64 (pl b2 6), .int .u64 (pl b2 7), v2, av2]] w' fun e w'' => (∃ sp tq, e = .returned (.tuple #[.pointer sp, .pointer tq, .int .i64 y])) ∧ Below w'.heap.size w' w'')) :
  Calls Tryz.prog 63 #[.agg #[.int .u64 (pl b 0), .int .u64 (pl b 1), .int .u64 (pl b 2), .int .u64 (pl b 3), .int .u64 (pl b 4), .int .u64 (pl b 5), .int .u64 (pl b 6), .int .u64 (pl b 7), v, av], .agg #[.int .u64 (pl b2 0), .int .u64 (pl b2 1), .int .u64 (pl b2 2), .int .u64 (pl b2 3), .int .u64 (pl b2 4), .int .u64 (pl b2 5), .int .u64 (pl b2 6), .int .u64 (pl b2 7), v2, av2]] w fun e w' => e = .returned (.tuple #[.slice none 0 0, .int .i64 y]) ∧ Below w.heap.size w w' := by
 go_enter Tryz.func63, Tryz.ntmps63
 go_wp2_with fail
 refine (H.out _ bel_by).mono ?_
 rintro e w1 ⟨⟨sp, tq, rfl⟩, hb⟩
 have hB1 : Below w.heap.size w w1 := bel_trans bel_by hb
 clear  hb
 go_wp2_with fail
 refine bodyPost_ret (by simp [results, Tryz.results63, go_sem, *]) rfl ⟨rfl, hB1⟩
set_option maxHeartbeats 4000000 in
theorem Common_e (b b2 : Sol) (v av v2 av2 : Value) (y : Int) (hne : (y != 0) = true) (w : World) (H : Hid (∀ w', Below w.heap.size w w' → Calls Tryz.prog 96 #[.agg #[.int .u64 (pl b 0), .int .u64 (pl b 1), .int .u64 (pl b 2), .int .u64 (pl b 3), .int .u64 (pl b 4), .int .u64 (pl b 5), .int .u64 (pl b 6), .int .u64 (pl b 7), v, av], .agg #[.int .u64 (pl b2 0), .int .u64 (pl b2 1), .int .u64 (pl b2 2), .int .u64 (pl b2 3), .int .u64 (pl b2 4), .int .u64 (pl b2 5), .int .u64 (pl b2 6), .int .u64 (pl b2 7), v2, av2]] w' fun e w'' => (∃ sp tq, e = .returned (.tuple #[.pointer sp, .pointer tq, .int .i64 y])) ∧ Below w'.heap.size w' w'')) :
  Calls Tryz.prog 29 #[.agg #[.int .u64 (pl b 0), .int .u64 (pl b 1), .int .u64 (pl b 2), .int .u64 (pl b 3), .int .u64 (pl b 4), .int .u64 (pl b 5), .int .u64 (pl b 6), .int .u64 (pl b 7), v, av], .agg #[.int .u64 (pl b2 0), .int .u64 (pl b2 1), .int .u64 (pl b2 2), .int .u64 (pl b2 3), .int .u64 (pl b2 4), .int .u64 (pl b2 5), .int .u64 (pl b2 6), .int .u64 (pl b2 7), v2, av2]] w fun e w' => e = .returned (.tuple #[.agg #[.int .u64 0, .int .u64 0, .int .u64 0, .int .u64 0, .int .u64 0, .int .u64 0, .int .u64 0, .int .u64 0, .slice none 0 0, .slice none 0 0], .int .i64 y]) ∧ Below w.heap.size w w' := by
 go_enter Tryz.func29, Tryz.ntmps29
 go_wp2_with fail
 refine (H.out _ bel_by).mono ?_
 rintro e w1 ⟨⟨sp, tq, rfl⟩, hb⟩
 have b0 : Blk w1 (w.heap.size + 1 + 1) #[.int .u64 0, .int .u64 0, .int .u64 0, .int .u64 0, .int .u64 0, .int .u64 0, .int .u64 0, .int .u64 0, .slice none 0 0, .slice none 0 0] 30 := Blk.grow blk_by hb
 have r0 := b0.row
 have hB1 : Below w.heap.size w w1 := bel_trans bel_by hb
 rw [← b0.rw]
 clear b0 hb
 go_wp2_with fail
 refine bodyPost_ret (by simp [results, Tryz.results29, go_sem, *]) rfl ⟨rfl, blw_row hB1 (by omega) _⟩
set_option maxHeartbeats 4000000 in
theorem Merge_e (b b2 : Sol) (v av v2 av2 : Value) (y : Int) (hne : (y != 0) = true) (w : World) (H : Hid (∀ w', Below w.heap.size w w' → Calls Tryz.prog 96 #[.agg #[.int .u64 (pl b 0), .int .u64 (pl b 1), .int .u64 (pl b 2), .int .u64 (pl b 3), .int .u64 (pl b 4), .int .u64 (pl b 5), .int .u64 (pl b 6), .int .u64 (pl b 7), v, av], .agg #[.int .u64 (pl b2 0), .int .u64 (pl b2 1), .int .u64 (pl b2 2), .int .u64 (pl b2 3), .int .u64 (pl b2 4), .int .u64 (pl b2 5), .int .u64 (pl b2 6), .int .u64 (pl b2 7), v2, av2]] w' fun e w'' => (∃ sp tq, e = .returned (.tuple #[.pointer sp, .pointer tq, .int .i64 y])) ∧ Below w'.heap.size w' w'')) :
  Calls Tryz.prog 26 #[.agg #[.int .u64 (pl b 0), .int .u64 (pl b 1), .int .u64 (pl b 2), .int .u64 (pl b 3), .int .u64 (pl b 4), .int .u64 (pl b 5), .int .u64 (pl b 6), .int .u64 (pl b 7), v, av], .agg #[.int .u64 (pl b2 0), .int .u64 (pl b2 1), .int .u64 (pl b2 2), .int .u64 (pl b2 3), .int .u64 (pl b2 4), .int .u64 (pl b2 5), .int .u64 (pl b2 6), .int .u64 (pl b2 7), v2, av2]] w fun e w' => e = .returned (.tuple #[.agg #[.int .u64 0, .int .u64 0, .int .u64 0, .int .u64 0, .int .u64 0, .int .u64 0, .int .u64 0, .int .u64 0, .slice none 0 0, .slice none 0 0], .int .i64 y]) ∧ Below w.heap.size w w' := by
 go_enter Tryz.func26, Tryz.ntmps26
 go_wp2_with fail
 refine (H.out _ bel_by).mono ?_
 rintro e w1 ⟨⟨sp, tq, rfl⟩, hb⟩
 have b0 : Blk w1 (w.heap.size + 1 + 1) #[.int .u64 0, .int .u64 0, .int .u64 0, .int .u64 0, .int .u64 0, .int .u64 0, .int .u64 0, .int .u64 0, .slice none 0 0, .slice none 0 0] 30 := Blk.grow blk_by hb
 have r0 := b0.row
 have hB1 : Below w.heap.size w w1 := bel_trans bel_by hb
 rw [← b0.rw]
 clear b0 hb
 go_wp2_with fail
 refine bodyPost_ret (by simp [results, Tryz.results26, go_sem, *]) rfl ⟨rfl, blw_row hB1 (by omega) _⟩
set_option maxHeartbeats 4000000 in
theorem Conflict_e (b b2 : Sol) (v av v2 av2 : Value) (y : Int) (hne : (y != 0) = true) (w : World) (H : Hid (∀ w', Below w.heap.size w w' → Calls Tryz.prog 96 #[.agg #[.int .u64 (pl b 0), .int .u64 (pl b 1), .int .u64 (pl b 2), .int .u64 (pl b 3), .int .u64 (pl b 4), .int .u64 (pl b 5), .int .u64 (pl b 6), .int .u64 (pl b 7), v, av], .agg #[.int .u64 (pl b2 0), .int .u64 (pl b2 1), .int .u64 (pl b2 2), .int .u64 (pl b2 3), .int .u64 (pl b2 4), .int .u64 (pl b2 5), .int .u64 (pl b2 6), .int .u64 (pl b2 7), v2, av2]] w' fun e w'' => (∃ sp tq, e = .returned (.tuple #[.pointer sp, .pointer tq, .int .i64 y])) ∧ Below w'.heap.size w' w'')) :
  Calls Tryz.prog 60 #[.agg #[.int .u64 (pl b 0), .int .u64 (pl b 1), .int .u64 (pl b 2), .int .u64 (pl b 3), .int .u64 (pl b 4), .int .u64 (pl b 5), .int .u64 (pl b 6), .int .u64 (pl b 7), v, av], .agg #[.int .u64 (pl b2 0), .int .u64 (pl b2 1), .int .u64 (pl b2 2), .int .u64 (pl b2 3), .int .u64 (pl b2 4), .int .u64 (pl b2 5), .int .u64 (pl b2 6), .int .u64 (pl b2 7), v2, av2]] w fun e w' => e = .returned (.tuple #[.agg zeroA, .agg zeroA, .bool false, .int .i64 y]) ∧ Below w.heap.size w w' := by
 go_enter Tryz.func60, Tryz.ntmps60
 go_wp2_with fail
 refine (H.out _ bel_by).mono ?_
 rintro e w1 ⟨⟨sp, tq, rfl⟩, hb⟩
 have b0 : Blk w1 (w.heap.size + 1 + 1) zeroA 46 := Blk.grow blk_by hb
 have r0 := b0.row
 have b1 : Blk w1 (w.heap.size + 1 + 1 + 1) zeroA 46 := Blk.grow blk_by hb
 have r1 := b1.row
 have hB1 : Below w.heap.size w w1 := bel_trans bel_by hb
 rw [← b0.rw, ← b1.rw]
 clear b0 b1 hb
 go_wp2_with fail
 refine bodyPost_ret (by simp [results, Tryz.results60, go_sem, *]) rfl ⟨rfl, blw_row (blw_row hB1 (by omega) _) (by omega) _⟩
section
variable {b b2 : Sol} {l l2 : List Sol} {g h : List Ac} {t u : StB} {v av v2 av2 : Value}
set_option maxHeartbeats 8000000 in
theorem Rest_r (R : Runs b l g t) (R2 : Runs b l h u) (w : World) (Hv : SlS w v l) (Hav : SlA w av g) (Hv2 : SlS w v2 l) (Hav2 : SlA w av2 h) :
  Calls Tryz.prog 63 #[.agg #[.int .u64 (pl b 0), .int .u64 (pl b 1), .int .u64 (pl b 2), .int .u64 (pl b 3), .int .u64 (pl b 4), .int .u64 (pl b 5), .int .u64 (pl b 6), .int .u64 (pl b 7), v, av], .agg #[.int .u64 (pl b 0), .int .u64 (pl b 1), .int .u64 (pl b 2), .int .u64 (pl b 3), .int .u64 (pl b 4), .int .u64 (pl b 5), .int .u64 (pl b 6), .int .u64 (pl b 7), v2, av2]] w (LRes (if (beyA l g h).2.1.isEmpty then nrm l (beyA l g h).2.2 else []) (if (beyA l g h).2.1.isEmpty then 0 else 44) w) := by
 have BI := beyondM_is R.fine R2.fine
 have BL := bey_leastA R.fine R2.fine
 have HE : (beyA l g h).2.1.isEmpty = decide ((beyondM l g l h).2.1.length = 0) := by
  rw [← BI.a, List.isEmpty_map]
  cases (beyondM l g l h).2.1 <;> simp
 have H2 : Hid (leastI (depI (cellsOf l h)) (cmpN h) (beyondM l g l h).2.2.length (beyondM l g l h).2.2 |> actsAt h |> fun z => z = nrm l (beyA l g h).2.2) := Lib.hid BL.2
 have H := Lib.hid fun w' (hb : Below w.heap.size w w') => together_good R.good R2.good w' (Hv.mono hb) (Hav.mono hb) (Hv2.mono hb) (Hav2.mono hb) true (by simp [samePat])
 rw [if_pos rfl] at H
 have hn := R.len
 have hn2 := R2.len
 have HBK := Lib.hid (beyondM_ok l g l h)
 have hlb60 : (beyondM l g l h).2.2.length ≤ 60 := Nat.le_trans HBK.out.lb hn2
 have HV := Lib.hid (And.intro Hv (And.intro Hav (And.intro Hv2 Hav2)))
 rw [HE]
 clear R R2 Hv Hav Hv2 Hav2 BI BL HE
 generalize hnn : (beyondM l g l h).2.1.length = nn
 have HNN := Lib.hid hnn; clear hnn
 obtain ⟨M, hM⟩ : ∃ M, (if decide (nn = 0) = true then nrm l (beyA l g h).2.2 else []) = M := ⟨_, rfl⟩
 obtain ⟨E, hE⟩ : ∃ E : Int, (if decide (nn = 0) = true then (0 : Int) else 44) = E := ⟨_, rfl⟩
 rw [hM, hE]
 have HME := Lib.hid (And.intro hM hE)
 clear hM hE
 go_enter Tryz.func63, Tryz.ntmps63
 go_wp2_with fail
 refine (H.out _ bel_by).mono ?_
 rintro e w1 ⟨bp, bq, rfl, hP, hQ, hb⟩
 have hB1 : Below w.heap.size w w1 := bel_trans bel_by hb
 have HPQ := Lib.hid (And.intro hP hQ); clear hP hQ hb H
 go_wp2_with fail
 refine (beyond_spec w1 HPQ.out.1 HPQ.out.2 (HV.out.2.1.mono hB1) (HV.out.2.2.2.mono hB1) hn hn2).mono ?_
 rintro e w2 ⟨uc, ua, ub, rfl, oc, oa, ob, hb2⟩
 have hB2 : Below w.heap.size w w2 := bel_trans hB1 hb2
 have HA2 : Hid (∃ p c, ua = .slice p nn c) := Lib.hid (by obtain ⟨p, c, e, _⟩ := own_shape' oa; have e2 := HNN.out; unfold beyondM at e2; exact ⟨p, c, by rw [e, e2]⟩)
 have HO2 : Hid (SlI w2 ub (beyondM l g l h).2.2) := Lib.hid ob.sl
 have HP2 := Lib.hid (HPQ.out.2.grow hb2)
 clear oc oa ob hb2
 refine Veil.out ?_
 obtain ⟨pa, ca, hpa⟩ := HA2.out
 subst hpa
 refine Veil.on ?_
 clear HA2
 by_cases h0 : nn = 0
 ·subst h0
  go_wp2_with fail
  refine (least_spec w2 HP2.out (HV.out.2.2.2.mono hB2) hn2 ub (beyondM l g l h).2.2 HO2.out HBK.out.b hlb60).mono ?_
  rintro e w4 ⟨u2, rfl, o2, hb4⟩
  have hB4 : Below w.heap.size w w4 := bel_trans hB2 hb4
  have e1 := H2.out
  rw [e1] at o2
  have HO4 := Lib.hid o2.sl
  clear o2 hb4 e1
  go_wp2_with fail
  refine bodyPost_ret (v := .tuple #[u2, .int .i64 0]) (by simp [results, Tryz.results63, go_sem]) rfl ⟨u2, by rw [← HME.out.2]; simp, by rw [← HME.out.1]; simpa using HO4.out, hB4⟩
 ·have hpos : (0 : Int) < (nn : Int) := by omega
  go_wp2_with fail
  refine bodyPost_ret (v := .tuple #[.slice none 0 0, .int .i64 44]) (by simp [results, Tryz.results63, go_sem]) rfl ⟨.slice none 0 0, by rw [← HME.out.2]; simp [h0], by have hz : SlA w2 (.slice none 0 0) [] := sl_niln w2; rw [← HME.out.1]; simpa [h0] using hz, hB2⟩
end
end Go.Proofs.YtccnkebkgegohaaGreatDoor
end
section
namespace Go.Proofs.YtccnkebkgegohaaGreatDoor
open Go.RowKit Go.Rel
set_option maxRecDepth 100000
set_option maxHeartbeats 8000000 in
theorem TraceRests_many (b0 b1 : Sol) (p0 p1 q0 q1 : Option Addr) (n0 n1 c0 c1 k0 k1 d0 d1 : Nat) (w : World) (hm : (many k0 n0 || many k1 n1) = true) (HAL : AliveH w) :
  Calls Tryz.prog 13 #[.agg #[.int .u64 (pl b0 0), .int .u64 (pl b0 1), .int .u64 (pl b0 2), .int .u64 (pl b0 3), .int .u64 (pl b0 4), .int .u64 (pl b0 5), .int .u64 (pl b0 6), .int .u64 (pl b0 7), .slice p0 n0 c0, .slice q0 k0 d0], .agg #[.int .u64 (pl b1 0), .int .u64 (pl b1 1), .int .u64 (pl b1 2), .int .u64 (pl b1 3), .int .u64 (pl b1 4), .int .u64 (pl b1 5), .int .u64 (pl b1 6), .int .u64 (pl b1 7), .slice p1 n1 c1, .slice q1 k1 d1]] w fun e w' => e = .returned (.bool true) ∧ Below w.heap.size w w' := by
 go_enter Tryz.func13, Tryz.ntmps13
 go_wp2_with fail
 refine (few2 (b := b0) (p := p0) (q := q0) (n := n0) (c := c0) (k := k0) (d := d0) (b' := b1) (p' := p1) (q' := q1) (n' := n1) (c' := c1) (k' := k1) (d' := d1) (t := 30) _ bks_by).mono ?_
 rw [hm]
 rintro e w1 ⟨rfl, hb⟩
 have g0 : Blk w1 (w.heap.size) #[.int .u64 (pl b0 0), .int .u64 (pl b0 1), .int .u64 (pl b0 2), .int .u64 (pl b0 3), .int .u64 (pl b0 4), .int .u64 (pl b0 5), .int .u64 (pl b0 6), .int .u64 (pl b0 7), .slice p0 n0 c0, .slice q0 k0 d0] 30 := Blk.grow bks_by hb
 have g1 : Blk w1 (w.heap.size + 1) #[.int .u64 (pl b1 0), .int .u64 (pl b1 1), .int .u64 (pl b1 2), .int .u64 (pl b1 3), .int .u64 (pl b1 4), .int .u64 (pl b1 5), .int .u64 (pl b1 6), .int .u64 (pl b1 7), .slice p1 n1 c1, .slice q1 k1 d1] 30 := Blk.grow bks_by hb
 have hB : Below w.heap.size w w1 := bel_trans bni hb
 clear hb
 have c_g0 := g0.cell
 have l_g0 := g0.lt
 have c_g1 := g1.cell
 have l_g1 := g1.lt
 go_wp2_with fail
 clear c_g0 l_g0
 clear c_g1 l_g1
 refine (HAL.out _ (bel_trans hB bni)).mono ?_
 rintro e w2 ⟨rfl, hb⟩
 have hbb : Below w1.heap.size w1 w2 := bel_trans bni hb
 replace hB := bel_trans hB hbb
 replace g0 := g0.grow hbb
 replace g1 := g1.grow hbb
 clear hb hbb
 have c_g0 := g0.cell
 have l_g0 := g0.lt
 have c_g1 := g1.cell
 have l_g1 := g1.lt
 go_wp2_with fail
 clear c_g0 l_g0
 clear c_g1 l_g1
 refine bodyPost_ret (v := .bool true) (by simp [results, Tryz.results13, go_sem]) rfl ⟨rfl, hB⟩
theorem EqualAc_same (v u : Value) (l : List Ac) (w : World) (hv : SlA w v l) (hu : SlA w u l) : Calls Tryz.prog 43 #[v, u] w fun e w' => e = .returned (.bool true) ∧ Below w.heap.size w w' :=
 (EqualAc_spec v u l l w hv hu).mono fun e w' h => by
  obtain ⟨rfl, hb⟩ := h
  exact ⟨by simp, hb⟩
set_option maxHeartbeats 8000000 in
theorem TraceRests_main (b0 b1 : Sol) (p0 p1 q0 q1 : Option Addr) (n0 n1 c0 c1 k0 k1 d0 d1 : Nat) (w : World) (hm : (many k0 n0 || many k1 n1) = false) (rb r : Bool) (X Y : Ac) (B2 B3 : Sol) (L2 L3 : List Sol) (M1 M2 M3 : List Ac) (E0 E1 E2 E3 E4 : Int) (H61 : Hid (∀ w', Below w.heap.size w w' → Calls Tryz.prog 61 #[.agg #[.int .u64 (pl b0 0), .int .u64 (pl b0 1), .int .u64 (pl b0 2), .int .u64 (pl b0 3), .int .u64 (pl b0 4), .int .u64 (pl b0 5), .int .u64 (pl b0 6), .int .u64 (pl b0 7), .slice p0 n0 c0, .slice q0 k0 d0], .agg #[.int .u64 (pl b1 0), .int .u64 (pl b1 1), .int .u64 (pl b1 2), .int .u64 (pl b1 3), .int .u64 (pl b1 4), .int .u64 (pl b1 5), .int .u64 (pl b1 6), .int .u64 (pl b1 7), .slice p1 n1 c1, .slice q1 k1 d1]] w' fun e w'' => e = .returned (.tuple #[.bool rb, .int .i64 E0]) ∧ Below w'.heap.size w' w'')) (H62 : Hid (∀ w', Below w.heap.size w w' → Calls Tryz.prog 62 #[.agg #[.int .u64 (pl b0 0), .int .u64 (pl b0 1), .int .u64 (pl b0 2), .int .u64 (pl b0 3), .int .u64 (pl b0 4), .int .u64 (pl b0 5), .int .u64 (pl b0 6), .int .u64 (pl b0 7), .slice p0 n0 c0, .slice q0 k0 d0], .agg #[.int .u64 (pl b1 0), .int .u64 (pl b1 1), .int .u64 (pl b1 2), .int .u64 (pl b1 3), .int .u64 (pl b1 4), .int .u64 (pl b1 5), .int .u64 (pl b1 6), .int .u64 (pl b1 7), .slice p1 n1 c1, .slice q1 k1 d1]] w' fun e w'' => e = .returned (.tuple #[.bool rb, .int .i64 E0]) ∧ Below w'.heap.size w' w'')) (H63 : Hid (∀ w', Below w.heap.size w w' → Calls Tryz.prog 63 #[.agg #[.int .u64 (pl b0 0), .int .u64 (pl b0 1), .int .u64 (pl b0 2), .int .u64 (pl b0 3), .int .u64 (pl b0 4), .int .u64 (pl b0 5), .int .u64 (pl b0 6), .int .u64 (pl b0 7), .slice p0 n0 c0, .slice q0 k0 d0], .agg #[.int .u64 (pl b1 0), .int .u64 (pl b1 1), .int .u64 (pl b1 2), .int .u64 (pl b1 3), .int .u64 (pl b1 4), .int .u64 (pl b1 5), .int .u64 (pl b1 6), .int .u64 (pl b1 7), .slice p1 n1 c1, .slice q1 k1 d1]] w' (LRes M1 E1 w'))) (H64 : Hid (∀ w', Below w.heap.size w w' → Calls Tryz.prog 64 #[.agg #[.int .u64 (pl b0 0), .int .u64 (pl b0 1), .int .u64 (pl b0 2), .int .u64 (pl b0 3), .int .u64 (pl b0 4), .int .u64 (pl b0 5), .int .u64 (pl b0 6), .int .u64 (pl b0 7), .slice p0 n0 c0, .slice q0 k0 d0], .agg #[.int .u64 (pl b1 0), .int .u64 (pl b1 1), .int .u64 (pl b1 2), .int .u64 (pl b1 3), .int .u64 (pl b1 4), .int .u64 (pl b1 5), .int .u64 (pl b1 6), .int .u64 (pl b1 7), .slice p1 n1 c1, .slice q1 k1 d1]] w' (LRes M1 E1 w'))) (H29 : Hid (∀ w', Below w.heap.size w w' → Calls Tryz.prog 29 #[.agg #[.int .u64 (pl b0 0), .int .u64 (pl b0 1), .int .u64 (pl b0 2), .int .u64 (pl b0 3), .int .u64 (pl b0 4), .int .u64 (pl b0 5), .int .u64 (pl b0 6), .int .u64 (pl b0 7), .slice p0 n0 c0, .slice q0 k0 d0], .agg #[.int .u64 (pl b1 0), .int .u64 (pl b1 1), .int .u64 (pl b1 2), .int .u64 (pl b1 3), .int .u64 (pl b1 4), .int .u64 (pl b1 5), .int .u64 (pl b1 6), .int .u64 (pl b1 7), .slice p1 n1 c1, .slice q1 k1 d1]] w' (HRes B2 L2 M2 E2 w'))) (H65 : Hid (∀ w', Below w.heap.size w w' → Calls Tryz.prog 65 #[.agg #[.int .u64 (pl b0 0), .int .u64 (pl b0 1), .int .u64 (pl b0 2), .int .u64 (pl b0 3), .int .u64 (pl b0 4), .int .u64 (pl b0 5), .int .u64 (pl b0 6), .int .u64 (pl b0 7), .slice p0 n0 c0, .slice q0 k0 d0], .agg #[.int .u64 (pl b1 0), .int .u64 (pl b1 1), .int .u64 (pl b1 2), .int .u64 (pl b1 3), .int .u64 (pl b1 4), .int .u64 (pl b1 5), .int .u64 (pl b1 6), .int .u64 (pl b1 7), .slice p1 n1 c1, .slice q1 k1 d1]] w' (HRes B2 L2 M2 E2 w'))) (H26 : Hid (∀ w', Below w.heap.size w w' → Calls Tryz.prog 26 #[.agg #[.int .u64 (pl b0 0), .int .u64 (pl b0 1), .int .u64 (pl b0 2), .int .u64 (pl b0 3), .int .u64 (pl b0 4), .int .u64 (pl b0 5), .int .u64 (pl b0 6), .int .u64 (pl b0 7), .slice p0 n0 c0, .slice q0 k0 d0], .agg #[.int .u64 (pl b1 0), .int .u64 (pl b1 1), .int .u64 (pl b1 2), .int .u64 (pl b1 3), .int .u64 (pl b1 4), .int .u64 (pl b1 5), .int .u64 (pl b1 6), .int .u64 (pl b1 7), .slice p1 n1 c1, .slice q1 k1 d1]] w' (HRes B3 L3 M3 E3 w'))) (H66 : Hid (∀ w', Below w.heap.size w w' → Calls Tryz.prog 66 #[.agg #[.int .u64 (pl b0 0), .int .u64 (pl b0 1), .int .u64 (pl b0 2), .int .u64 (pl b0 3), .int .u64 (pl b0 4), .int .u64 (pl b0 5), .int .u64 (pl b0 6), .int .u64 (pl b0 7), .slice p0 n0 c0, .slice q0 k0 d0], .agg #[.int .u64 (pl b1 0), .int .u64 (pl b1 1), .int .u64 (pl b1 2), .int .u64 (pl b1 3), .int .u64 (pl b1 4), .int .u64 (pl b1 5), .int .u64 (pl b1 6), .int .u64 (pl b1 7), .slice p1 n1 c1, .slice q1 k1 d1]] w' (HRes B3 L3 M3 E3 w'))) (H60 : Hid (∀ w', Below w.heap.size w w' → Calls Tryz.prog 60 #[.agg #[.int .u64 (pl b0 0), .int .u64 (pl b0 1), .int .u64 (pl b0 2), .int .u64 (pl b0 3), .int .u64 (pl b0 4), .int .u64 (pl b0 5), .int .u64 (pl b0 6), .int .u64 (pl b0 7), .slice p0 n0 c0, .slice q0 k0 d0], .agg #[.int .u64 (pl b1 0), .int .u64 (pl b1 1), .int .u64 (pl b1 2), .int .u64 (pl b1 3), .int .u64 (pl b1 4), .int .u64 (pl b1 5), .int .u64 (pl b1 6), .int .u64 (pl b1 7), .slice p1 n1 c1, .slice q1 k1 d1]] w' fun e w'' => e = .returned (.tuple #[.agg #[.int .u8 X.1, .int .i64 X.2.1, .int .u64 (pl X.2.2 0), .int .u64 (pl X.2.2 1), .int .u64 (pl X.2.2 2), .int .u64 (pl X.2.2 3), .int .u64 (pl X.2.2 4), .int .u64 (pl X.2.2 5), .int .u64 (pl X.2.2 6), .int .u64 (pl X.2.2 7)], .agg #[.int .u8 Y.1, .int .i64 Y.2.1, .int .u64 (pl Y.2.2 0), .int .u64 (pl Y.2.2 1), .int .u64 (pl Y.2.2 2), .int .u64 (pl Y.2.2 3), .int .u64 (pl Y.2.2 4), .int .u64 (pl Y.2.2 5), .int .u64 (pl Y.2.2 6), .int .u64 (pl Y.2.2 7)], .bool r, .int .i64 E4]) ∧ Below w'.heap.size w' w'')) (H67 : Hid (∀ w', Below w.heap.size w w' → Calls Tryz.prog 67 #[.agg #[.int .u64 (pl b0 0), .int .u64 (pl b0 1), .int .u64 (pl b0 2), .int .u64 (pl b0 3), .int .u64 (pl b0 4), .int .u64 (pl b0 5), .int .u64 (pl b0 6), .int .u64 (pl b0 7), .slice p0 n0 c0, .slice q0 k0 d0], .agg #[.int .u64 (pl b1 0), .int .u64 (pl b1 1), .int .u64 (pl b1 2), .int .u64 (pl b1 3), .int .u64 (pl b1 4), .int .u64 (pl b1 5), .int .u64 (pl b1 6), .int .u64 (pl b1 7), .slice p1 n1 c1, .slice q1 k1 d1]] w' fun e w'' => e = .returned (.tuple #[.agg #[.int .u8 X.1, .int .i64 X.2.1, .int .u64 (pl X.2.2 0), .int .u64 (pl X.2.2 1), .int .u64 (pl X.2.2 2), .int .u64 (pl X.2.2 3), .int .u64 (pl X.2.2 4), .int .u64 (pl X.2.2 5), .int .u64 (pl X.2.2 6), .int .u64 (pl X.2.2 7)], .agg #[.int .u8 Y.1, .int .i64 Y.2.1, .int .u64 (pl Y.2.2 0), .int .u64 (pl Y.2.2 1), .int .u64 (pl Y.2.2 2), .int .u64 (pl Y.2.2 3), .int .u64 (pl Y.2.2 4), .int .u64 (pl Y.2.2 5), .int .u64 (pl Y.2.2 6), .int .u64 (pl Y.2.2 7)], .bool r, .int .i64 E4]) ∧ Below w'.heap.size w' w'')) (HAL : AliveH w) :
  Calls Tryz.prog 13 #[.agg #[.int .u64 (pl b0 0), .int .u64 (pl b0 1), .int .u64 (pl b0 2), .int .u64 (pl b0 3), .int .u64 (pl b0 4), .int .u64 (pl b0 5), .int .u64 (pl b0 6), .int .u64 (pl b0 7), .slice p0 n0 c0, .slice q0 k0 d0], .agg #[.int .u64 (pl b1 0), .int .u64 (pl b1 1), .int .u64 (pl b1 2), .int .u64 (pl b1 3), .int .u64 (pl b1 4), .int .u64 (pl b1 5), .int .u64 (pl b1 6), .int .u64 (pl b1 7), .slice p1 n1 c1, .slice q1 k1 d1]] w fun e w' => e = .returned (.bool true) ∧ Below w.heap.size w w' := by
 go_enter Tryz.func13, Tryz.ntmps13
 go_wp2_with fail
 refine (few2 (b := b0) (p := p0) (q := q0) (n := n0) (c := c0) (k := k0) (d := d0) (b' := b1) (p' := p1) (q' := q1) (n' := n1) (c' := c1) (k' := k1) (d' := d1) (t := 30) _ bks_by).mono ?_
 rw [hm]
 rintro e w1 ⟨rfl, hb⟩
 have g0 : Blk w1 (w.heap.size) #[.int .u64 (pl b0 0), .int .u64 (pl b0 1), .int .u64 (pl b0 2), .int .u64 (pl b0 3), .int .u64 (pl b0 4), .int .u64 (pl b0 5), .int .u64 (pl b0 6), .int .u64 (pl b0 7), .slice p0 n0 c0, .slice q0 k0 d0] 30 := Blk.grow bks_by hb
 have g1 : Blk w1 (w.heap.size + 1) #[.int .u64 (pl b1 0), .int .u64 (pl b1 1), .int .u64 (pl b1 2), .int .u64 (pl b1 3), .int .u64 (pl b1 4), .int .u64 (pl b1 5), .int .u64 (pl b1 6), .int .u64 (pl b1 7), .slice p1 n1 c1, .slice q1 k1 d1] 30 := Blk.grow bks_by hb
 have hB : Below w.heap.size w w1 := bel_trans bni hb
 clear hb
 have c_g0 := g0.cell
 have l_g0 := g0.lt
 have c_g1 := g1.cell
 have l_g1 := g1.lt
 go_wp2_with fail
 clear c_g0 l_g0
 clear c_g1 l_g1
 refine (H61.out _ (bel_trans hB bni)).mono ?_
 rintro e w2 ⟨rfl, hb⟩
 have hbb : Below w1.heap.size w1 w2 := bel_trans bni hb
 replace hB := bel_trans hB hbb
 replace g0 := g0.grow hbb
 replace g1 := g1.grow hbb
 clear hb hbb
 have c_g0 := g0.cell
 have l_g0 := g0.lt
 have c_g1 := g1.cell
 have l_g1 := g1.lt
 go_wp2_with fail
 clear c_g0 l_g0
 clear c_g1 l_g1
 refine (H62.out _ (bel_trans hB bni)).mono ?_
 rintro e w3 ⟨rfl, hb⟩
 have hbb : Below w2.heap.size w2 w3 := bel_trans bni hb
 replace hB := bel_trans hB hbb
 replace g0 := g0.grow hbb
 replace g1 := g1.grow hbb
 clear hb hbb
 have c_g0 := g0.cell
 have l_g0 := g0.lt
 have c_g1 := g1.cell
 have l_g1 := g1.lt
 go_wp2_with fail
 clear c_g0 l_g0
 clear c_g1 l_g1
 refine (H63.out _ (bel_trans hB bni)).mono ?_
 rintro e w4 ⟨u3, rfl, A3, hb⟩
 have hbb : Below w3.heap.size w3 w4 := bel_trans bni hb
 replace hB := bel_trans hB hbb
 replace g0 := g0.grow hbb
 replace g1 := g1.grow hbb
 clear hb hbb
 have c_g0 := g0.cell
 have l_g0 := g0.lt
 have c_g1 := g1.cell
 have l_g1 := g1.lt
 have HL3 := Lib.hid (And.intro A3 A3)
 clear A3
 go_wp2_with fail
 clear c_g0 l_g0
 clear c_g1 l_g1
 refine (H64.out _ (bel_trans hB bni)).mono ?_
 rintro e w5 ⟨u4, rfl, A4, hb⟩
 have hbb : Below w4.heap.size w4 w5 := bel_trans bni hb
 replace hB := bel_trans hB hbb
 replace g0 := g0.grow hbb
 replace g1 := g1.grow hbb
 replace HL3 := Lib.hid (And.intro (HL3.out.1.mono hbb) (HL3.out.2.mono hbb))
 clear hb hbb
 have c_g0 := g0.cell
 have l_g0 := g0.lt
 have c_g1 := g1.cell
 have l_g1 := g1.lt
 have HL4 := Lib.hid (And.intro A4 A4)
 clear A4
 go_wp2_with fail
 clear c_g0 l_g0
 clear c_g1 l_g1
 refine (EqualAc_same _ _ _ _ (HL3.out.1.mono bni) (HL4.out.1.mono bni)).mono ?_
 rintro e w6 ⟨rfl, hb⟩
 have hbb : Below w5.heap.size w5 w6 := bel_trans bni hb
 replace hB := bel_trans hB hbb
 replace g0 := g0.grow hbb
 replace g1 := g1.grow hbb
 replace HL3 := Lib.hid (And.intro (HL3.out.1.mono hbb) (HL3.out.2.mono hbb))
 replace HL4 := Lib.hid (And.intro (HL4.out.1.mono hbb) (HL4.out.2.mono hbb))
 clear hb hbb
 clear HL3
 clear HL4
 have c_g0 := g0.cell
 have l_g0 := g0.lt
 have c_g1 := g1.cell
 have l_g1 := g1.lt
 go_wp2_with fail
 clear c_g0 l_g0
 clear c_g1 l_g1
 refine (H29.out _ (bel_trans hB bni)).mono ?_
 rintro e w7 ⟨p5, n5, c5, q5, k5, d5, rfl, S5, A5, hb⟩
 have hbb : Below w6.heap.size w6 w7 := bel_trans bni hb
 replace hB := bel_trans hB hbb
 replace g0 := g0.grow hbb
 replace g1 := g1.grow hbb
 clear hb hbb
 have HS5 := Lib.hid (And.intro S5 A5)
 clear S5 A5
 have c_g0 := g0.cell
 have l_g0 := g0.lt
 have c_g1 := g1.cell
 have l_g1 := g1.lt
 go_wp2_with fail
 clear c_g0 l_g0
 clear c_g1 l_g1
 refine (H65.out _ (bel_trans hB bni)).mono ?_
 rintro e w8 ⟨p6, n6, c6, q6, k6, d6, rfl, S6, A6, hb⟩
 have g6 : Blk w8 (w7.heap.size) #[.int .u64 (pl B2 0), .int .u64 (pl B2 1), .int .u64 (pl B2 2), .int .u64 (pl B2 3), .int .u64 (pl B2 4), .int .u64 (pl B2 5), .int .u64 (pl B2 6), .int .u64 (pl B2 7), .slice p5 n5 c5, .slice q5 k5 d5] 30 := Blk.grow bks_by hb
 have hbb : Below w7.heap.size w7 w8 := bel_trans bni hb
 replace hB := bel_trans hB hbb
 replace g0 := g0.grow hbb
 replace g1 := g1.grow hbb
 replace HS5 := Lib.hid (And.intro (HS5.out.1.mono hbb) (HS5.out.2.mono hbb))
 clear hb hbb
 generalize w7.heap.size = B8 at *
 have HS6 := Lib.hid (And.intro S6 A6)
 clear S6 A6
 have c_g0 := g0.cell
 have l_g0 := g0.lt
 have c_g1 := g1.cell
 have l_g1 := g1.lt
 have c_g6 := g6.cell
 have l_g6 := g6.lt
 go_wp2_with fail
 clear c_g0 l_g0
 clear c_g1 l_g1
 clear c_g6 l_g6
 refine (H26.out _ (bel_trans hB bni)).mono ?_
 rintro e w9 ⟨p7, n7, c7, q7, k7, d7, rfl, S7, A7, hb⟩
 have g7 : Blk w9 (w8.heap.size) #[.int .u64 (pl B2 0), .int .u64 (pl B2 1), .int .u64 (pl B2 2), .int .u64 (pl B2 3), .int .u64 (pl B2 4), .int .u64 (pl B2 5), .int .u64 (pl B2 6), .int .u64 (pl B2 7), .slice p6 n6 c6, .slice q6 k6 d6] 30 := Blk.grow bks_by hb
 have hbb : Below w8.heap.size w8 w9 := bel_trans bni hb
 replace hB := bel_trans hB hbb
 replace g0 := g0.grow hbb
 replace g1 := g1.grow hbb
 replace g6 := g6.grow hbb
 replace HS5 := Lib.hid (And.intro (HS5.out.1.mono hbb) (HS5.out.2.mono hbb))
 replace HS6 := Lib.hid (And.intro (HS6.out.1.mono hbb) (HS6.out.2.mono hbb))
 clear hb hbb
 generalize w8.heap.size = B9 at *
 have HS7 := Lib.hid (And.intro S7 A7)
 clear S7 A7
 have c_g0 := g0.cell
 have l_g0 := g0.lt
 have c_g1 := g1.cell
 have l_g1 := g1.lt
 have c_g6 := g6.cell
 have l_g6 := g6.lt
 have c_g7 := g7.cell
 have l_g7 := g7.lt
 go_wp2_with fail
 clear c_g0 l_g0
 clear c_g1 l_g1
 clear c_g6 l_g6
 clear c_g7 l_g7
 refine (H66.out _ (bel_trans hB bni)).mono ?_
 rintro e w10 ⟨p8, n8, c8, q8, k8, d8, rfl, S8, A8, hb⟩
 have g8 : Blk w10 (w9.heap.size) #[.int .u64 (pl B3 0), .int .u64 (pl B3 1), .int .u64 (pl B3 2), .int .u64 (pl B3 3), .int .u64 (pl B3 4), .int .u64 (pl B3 5), .int .u64 (pl B3 6), .int .u64 (pl B3 7), .slice p7 n7 c7, .slice q7 k7 d7] 30 := Blk.grow bks_by hb
 have hbb : Below w9.heap.size w9 w10 := bel_trans bni hb
 replace hB := bel_trans hB hbb
 replace g0 := g0.grow hbb
 replace g1 := g1.grow hbb
 replace g6 := g6.grow hbb
 replace g7 := g7.grow hbb
 replace HS5 := Lib.hid (And.intro (HS5.out.1.mono hbb) (HS5.out.2.mono hbb))
 replace HS6 := Lib.hid (And.intro (HS6.out.1.mono hbb) (HS6.out.2.mono hbb))
 replace HS7 := Lib.hid (And.intro (HS7.out.1.mono hbb) (HS7.out.2.mono hbb))
 clear hb hbb
 generalize w9.heap.size = B10 at *
 have HS8 := Lib.hid (And.intro S8 A8)
 clear S8 A8
 have c_g0 := g0.cell
 have l_g0 := g0.lt
 have c_g1 := g1.cell
 have l_g1 := g1.lt
 have c_g6 := g6.cell
 have l_g6 := g6.lt
 have c_g7 := g7.cell
 have l_g7 := g7.lt
 have c_g8 := g8.cell
 have l_g8 := g8.lt
 go_wp2_with fail
 clear c_g0 l_g0
 clear c_g1 l_g1
 clear c_g6 l_g6
 clear c_g7 l_g7
 clear c_g8 l_g8
 refine (Same_eq _ (HS5.out.1.mono bni) (HS5.out.2.mono bni) (HS6.out.1.mono bni) (HS6.out.2.mono bni)).mono ?_
 rintro e w11 ⟨rfl, hb⟩
 have g9 : Blk w11 (w10.heap.size) #[.int .u64 (pl B3 0), .int .u64 (pl B3 1), .int .u64 (pl B3 2), .int .u64 (pl B3 3), .int .u64 (pl B3 4), .int .u64 (pl B3 5), .int .u64 (pl B3 6), .int .u64 (pl B3 7), .slice p8 n8 c8, .slice q8 k8 d8] 30 := Blk.grow bks_by hb
 have hbb : Below w10.heap.size w10 w11 := bel_trans bni hb
 replace hB := bel_trans hB hbb
 replace g0 := g0.grow hbb
 replace g1 := g1.grow hbb
 replace g6 := g6.grow hbb
 replace g7 := g7.grow hbb
 replace g8 := g8.grow hbb
 replace HS5 := Lib.hid (And.intro (HS5.out.1.mono hbb) (HS5.out.2.mono hbb))
 replace HS6 := Lib.hid (And.intro (HS6.out.1.mono hbb) (HS6.out.2.mono hbb))
 replace HS7 := Lib.hid (And.intro (HS7.out.1.mono hbb) (HS7.out.2.mono hbb))
 replace HS8 := Lib.hid (And.intro (HS8.out.1.mono hbb) (HS8.out.2.mono hbb))
 clear hb hbb
 generalize w10.heap.size = B11 at *
 clear HS5
 clear HS6
 have c_g0 := g0.cell
 have l_g0 := g0.lt
 have c_g1 := g1.cell
 have l_g1 := g1.lt
 have c_g6 := g6.cell
 have l_g6 := g6.lt
 have c_g7 := g7.cell
 have l_g7 := g7.lt
 have c_g8 := g8.cell
 have l_g8 := g8.lt
 have c_g9 := g9.cell
 have l_g9 := g9.lt
 go_wp2_with fail
 clear c_g0 l_g0
 clear c_g1 l_g1
 clear c_g6 l_g6
 clear c_g7 l_g7
 clear c_g8 l_g8
 clear c_g9 l_g9
 refine (Same_eq _ (HS7.out.1.mono bni) (HS7.out.2.mono bni) (HS8.out.1.mono bni) (HS8.out.2.mono bni)).mono ?_
 rintro e w12 ⟨rfl, hb⟩
 have hbb : Below w11.heap.size w11 w12 := bel_trans bni hb
 replace hB := bel_trans hB hbb
 replace g0 := g0.grow hbb
 replace g1 := g1.grow hbb
 replace g6 := g6.grow hbb
 replace g7 := g7.grow hbb
 replace g8 := g8.grow hbb
 replace g9 := g9.grow hbb
 replace HS7 := Lib.hid (And.intro (HS7.out.1.mono hbb) (HS7.out.2.mono hbb))
 replace HS8 := Lib.hid (And.intro (HS8.out.1.mono hbb) (HS8.out.2.mono hbb))
 clear hb hbb
 clear HS7
 clear HS8
 have c_g0 := g0.cell
 have l_g0 := g0.lt
 have c_g1 := g1.cell
 have l_g1 := g1.lt
 have c_g6 := g6.cell
 have l_g6 := g6.lt
 have c_g7 := g7.cell
 have l_g7 := g7.lt
 have c_g8 := g8.cell
 have l_g8 := g8.lt
 have c_g9 := g9.cell
 have l_g9 := g9.lt
 clear c_g6 l_g6
 clear g6
 clear c_g7 l_g7
 clear g7
 clear c_g8 l_g8
 clear g8
 clear c_g9 l_g9
 clear g9
 go_wp2_with fail
 clear c_g0 l_g0
 clear c_g1 l_g1
 refine (H60.out _ (bel_trans hB bni)).mono ?_
 rintro e w13 ⟨rfl, hb⟩
 have hbb : Below w12.heap.size w12 w13 := bel_trans bni hb
 replace hB := bel_trans hB hbb
 replace g0 := g0.grow hbb
 replace g1 := g1.grow hbb
 clear hb hbb
 have c_g0 := g0.cell
 have l_g0 := g0.lt
 have c_g1 := g1.cell
 have l_g1 := g1.lt
 go_wp2_with fail
 clear c_g0 l_g0
 clear c_g1 l_g1
 refine (H67.out _ (bel_trans hB bni)).mono ?_
 rintro e w14 ⟨rfl, hb⟩
 have gx : Blk w14 (w13.heap.size) #[.int .u8 X.1, .int .i64 X.2.1, .int .u64 (pl X.2.2 0), .int .u64 (pl X.2.2 1), .int .u64 (pl X.2.2 2), .int .u64 (pl X.2.2 3), .int .u64 (pl X.2.2 4), .int .u64 (pl X.2.2 5), .int .u64 (pl X.2.2 6), .int .u64 (pl X.2.2 7)] 46 := Blk.grow bks_by hb
 have gy : Blk w14 (w13.heap.size + 1) #[.int .u8 Y.1, .int .i64 Y.2.1, .int .u64 (pl Y.2.2 0), .int .u64 (pl Y.2.2 1), .int .u64 (pl Y.2.2 2), .int .u64 (pl Y.2.2 3), .int .u64 (pl Y.2.2 4), .int .u64 (pl Y.2.2 5), .int .u64 (pl Y.2.2 6), .int .u64 (pl Y.2.2 7)] 46 := Blk.grow bks_by hb
 have hbb : Below w13.heap.size w13 w14 := bel_trans bni hb
 replace hB := bel_trans hB hbb
 replace g0 := g0.grow hbb
 replace g1 := g1.grow hbb
 clear hb hbb
 generalize w13.heap.size = B14 at *
 have c_g0 := g0.cell
 have l_g0 := g0.lt
 have c_g1 := g1.cell
 have l_g1 := g1.lt
 have c_gx := gx.cell
 have l_gx := gx.lt
 have c_gy := gy.cell
 have l_gy := gy.lt
 go_wp2_with fail
 clear c_g0 l_g0
 clear c_g1 l_g1
 clear c_gx l_gx
 clear c_gy l_gy
 refine (HAL.out _ (bel_trans hB bni)).mono ?_
 rintro e w15 ⟨rfl, hb⟩
 have hx : Blk w15 (w14.heap.size) #[.int .u8 X.1, .int .i64 X.2.1, .int .u64 (pl X.2.2 0), .int .u64 (pl X.2.2 1), .int .u64 (pl X.2.2 2), .int .u64 (pl X.2.2 3), .int .u64 (pl X.2.2 4), .int .u64 (pl X.2.2 5), .int .u64 (pl X.2.2 6), .int .u64 (pl X.2.2 7)] 46 := Blk.grow bks_by hb
 have hy : Blk w15 (w14.heap.size + 1) #[.int .u8 Y.1, .int .i64 Y.2.1, .int .u64 (pl Y.2.2 0), .int .u64 (pl Y.2.2 1), .int .u64 (pl Y.2.2 2), .int .u64 (pl Y.2.2 3), .int .u64 (pl Y.2.2 4), .int .u64 (pl Y.2.2 5), .int .u64 (pl Y.2.2 6), .int .u64 (pl Y.2.2 7)] 46 := Blk.grow bks_by hb
 have hbb : Below w14.heap.size w14 w15 := bel_trans bni hb
 replace hB := bel_trans hB hbb
 replace g0 := g0.grow hbb
 replace g1 := g1.grow hbb
 replace gx := gx.grow hbb
 replace gy := gy.grow hbb
 clear hb hbb
 generalize w14.heap.size = B15 at *
 have c_g0 := g0.cell
 have l_g0 := g0.lt
 have c_g1 := g1.cell
 have l_g1 := g1.lt
 have c_gx := gx.cell
 have l_gx := gx.lt
 have c_gy := gy.cell
 have l_gy := gy.lt
 have c_hx := hx.cell
 have l_hx := hx.lt
 have c_hy := hy.cell
 have l_hy := hy.lt
 go_wp2_with fail
 clear c_g0 l_g0
 clear c_g1 l_g1
 clear c_gx l_gx
 clear c_gy l_gy
 clear c_hx l_hx
 clear c_hy l_hy
 refine bodyPost_ret (v := .bool true) (by simp [results, Tryz.results13, go_sem]) rfl ⟨rfl, hB⟩
end Go.Proofs.YtccnkebkgegohaaGreatDoor
end
