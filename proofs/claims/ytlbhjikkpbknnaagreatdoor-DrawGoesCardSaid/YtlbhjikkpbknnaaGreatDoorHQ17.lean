import Derived.Test.YtlbhjikkpbknnaaGreatDoorHQ14
/-
  Given contracts of functions of the program, and laws for them, one behind the other.
-/
set_option linter.unusedVariables false
set_option linter.unusedSimpArgs false
set_option linter.unusedSectionVars false
section
namespace Go.Proofs.YtlbhjikkpbknnaaGreatDoor
open Go.RowKit Go.Rel Go.Draw
set_option maxRecDepth 100000
/-! the program's Go; Ready of both -/
set_option maxHeartbeats 8000000 in
theorem goM_spec {w : World} {v gv : Value} {m : List Sol} {gone : List Int} {p : Int} (H : SlS w v m) (HG : SlI w gv gone) : Calls Tryz.prog 27 #[v, gv, .int .i64 p] w fun e w' => e = .returned (goV (goO m gone p) (askE m gone [p])) ∧ Below w.heap.size w w' := by
 obtain ⟨R, hR⟩ : ∃ R, R = goO m gone p := ⟨_, rfl⟩
 obtain ⟨E, hE⟩ : ∃ E, E = askE m gone [p] := ⟨_, rfl⟩
 rw [← hR, ← hE]
 unfold goO at hR
 rw [← hE] at hR
 have HH := Lib.hid (And.intro H (And.intro HG (And.intro hR hE)))
 clear H HG hR hE
 go_enter Tryz.func27, Tryz.ntmps27
 go_wp2_with fail
 obtain ⟨wb, hwb⟩ : ∃ wb, wb = (w.alloc (.cells #[.int .i64 0, .int .i64 0, .int .i64 0] 25)).alloc (.cells #[.int .i64 p] 3) := ⟨_, rfl⟩
 have hb : Below w.heap.size w wb := by subst hwb; exact (by repeat (first | with_reducible exact bel_refl _ | with_reducible assumption | with_reducible refine bel_drewN ?_ _ | with_reducible refine bel_drew ?_ | with_reducible refine bel_alloc ?_ _ | with_reducible refine bel_row ?_ ?_ _ | with_reducible refine bel_set ?_ ?_ _ | refine bel_trans ?_ (by with_reducible assumption) | (simp; done) | (simp; omega)))
 have B6 : Blk wb w.heap.size #[.int .i64 0, .int .i64 0, .int .i64 0] 25 := by subst hwb; exact (Blk.new _ _ _).alloc _
 have B7 : Blk wb (w.heap.size + 1) #[.int .i64 p] 3 := by subst hwb; exact Blk.at _ _ (by simp)
 have hws : wb.heap.size = w.heap.size + 1 + 1 := by subst hwb; simp
 rw [← hwb]
 clear hwb
 refine (asked_spec (of := [p]) (HH.out.1.mono hb) (HH.out.2.1.mono hb) (sl_news B7)).mono ?_
 rintro e w2 ⟨hb2, P, G, rfl, hx, hn⟩
 rw [← HH.out.2.2.2] at hx hn ⊢
 have B2 := B6.grow hb2
 have HB := Lib.hid (And.intro (bel_trans hb hb2) (And.intro B2 (And.intro hb.size hws)))
 have hsz : w.heap.size < w2.heap.size := B2.lt
 obtain ⟨N0, hN0⟩ : ∃ N0, N0 = w.heap.size := ⟨_, rfl⟩
 rw [← hN0] at hsz ⊢
 have HN0 := Lib.hid hN0
 clear hb hb2 B6 B2 B7 hN0 hws
 by_cases hE0 : E = 0
 ·obtain ⟨h12, hg, G', hG, hGs, hgl, q, rfl, hq, hqg⟩ := askE_good (HH.out.2.2.2.symm.trans hE0)
  obtain ⟨_, _, hG2, _, g, mb, rfl, hgb, hmb, hM⟩ := hx hE0
  have hRR : R = goesM m q G := by rw [HH.out.2.2.1, if_pos hE0, hG2]; rfl
  have HF := Lib.hid (goes_spec hM h12 hq G)
  rw [← hRR] at HF
  have HQ := Lib.hid (And.intro hgb hmb)
  subst hE0
  clear hRR h12 hg hG hGs hgl hq hqg hx hn hG2 hM hgb hmb
  go_wp2_with fail
  refine HF.out.mono ?_
  rintro e w4 ⟨rfl, -, hgr⟩
  have h41 := gb_base HB.out.1 hgr (Nat.le_trans HB.out.2.2.1 HQ.out.2)
  have h42 := HB.out.2.1.gb hgr (fun e => by have h1 := HQ.out.2; have h2 := HB.out.2.2.2; simp at e; omega)
  have H4 := Lib.hid (And.intro h41 h42)
  have hs4 : N0 < w4.heap.size := by rw [HN0.out]; exact H4.out.2.lt
  clear hgr HF h41 h42
  cases R with
  | none =>
   rw [show goesR none = .tuple #[mv0, .bool false] from rfl]
   have BA := H4.out.2
   rw [← HN0.out] at BA
   have d0 := BA.cell 0; have d1 := BA.cell 1; have d2 := BA.cell 2; have f0 := BA.free 0; have f1 := BA.free 1; have f2 := BA.free 2
   simp only [List.getElem?_toArray, List.getElem?_cons_zero, List.getElem?_cons_succ] at d0 d1 d2
   have HBA := Lib.hid BA; clear BA
   go_wp2_with fail
   have BS := (mv_store HBA.out (.int .i64 0) (.int .i64 0) (.int .i64 0)).alloc (.cells #[.int .i64 0, .int .i64 0, .int .i64 0] 25)
   have s0 := BS.cell 0; have s1 := BS.cell 1; have s2 := BS.cell 2
   simp only [List.getElem?_toArray, List.getElem?_cons_zero, List.getElem?_cons_succ] at s0 s1 s2
   refine bodyPost_ret (v := .tuple #[mv0, .bool false, .int .i64 0]) (by simp [results, Tryz.results27, go_sem, s0, s1, s2]) rfl ⟨rfl, bel_alloc (mv_store_bel H4.out.1 (by rw [HN0.out]; exact Nat.le_refl _) _ _ _) _⟩
  | some x =>
   obtain ⟨x0, x1, x2⟩ := x
   rw [show goesR (some (x0, x1, x2)) = .tuple #[.agg #[.int .i64 (x0 : Int), .int .i64 (x1 : Int), .int .i64 (x2 : Int)], .bool true] from rfl]
   have BA := H4.out.2
   rw [← HN0.out] at BA
   have d0 := BA.cell 0; have d1 := BA.cell 1; have d2 := BA.cell 2; have f0 := BA.free 0; have f1 := BA.free 1; have f2 := BA.free 2
   simp only [List.getElem?_toArray, List.getElem?_cons_zero, List.getElem?_cons_succ] at d0 d1 d2
   have HBA := Lib.hid BA; clear BA
   go_wp2_with fail
   have BS := (mv_store HBA.out (.int .i64 (x0 : Int)) (.int .i64 (x1 : Int)) (.int .i64 (x2 : Int))).alloc (.cells #[.int .i64 (x0 : Int), .int .i64 (x1 : Int), .int .i64 (x2 : Int)] 25)
   have s0 := BS.cell 0; have s1 := BS.cell 1; have s2 := BS.cell 2
   simp only [List.getElem?_toArray, List.getElem?_cons_zero, List.getElem?_cons_succ] at s0 s1 s2
   refine bodyPost_ret (v := .tuple #[.agg #[.int .i64 (x0 : Int), .int .i64 (x1 : Int), .int .i64 (x2 : Int)], .bool true, .int .i64 0]) (by simp [results, Tryz.results27, go_sem, s0, s1, s2]) rfl ⟨rfl, bel_alloc (mv_store_bel H4.out.1 (by rw [HN0.out]; exact Nat.le_refl _) _ _ _) _⟩
 ·have h1 : ¬ (E = 0) := hE0
  have HR := Lib.hid (show R = none by rw [HH.out.2.2.1, if_neg hE0])
  obtain ⟨rfl, rfl⟩ := hn hE0
  have BA := HB.out.2.1
  rw [← HN0.out] at BA
  have d0 := BA.cell 0; have d1 := BA.cell 1; have d2 := BA.cell 2; have l5 := BA.lt; have f0 := BA.free 0; have f1 := BA.free 1; have f2 := BA.free 2
  simp only [List.getElem?_toArray, List.getElem?_cons_zero, List.getElem?_cons_succ] at d0 d1 d2
  have HBA := Lib.hid BA; clear BA hx hn
  go_wp2_with fail
  have BS := mv_store HBA.out (.int .i64 0) (.int .i64 0) (.int .i64 0)
  have s0 := BS.cell 0; have s1 := BS.cell 1; have s2 := BS.cell 2
  simp only [List.getElem?_toArray, List.getElem?_cons_zero, List.getElem?_cons_succ] at s0 s1 s2
  refine bodyPost_ret (v := .tuple #[mv0, .bool false, .int .i64 E]) (by simp [results, Tryz.results27, go_sem, s0, s1, s2]) rfl ⟨?_, mv_store_bel HB.out.1 (by rw [HN0.out]; exact Nat.le_refl _) _ _ _⟩
  rw [HR.out]; rfl
def rdyL (m : List Sol) (gone : List Int) : List Int := if askE m gone [] = 0 then (match setI m.length gone with
 | some G => intsL (listU (readyM m G))
 | none => []) else []
theorem askE_nil (m : List Sol) (gone : List Int) : askE m gone [] = if errM m ≠ 0 then errM m else if (setI m.length gone).isSome then 0 else 1 := by
 unfold askE
 by_cases hE : errM m = 0
 ·rw [if_neg (by simpa using hE), if_neg (by simpa using hE)]
  cases setI m.length gone <;> rfl
 ·rw [if_pos hE, if_pos hE]
theorem Ready_n {w : World} {v gv : Value} {m : List Sol} {gone : List Int} (H : SlS w v m) (HG : SlI w gv gone) (hT : Tab w) : Calls Tryz.prog 29 #[v, gv] w fun e w' => ∃ u, e = .returned (.tuple #[u, .int .i64 (askE m gone [])]) ∧ SlI w' u (rdyL m gone) ∧ Below w.heap.size w w' := by
 refine (Ready_spec H HG hT).mono ?_
 rintro e w2 ⟨hb, u, rfl, h0, h1⟩
 refine ⟨u, rfl, ?_, hb⟩
 unfold rdyL
 by_cases h : askE m gone [] = 0
 ·obtain ⟨G, hG, hO⟩ := h0 h
  rw [if_pos h, hG]; exact hO.sl
 ·rw [if_neg h, h1 h]; exact sl_nil
theorem readyR_all {m : List Sol} (hg : goodM m = true) (hm : m.length ≤ 12) (G : U) : readyR m (List.range m.length) (listU G) = listU (readyM m G) := by
 have h64 : ∀ i ∈ listU G, i < 64 := fun i hi => List.mem_range.1 (List.mem_filter.1 hi).1
 have := readyR_set (good_apart hg) hm (Sub.refl (allU m.length)) h64
 rw [all_list hm, setF_list] at this
 rw [this]
 congr 1
 apply Sub.antisymm
 ·intro i hi; rw [BitVec.getLsbD_and, Bool.and_eq_true] at hi; exact hi.2
 ·intro i hi; rw [BitVec.getLsbD_and, hi, ready_all' hm G i hi]; rfl
set_option maxHeartbeats 8000000 in
theorem refReady_n {w : World} {v gv : Value} {m : List Sol} {gone : List Int} (H : SlS w v m) (HG : SlI w gv gone) : Calls Tryz.prog 30 #[v, gv] w fun e w' => ∃ u, e = .returned (.tuple #[u, .int .i64 (askE m gone [])]) ∧ SlI w' u (rdyL m gone) ∧ Below w.heap.size w w' := by
 obtain ⟨E, hE⟩ : ∃ E, E = askE m gone [] := ⟨_, rfl⟩
 obtain ⟨R, hR⟩ : ∃ R, R = rdyL m gone := ⟨_, rfl⟩
 rw [← hE, ← hR]
 unfold rdyL at hR
 rw [← hE] at hR
 rw [askE_nil] at hE
 obtain ⟨F, hF⟩ : ∃ F, F = errM m := ⟨_, rfl⟩
 have H1 := Lib.hid (refMould_spec H)
 rw [← hF] at hE H1
 obtain ⟨ai, nn, c, rfl, hnn, hc, hcm⟩ := H.out
 subst hnn
 have HH := Lib.hid (And.intro H (And.intro HG (And.intro hE (And.intro hR hF))))
 clear H HG hE hR hF
 go_enter Tryz.func30, Tryz.ntmps30
 go_wp2_with fail
 refine H1.out.mono ?_
 rintro e w2 ⟨rfl, hb2⟩
 have HB := Lib.hid hb2
 clear hb2
 by_cases hF0 : F = 0
 ·obtain ⟨h12, hg⟩ := errM_zero.1 (HH.out.2.2.2.2.symm.trans hF0)
  have HIS := Lib.hid (IsSet_spec (HH.out.2.1.mono HB.out) h12)
  have HQ := Lib.hid (And.intro h12 hg)
  subst hF0
  clear h12 hg
  go_wp2_with fail
  refine HIS.out.mono ?_
  rintro e w3 ⟨rfl, hb3⟩
  have H3 := Lib.hid (bel_trans HB.out hb3)
  clear hb3 HIS
  cases hS : setI m.length gone with
  | none =>
   have HS := Lib.hid hS; clear hS
   rw [Option.isSome_none]
   have hE1 : E = 1 := by rw [HH.out.2.2.1, HS.out]; rfl
   have HE := Lib.hid hE1; clear hE1
   go_wp2_with fail
   refine bodyPost_ret (v := .tuple #[.slice none 0 0, .int .i64 1]) (by simp [results, Tryz.results30, go_sem]) rfl ⟨_, by rw [HE.out], ?_, H3.out⟩
   rw [HH.out.2.2.2.1, HE.out, if_neg (by decide)]; exact sl_nil
  | some G =>
   have HS := Lib.hid hS; clear hS
   rw [Option.isSome_some]
   have hE1 : E = 0 := by rw [HH.out.2.2.1, HS.out]; rfl
   have HE := Lib.hid hE1; clear hE1
   have HWO := Lib.hid (WaysOf_spec (HH.out.1.mono H3.out) HQ.out.1)
   go_wp2_with fail
   refine HWO.out.mono ?_
   rintro e w4 ⟨hb4, mv, nv, rfl, hW⟩
   have H4 := Lib.hid (And.intro (bel_trans H3.out hb4) hW)
   clear hb4 hW HWO
   have HAL := Lib.hid (all_ref (w := w4) ai m.length c (by have := HQ.out.1; omega))
   go_wp2_with fail
   refine HAL.out.mono ?_
   rintro e w5 ⟨hb5, oa, rfl, hoa⟩
   have hgv : SlI w5 gv (intsL (listU G)) := by rw [← setI_list HQ.out.1 HS.out]; exact HH.out.2.1.mono (bel_trans H4.out.1 hb5)
   have HRD := Lib.hid (readyR_spec (H4.out.2.mono hb5) hoa.sl hgv (fun p hp => List.mem_range.1 hp) (by rw [List.length_range]; have := HQ.out.1; omega))
   rw [readyR_all HQ.out.2 HQ.out.1] at HRD
   have H5 := Lib.hid (bel_trans H4.out.1 hb5)
   clear hb5 hoa hgv HAL
   go_wp2_with fail
   refine HRD.out.mono ?_
   rintro e w6 ⟨hb6, o, rfl, ho⟩
   have H6 := Lib.hid (And.intro (bel_trans H5.out hb6) ho)
   clear hb6 ho HRD
   go_wp2_with fail
   refine bodyPost_ret (v := .tuple #[o, .int .i64 0]) (by simp [results, Tryz.results30, go_sem]) rfl ⟨_, by rw [HE.out], ?_, H6.out.1⟩
   rw [HH.out.2.2.2.1, HE.out, if_pos rfl, HS.out]; exact H6.out.2.sl
 ·have h1 : ¬ (F = 0) := hF0
  have hE1 : E = F := by rw [HH.out.2.2.1, if_pos hF0]
  have HE := Lib.hid hE1; clear hE1
  go_wp2_with fail
  refine bodyPost_ret (v := .tuple #[.slice none 0 0, .int .i64 F]) (by simp [results, Tryz.results30, go_sem]) rfl ⟨_, by rw [HE.out], ?_, HB.out⟩
  rw [HH.out.2.2.2.1, HE.out, if_neg hF0]; exact sl_nil
end Go.Proofs.YtlbhjikkpbknnaaGreatDoor
end
section
namespace Go.Proofs.YtlbhjikkpbknnaaGreatDoor
open Go.RowKit Go.Rel Go.Draw
set_option maxRecDepth 100000
/-! DrawGoes -/
theorem goV_open (r : Option Mv) (E : Int) : ∃ (p q s : Int) (i : Bool), goV r E = .tuple #[.agg #[.int .i64 p, .int .i64 q, .int .i64 s], .bool i, .int .i64 E] := by
 cases r with
 | none => exact ⟨_, _, _, _, rfl⟩
 | some r => obtain ⟨p, q, s⟩ := r; exact ⟨_, _, _, _, rfl⟩
set_option maxHeartbeats 8000000 in
theorem DrawGoes_walk {W : World} {v gv : Value} {m : List Sol} {gone : List Int} {p : Int} (H : SlS W v m) (HG : SlI W gv gone) (hT : Tab W) : Calls Tryz.prog 5 #[v, gv, .int .i64 p] W fun e w' => e = .returned (.bool true) ∧ Below W.heap.size W w' := by
 have HFW := Lib.hid (few_spec 6 H)
 obtain ⟨pa, ca, rfl, hma, -⟩ := ints_open HG
 have HAR := Lib.hid fun W1 (h : Below W.heap.size W W1) => (show SlS W1 v m ∧ SlI W1 (.slice pa gone.length ca) gone ∧ Tab W1 from ⟨H.mono h, HG.mono h, hT.grow h⟩)
 have HC := Lib.hid fun W1 (h : Below W.heap.size W W1) => cast_spec (hT.grow h)
 have hb1 : Below W.heap.size W (W.alloc (.cells #[.slice pa gone.length ca] 23)) := bel_alloc (bel_refl W) _
 have HSh := Lib.hid (short_spec (lit_one (Blk.new W #[.slice pa gone.length ca] 23) (HAR.out _ hb1).2.1))
 have HB1 := Lib.hid hb1
 clear H HG hT hma hb1
 obtain ⟨F, hF⟩ : ∃ F, F = (decide ((m.length : Int) ≤ 6) || (decide (12 < m.length) && decide (m.length ≤ 15))) := ⟨_, rfl⟩
 rw [← hF] at HFW
 clear hF
 go_enter Tryz.func5, Tryz.ntmps5
 go_wp2_with fail
 refine HFW.out.mono ?_
 rintro e w1 ⟨rfl, hw1⟩
 have hw2 := hw1.symm
 subst hw2
 clear hw1
 cases F
 ·go_wp2_with fail
  refine (HC.out _ (bel_refl _)).mono ?_
  rintro e w4 ⟨rfl, hb4⟩
  have H4 := Lib.hid hb4; clear hb4
  go_wp2_with fail
  go_ret
  exact ⟨rfl, H4.out⟩
 ·go_wp2_with fail
  refine HSh.out.mono ?_
  rintro e w1 ⟨rfl, hw1⟩
  obtain ⟨S, hS⟩ : ∃ S, S = ([gone].all fun q => decide (q.length ≤ 20)) := ⟨_, rfl⟩
  rw [← hS]
  have HB2 : Hid (Below W.heap.size W w1) := Lib.hid (by rw [hw1]; exact HB1.out)
  clear hS hw1 HSh HB1
  cases S
  ·go_wp2_with fail
   refine (HC.out _ HB2.out).mono ?_
   rintro e w4 ⟨rfl, hb4⟩
   have H4 := Lib.hid hb4; clear hb4
   go_wp2_with fail
   go_ret
   exact ⟨rfl, bel_trans HB2.out H4.out⟩
  ·obtain ⟨E, hE⟩ : ∃ E, E = askE m gone [p] := ⟨_, rfl⟩
   obtain ⟨R, hR⟩ : ∃ R, R = goO m gone p := ⟨_, rfl⟩
   obtain ⟨E2, hE2⟩ : ∃ E, E = askE m gone [] := ⟨_, rfl⟩
   obtain ⟨LL, hLL⟩ : ∃ LL, LL = rdyL m gone := ⟨_, rfl⟩
   obtain ⟨xa, xb, xc, xi, hgv⟩ := goV_open R E
   have S1 := Lib.hid fun W1 (h : Below W.heap.size W W1) => goM_spec (p := p) (HAR.out W1 h).1 (HAR.out W1 h).2.1
   have S2 := Lib.hid fun W1 (h : Below W.heap.size W W1) => refGo_spec (p := p) (HAR.out W1 h).1 (HAR.out W1 h).2.1
   have S3 := Lib.hid fun W1 (h : Below W.heap.size W W1) => Ready_n (HAR.out W1 h).1 (HAR.out W1 h).2.1 (HAR.out W1 h).2.2
   have S4 := Lib.hid fun W1 (h : Below W.heap.size W W1) => refReady_n (HAR.out W1 h).1 (HAR.out W1 h).2.1
   simp only [← hE, ← hR, hgv] at S1 S2
   simp only [← hE2, ← hLL] at S3 S4
   clear hE hR hE2 hLL hgv
   go_wp2_with fail
   refine (S1.out _ HB2.out).mono ?_
   rintro e w3 ⟨rfl, hb⟩
   have hB3 := Blk.new w3 #[.int .i64 xa, .int .i64 xb, .int .i64 xc] 25
   obtain ⟨w3', hw3'⟩ : ∃ w, w = w3.alloc (.cells #[.int .i64 xa, .int .i64 xb, .int .i64 xc] 25) := ⟨_, rfl⟩
   rw [← hw3'] at hB3
   have HB3 := Lib.hid (show Below W.heap.size W w3' by rw [hw3']; exact bel_alloc (bel_trans HB2.out hb) _)
   clear hb
   go_wp2_with fail
   rw [← hw3']
   obtain ⟨N3, hN3⟩ : ∃ N, N = w3.heap.size := ⟨_, rfl⟩
   rw [← hN3] at hB3 ⊢
   have HK3 := Lib.hid hB3
   clear hw3' hB3 hN3
   refine (S2.out _ HB3.out).mono ?_
   rintro e w4 ⟨rfl, hb⟩
   have hB4 := Blk.new w4 #[.int .i64 xa, .int .i64 xb, .int .i64 xc] 25
   obtain ⟨w4', hw4'⟩ : ∃ w, w = w4.alloc (.cells #[.int .i64 xa, .int .i64 xb, .int .i64 xc] 25) := ⟨_, rfl⟩
   rw [← hw4'] at hB4
   have HB4 := Lib.hid (show Below W.heap.size W w4' by rw [hw4']; exact bel_alloc (bel_trans HB3.out hb) _)
   replace HK3 := Lib.hid (show Blk w4' N3 _ _ by rw [hw4']; exact (HK3.out.grow hb).alloc _)
   clear hb
   go_wp2_with fail
   rw [← hw4']
   obtain ⟨N4, hN4⟩ : ∃ N, N = w4.heap.size := ⟨_, rfl⟩
   rw [← hN4] at hB4 ⊢
   have HK4 := Lib.hid hB4
   clear hw4' hB4 hN4
   refine (S3.out _ HB4.out).mono ?_
   rintro e w5 ⟨u5, rfl, hs, hb⟩
   have HB5 := Lib.hid (bel_trans HB4.out hb)
   have HU5 := Lib.hid hs
   replace HK3 := Lib.hid (HK3.out.grow hb)
   replace HK4 := Lib.hid (HK4.out.grow hb)
   clear hb hs
   go_wp2_with fail
   refine (S4.out _ HB5.out).mono ?_
   rintro e w6 ⟨u6, rfl, hs, hb⟩
   have HB6 := Lib.hid (bel_trans HB5.out hb)
   have HU6 := Lib.hid hs
   replace HU5 := Lib.hid (HU5.out.mono hb)
   replace HK3 := Lib.hid (HK3.out.grow hb)
   replace HK4 := Lib.hid (HK4.out.grow hb)
   clear hb hs
   go_wp2_with fail
   refine (HC.out _ HB6.out).mono ?_
   rintro e w9 ⟨rfl, hb⟩
   have HB9 := Lib.hid (bel_trans HB6.out hb)
   have HS := Lib.hid (SameInts_spec (HU5.out.mono hb) (HU6.out.mono hb))
   have k3 := HK3.out.grow hb
   have k4 := HK4.out.grow hb
   have c0 := k3.cell 0; have c1 := k3.cell 1; have c2 := k3.cell 2; have l3 := k3.lt
   have d0 := k4.cell 0; have d1 := k4.cell 1; have d2 := k4.cell 2; have l4 := k4.lt
   simp only [List.getElem?_toArray, List.getElem?_cons_zero, List.getElem?_cons_succ] at c0 c1 c2 d0 d1 d2
   clear hb k3 k4
   go_wp2_with fail
   refine HS.out.mono ?_
   rintro e wA ⟨rfl, hbA⟩
   rw [beq_self_eq_true]
   have HA := Lib.hid (bel_trans HB9.out hbA)
   clear hbA
   go_wp2_with fail
   go_ret
   exact ⟨ret_bool (by simp), HA.out⟩
end Go.Proofs.YtlbhjikkpbknnaaGreatDoor
end
