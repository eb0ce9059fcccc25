import Derived.Test.YtlbhjikkpbknnaaGreatDoorHQ14
/-
  Given contracts of functions of the program, and laws for them, one behind the other.
-/
set_option linter.unusedVariables false
set_option linter.unusedSimpArgs false
set_option linter.unusedSectionVars false
section
namespace Go.Proofs.YtlbhjikkpbknnaaGreatDoor
open Go.RowKit Go.Rel Go.Draw
set_option maxRecDepth 100000
/-! the program's Go; Ready of both -/
set_option maxHeartbeats 8000000 in
theorem goM_spec {w : World} {v gv : Value} {m : List Sol} {gone : List Int} {p : Int} (H : SlS w v m) (HG : SlI w gv gone) : Calls Tryz.prog 27 #[v, gv, .int .i64 p] w fun e w' => e = .returned (goV (goO m gone p) (askE m gone [p])) ∧ Below w.heap.size w w' := by
 obtain ⟨R, hR⟩ : ∃ R, R = goO m gone p := ⟨_, rfl⟩
 obtain ⟨E, hE⟩ : ∃ E, E = askE m gone [p] := ⟨_, rfl⟩
 rw [← hR, ← hE]
 unfold goO at hR
 rw [← hE] at hR
 have HH := Lib.hid (And.intro H (And.intro HG (And.intro hR hE)))
 clear H HG hR hE
 go_enter Tryz.func27, Tryz.ntmps27
 go_wp2_with fail
 obtain ⟨wb, hwb⟩ : ∃ wb, wb = (w.alloc (.cells #[.int .i64 0, .int .i64 0, .int .i64 0] 25)).alloc (.cells #[.int .i64 p] 3) := ⟨_, rfl⟩
 have hb : Below w.heap.size w wb := by subst hwb; exact (by repeat (first | with_reducible exact bel_refl _ | with_reducible assumption | with_reducible refine bel_drewN ?_ _ | with_reducible refine bel_drew ?_ | with_reducible refine bel_alloc ?_ _ | with_reducible refine bel_row ?_ ?_ _ | with_reducible refine bel_set ?_ ?_ _ | refine bel_trans ?_ (by with_reducible assumption) | (simp; done) | (simp; omega)))
 have B6 : Blk wb w.heap.size #[.int .i64 0, .int .i64 0, .int .i64 0] 25 := by subst hwb; exact (Blk.new _ _ _).alloc _
 have B7 : Blk wb (w.heap.size + 1) #[.int .i64 p] 3 := by subst hwb; exact Blk.at _ _ (by simp)
 have hws : wb.heap.size = w.heap.size + 1 + 1 := by subst hwb; simp
 rw [← hwb]
 clear hwb
 refine (asked_spec (of := [p]) (HH.out.1.mono hb) (HH.out.2.1.mono hb) (sl_news B7)).mono ?_
 rintro e w2 ⟨hb2, P, G, rfl, hx, hn⟩
 rw [← HH.out.2.2.2] at hx hn ⊢
 have B2 := B6.grow hb2
 have HB := Lib.hid (And.intro (bel_trans hb hb2) (And.intro B2 (And.intro hb.size hws)))
 have hsz : w.heap.size < w2.heap.size := B2.lt
 obtain ⟨N0, hN0⟩ : ∃ N0, N0 = w.heap.size := ⟨_, rfl⟩
 rw [← hN0] at hsz ⊢
 have HN0 := Lib.hid hN0
 clear hb hb2 B6 B2 B7 hN0 hws
 by_cases hE0 : E = 0
 ·obtain ⟨h12, hg, G', hG, hGs, hgl, q, rfl, hq, hqg⟩ := askE_good (HH.out.2.2.2.symm.trans hE0)
  obtain ⟨_, _, hG2, _, g, mb, rfl, hgb, hmb, hM⟩ := hx hE0
  have hRR : R = goesM m q G := by rw [HH.out.2.2.1, if_pos hE0, hG2]; rfl
  have HF := Lib.hid (goes_spec hM h12 hq G)
  rw [← hRR] at HF
  have HQ := Lib.hid (And.intro hgb hmb)
  subst hE0
  clear hRR h12 hg hG hGs hgl hq hqg hx hn hG2 hM hgb hmb
  go_wp2_with fail
  refine HF.out.mono ?_
  rintro e w4 ⟨rfl, -, hgr⟩
  have h41 := gb_base HB.out.1 hgr (Nat.le_trans HB.out.2.2.1 HQ.out.2)
  have h42 := HB.out.2.1.gb hgr (fun e => by have h1 := HQ.out.2; have h2 := HB.out.2.2.2; simp at e; omega)
  have H4 := Lib.hid (And.intro h41 h42)
  have hs4 : N0 < w4.heap.size := by rw [HN0.out]; exact H4.out.2.lt
  clear hgr HF h41 h42
  cases R with
  | none =>
   rw [show goesR none = .tuple #[mv0, .bool false] from rfl]
   have BA := H4.out.2
   rw [← HN0.out] at BA
   have d0 := BA.cell 0; have d1 := BA.cell 1; have d2 := BA.cell 2; have f0 := BA.free 0; have f1 := BA.free 1; have f2 := BA.free 2
   simp only [List.getElem?_toArray, List.getElem?_cons_zero, List.getElem?_cons_succ] at d0 d1 d2
   have HBA := Lib.hid BA; clear BA
   go_wp2_with fail
   have BS := (mv_store HBA.out (.int .i64 0) (.int .i64 0) (.int .i64 0)).alloc (.cells #[.int .i64 0, .int .i64 0, .int .i64 0] 25)
   have s0 := BS.cell 0; have s1 := BS.cell 1; have s2 := BS.cell 2
   simp only [List.getElem?_toArray, List.getElem?_cons_zero, List.getElem?_cons_succ] at s0 s1 s2
   refine bodyPost_ret (v := .tuple #[mv0, .bool false, .int .i64 0]) (by simp [results, Tryz.results27, go_sem, s0, s1, s2]) rfl ⟨rfl, bel_alloc (mv_store_bel H4.out.1 (by rw [HN0.out]; exact Nat.le_refl _) _ _ _) _⟩
  | some x =>
   obtain ⟨x0, x1, x2⟩ := x
   rw [show goesR (some (x0, x1, x2)) = .tuple #[.agg #[.int .i64 (x0 : Int), .int .i64 (x1 : Int), .int .i64 (x2 : Int)], .bool true] from rfl]
   have BA := H4.out.2
   rw [← HN0.out] at BA
   have d0 := BA.cell 0; have d1 := BA.cell 1; have d2 := BA.cell 2; have f0 := BA.free 0; have f1 := BA.free 1; have f2 := BA.free 2
   simp only [List.getElem?_toArray, List.getElem?_cons_zero, List.getElem?_cons_succ] at d0 d1 d2
   have HBA := Lib.hid BA; clear BA
   go_wp2_with fail
   have BS := (mv_store HBA.out (.int .i64 (x0 : Int)) (.int .i64 (x1 : Int)) (.int .i64 (x2 : Int))).alloc (.cells #[.int .i64 (x0 : Int), .int .i64 (x1 : Int), .int .i64 (x2 : Int)] 25)
   have s0 := BS.cell 0; have s1 := BS.cell 1; have s2 := BS.cell 2
   simp only [List.getElem?_toArray, List.getElem?_cons_zero, List.getElem?_cons_succ] at s0 s1 s2
   refine bodyPost_ret (v := .tuple #[.agg #[.int .i64 (x0 : Int), .int .i64 (x1 : Int), .int .i64 (x2 : Int)], .bool true, .int .i64 0]) (by simp [results, Tryz.results27, go_sem, s0, s1, s2]) rfl ⟨rfl, bel_alloc (mv_store_bel H4.out.1 (by rw [HN0.out]; exact Nat.le_refl _) _ _ _) _⟩
 ·have h1 : ¬ (E = 0) := hE0
  have HR := Lib.hid (show R = none by rw [HH.out.2.2.1, if_neg hE0])
  obtain ⟨rfl, rfl⟩ := hn hE0
  have BA := HB.out.2.1
  rw [← HN0.out] at BA
  have d0 := BA.cell 0; have d1 := BA.cell 1; have d2 := BA.cell 2; have l5 := BA.lt; have f0 := BA.free 0; have f1 := BA.free 1; have f2 := BA.free 2
  simp only [List.getElem?_toArray, List.getElem?_cons_zero, List.getElem?_cons_succ] at d0 d1 d2
  have HBA := Lib.hid BA; clear BA hx hn
  go_wp2_with fail
  have BS := mv_store HBA.out (.int .i64 0) (.int .i64 0) (.int .i64 0)
  have s0 := BS.cell 0; have s1 := BS.cell 1; have s2 := BS.cell 2
  simp only [List.getElem?_toArray, List.getElem?_cons_zero, List.getElem?_cons_succ] at s0 s1 s2
  refine bodyPost_ret (v := .tuple #[mv0, .bool false, .int .i64 E]) (by simp [results, Tryz.results27, go_sem, s0, s1, s2]) rfl ⟨?_, mv_store_bel HB.out.1 (by rw [HN0.out]; exact Nat.le_refl _) _ _ _⟩
  rw [HR.out]; rfl
def rdyL (m : List Sol) (gone : List Int) : List Int := if askE m gone [] = 0 then (match setI m.length gone with
 | some G => intsL (listU (readyM m G))
 | none => []) else []
theorem askE_nil (m : List Sol) (gone : List Int) : askE m gone [] = if errM m ≠ 0 then errM m else if (setI m.length gone).isSome then 0 else 1 := by
 unfold askE
 by_cases hE : errM m = 0
 ·rw [if_neg (by simpa using hE), if_neg (by simpa using hE)]
  cases setI m.length gone <;> rfl
 ·rw [if_pos hE, if_pos hE]
theorem Ready_n {w : World} {v gv : Value} {m : List Sol} {gone : List Int} (H : SlS w v m) (HG : SlI w gv gone) (hT : Tab w) : Calls Tryz.prog 29 #[v, gv] w fun e w' => ∃ u, e = .returned (.tuple #[u, .int .i64 (askE m gone [])]) ∧ SlI w' u (rdyL m gone) ∧ Below w.heap.size w w' := by
 refine (Ready_spec H HG hT).mono ?_
 rintro e w2 ⟨hb, u, rfl, h0, h1⟩
 refine ⟨u, rfl, ?_, hb⟩
 unfold rdyL
 by_cases h : askE m gone [] = 0
 ·obtain ⟨G, hG, hO⟩ := h0 h
  rw [if_pos h, hG]; exact hO.sl
 ·rw [if_neg h, h1 h]; exact sl_nil
theorem readyR_all {m : List Sol} (hg : goodM m = true) (hm : m.length ≤ 12) (G : U) : readyR m (List.range m.length) (listU G) = listU (readyM m G) := by
 have h64 : ∀ i ∈ listU G, i < 64 := fun i hi => List.mem_range.1 (List.mem_filter.1 hi).1
 have := readyR_set (good_apart hg) hm (Sub.refl (allU m.length)) h64
 rw [all_list hm, setF_list] at this
 rw [this]
 congr 1
 apply Sub.antisymm
 ·intro i hi; rw [BitVec.getLsbD_and, Bool.and_eq_true] at hi; exact hi.2
 ·intro i hi; rw [BitVec.getLsbD_and, hi, ready_all' hm G i hi]; rfl
set_option maxHeartbeats 8000000 in
theorem refReady_n {w : World} {v gv : Value} {m : List Sol} {gone : List Int} (H : SlS w v m) (HG : SlI w gv gone) : Calls Tryz.prog 30 #[v, gv] w fun e w' => ∃ u, e = .returned (.tuple #[u, .int .i64 (askE m gone [])]) ∧ SlI w' u (rdyL m gone) ∧ Below w.heap.size w w' := by
 obtain ⟨E, hE⟩ : ∃ E, E = askE m gone [] := ⟨_, rfl⟩
 obtain ⟨R, hR⟩ : ∃ R, R = rdyL m gone := ⟨_, rfl⟩
 rw [← hE, ← hR]
 unfold rdyL at hR
 rw [← hE] at hR
 rw [askE_nil] at hE
 obtain ⟨F, hF⟩ : ∃ F, F = errM m := ⟨_, rfl⟩
 have H1 := Lib.hid (refMould_spec H)
 rw [← hF] at hE H1
 obtain ⟨ai, nn, c, rfl, hnn, hc, hcm⟩ := H.out
 subst hnn
 have HH := Lib.hid (And.intro H (And.intro HG (And.intro hE (And.intro hR hF))))
 clear H HG hE hR hF
 go_enter Tryz.func30, Tryz.ntmps30
 go_wp2_with fail
 refine H1.out.mono ?_
 rintro e w2 ⟨rfl, hb2⟩
 have HB := Lib.hid hb2
 clear hb2
 by_cases hF0 : F = 0
 ·obtain ⟨h12, hg⟩ := errM_zero.1 (HH.out.2.2.2.2.symm.trans hF0)
  have HIS := Lib.hid (IsSet_spec (HH.out.2.1.mono HB.out) h12)
  have HQ := Lib.hid (And.intro h12 hg)
  subst hF0
  clear h12 hg
  go_wp2_with fail
  refine HIS.out.mono ?_
  rintro e w3 ⟨rfl, hb3⟩
  have H3 := Lib.hid (bel_trans HB.out hb3)
  clear hb3 HIS
  cases hS : setI m.length gone with
  | none =>
   have HS := Lib.hid hS; clear hS
   rw [Option.isSome_none]
   have hE1 : E = 1 := by rw [HH.out.2.2.1, HS.out]; rfl
   have HE := Lib.hid hE1; clear hE1
   go_wp2_with fail
   refine bodyPost_ret (v := .tuple #[.slice none 0 0, .int .i64 1]) (by simp [results, Tryz.results30, go_sem]) rfl ⟨_, by rw [HE.out], ?_, H3.out⟩
   rw [HH.out.2.2.2.1, HE.out, if_neg (by decide)]; exact sl_nil
  | some G =>
   have HS := Lib.hid hS; clear hS
   rw [Option.isSome_some]
   have hE1 : E = 0 := by rw [HH.out.2.2.1, HS.out]; rfl
   have HE := Lib.hid hE1; clear hE1
   have HWO := Lib.hid (WaysOf_spec (HH.out.1.mono H3.out) HQ.out.1)
   go_wp2_with fail
   refine HWO.out.mono ?_
   rintro e w4 ⟨hb4, mv, nv, rfl, hW⟩
   have H4 := Lib.hid (And.intro (bel_trans H3.out hb4) hW)
   clear hb4 hW HWO
   have HAL := Lib.hid (all_ref (w := w4) ai m.length c (by have := HQ.out.1; omega))
   go_wp2_with fail
   refine HAL.out.mono ?_
   rintro e w5 ⟨hb5, oa, rfl, hoa⟩
   have hgv : SlI w5 gv (intsL (listU G)) := by rw [← setI_list HQ.out.1 HS.out]; exact HH.out.2.1.mono (bel_trans H4.out.1 hb5)
   have HRD := Lib.hid (readyR_spec (H4.out.2.mono hb5) hoa.sl hgv (fun p hp => List.mem_range.1 hp) (by rw [List.length_range]; have := HQ.out.1; omega))
   rw [readyR_all HQ.out.2 HQ.out.1] at HRD
   have H5 := Lib.hid (bel_trans H4.out.1 hb5)
   clear hb5 hoa hgv HAL
   go_wp2_with fail
   refine HRD.out.mono ?_
   rintro e w6 ⟨hb6, o, rfl, ho⟩
   have H6 := Lib.hid (And.intro (bel_trans H5.out hb6) ho)
   clear hb6 ho HRD
   go_wp2_with fail
   refine bodyPost_ret (v := .tuple #[o, .int .i64 0]) (by simp [results, Tryz.results30, go_sem]) rfl ⟨_, by rw [HE.out], ?_, H6.out.1⟩
   rw [HH.out.2.2.2.1, HE.out, if_pos rfl, HS.out]; exact H6.out.2.sl
 ·have h1 : ¬ (F = 0) := hF0
  have hE1 : E = F := by rw [HH.out.2.2.1, if_pos hF0]
  have HE := Lib.hid hE1; clear hE1
  go_wp2_with fail
  refine bodyPost_ret (v := .tuple #[.slice none 0 0, .int .i64 F]) (by simp [results, Tryz.results30, go_sem]) rfl ⟨_, by rw [HE.out], ?_, HB.out⟩
  rw [HH.out.2.2.2.1, HE.out, if_neg hF0]; exact sl_nil
end Go.Proofs.YtlbhjikkpbknnaaGreatDoor
end
section
namespace Go.Proofs.YtlbhjikkpbknnaaGreatDoor
open Go.RowKit Go.Rel Go.Draw
set_option maxRecDepth 100000
/-! the greedy sequence -/
def lenV : Value → Nat
 | .slice _ n _ => n
 | _ => 0
def I6 (B : Nat) (a9 a10 : Bool) (y x0 x1 x2 : Value) (W : World) : Prop := B ≤ W.heap.size ∧ (a9 = true → ∃ b, y = .pointer (some ⟨b, 0, none⟩) ∧ B ≤ b ∧ (a10 = true → Blk W b #[x0, x1, x2] 25) ∧ (a10 = false → ∃ z0 z1 z2, Blk W b #[z0, z1, z2] 25))
theorem I6.bel {B : Nat} {a c : Bool} {y x0 x1 x2 : Value} {W W' : World} (h : I6 B a c y x0 x1 x2 W) (hb : Below W.heap.size W W') : I6 B a c y x0 x1 x2 W' := ⟨Nat.le_trans h.1 hb.size, fun e => by
 obtain ⟨b, h1, h2, h3, h4⟩ := h.2 e
 exact ⟨b, h1, h2, fun k => (h3 k).grow hb, fun k => by obtain ⟨z0, z1, z2, hz⟩ := h4 k; exact ⟨z0, z1, z2, hz.grow hb⟩⟩⟩
theorem nodup_le {g : List Nat} (h : g.Nodup) (hb : ∀ i ∈ g, i < 12) : g.length ≤ 12 := by
 have h64 : ∀ i ∈ g, i < 64 := fun i hi => by have := hb i hi; omega
 rw [setF_len h h64, ← card_all 12 (by omega)]
 apply sub_card
 intro i hi
 rw [setF_bit g h64] at hi
 rw [allU_bit _ _ (by omega), decide_eq_true (hb i (List.contains_iff_mem.1 hi))]
set_option maxHeartbeats 8000000 in
theorem greedy_spec {w : World} {mv nv ov : Value} {m : List Sol} {of : List Nat} (HW : WaysR w mv nv m) (HO : SlI w ov (intsL of)) (hof : ∀ p ∈ of, p < m.length) (hm : m.length ≤ 12) (hlen : of.length ≤ 1000) : Calls Tryz.prog 82 #[.agg #[mv, nv], ov] w fun e w' => Below w.heap.size w w' ∧ ∃ a b, e = .returned (.tuple #[a, b]) ∧ OwnI w' w.heap.size a (intsL (greedyF m of 12 [] []).1) ∧ OwnM w' w.heap.size b (greedyF m of 12 [] []).2 := by
 obtain ⟨i0, hi, hz0, hz1, hz2⟩ := info_parts infoInt
 have HI0 := Lib.hid (And.intro hi (And.intro hz0 (And.intro hz1 hz2))); clear hi hz0 hz1 hz2
 obtain ⟨i1, hi, hz0, hz1, hz2⟩ := info_parts infoMove
 have HI1 := Lib.hid (And.intro hi (And.intro hz0 (And.intro hz1 hz2))); clear hi hz0 hz1 hz2
 obtain ⟨us, vs', hs1, hs2⟩ : ∃ us vs : List Value, Sl w 1 mv (us.map fun x => [x]) ∧ Sl w 1 nv (vs.map fun x => [x]) := by
  obtain ⟨⟨us, h1, _, _⟩, vs, k1, _, _⟩ := HW
  exact ⟨us, vs, h1, k1⟩
 obtain ⟨bm, cm, hmv, -, -⟩ := vals_open hs1
 obtain ⟨bn, cn, hnv, -, -⟩ := vals_open hs2
 obtain ⟨nm, hnm⟩ : ∃ n, n = us.length := ⟨_, rfl⟩
 obtain ⟨nn, hnn⟩ : ∃ n, n = vs'.length := ⟨_, rfl⟩
 rw [← hnm] at hmv
 rw [← hnn] at hnv
 subst hmv hnv
 have HR := Lib.hid fun W (h : Below w.heap.size w W) gv g (hg : SlI W gv (intsL g)) => readyR_spec (HW.mono h) (HO.mono h) hg hof hlen
 have HF := Lib.hid fun W (h : Below w.heap.size w W) gv g (hg : SlI W gv (intsL g)) p (hp : p < m.length) => firstR_spec (HW.mono h) hg hp
 have HH := Lib.hid (And.intro hof hm)
 obtain ⟨A, hA⟩ : ∃ A, A = greedyF m of 12 [] [] := ⟨_, rfl⟩
 rw [← hA]
 have HA := Lib.hid hA
 clear HW HO hs1 hs2 hnm hnn hof hm hA us vs'
 go_enter Tryz.func82, Tryz.ntmps82
 go_wp2_with fail
 obtain ⟨wb, hwb⟩ : ∃ wb, wb = w.alloc (.cells #[.slice bm nm cm, .slice bn nn cn] 111) := ⟨_, rfl⟩
 have hb : Below w.heap.size w wb := by subst hwb; exact (by repeat (first | with_reducible exact bel_refl _ | with_reducible assumption | with_reducible refine bel_drewN ?_ _ | with_reducible refine bel_drew ?_ | with_reducible refine bel_alloc ?_ _ | with_reducible refine bel_row ?_ ?_ _ | with_reducible refine bel_set ?_ ?_ _ | refine bel_trans ?_ (by with_reducible assumption) | (simp; done) | (simp; omega)))
 have B3 : Blk wb w.heap.size #[.slice bm nm cm, .slice bn nn cn] 111 := by subst hwb; exact Blk.new _ _ _
 rw [← hwb]
 clear hwb
 have HB := Lib.hid (And.intro hb B3)
 obtain ⟨N0, hN0⟩ : ∃ N0, N0 = w.heap.size := ⟨_, rfl⟩
 rw [← hN0] at ⊢
 have HN0 := Lib.hid hN0
 clear B3 hb hN0
 go_loopw [6, 7] (fun gv mv wx => ∃ (n : Nat) (g : List Nat) (ml : List Mv), lenV gv = g.length ∧ Hid (A = greedyF m of n g ml ∧ g.length + n = 12 ∧ ml.length = g.length ∧ g.Nodup ∧ (∀ i ∈ g, i ∈ of) ∧ OwnI wx wb.heap.size gv (intsL g) ∧ OwnM wx wb.heap.size mv ml ∧ Below wb.heap.size wb wx)) (fun gv _ _ => 12 - lenV gv)
 case atStart => exact ⟨12, [], [], rfl, Lib.hid ⟨HA.out, rfl, rfl, List.nodup_nil, (fun i hi => by cases hi), World.ownsRow_nil _ _ _ _, World.ownsRow_nil _ _ _ _, Below.refl _ _⟩⟩
 case round =>
  obtain ⟨n, g, ml, hlv, HI⟩ := hrel
  have hgs : SlI wr u6 (intsL g) := HI.out.2.2.2.2.2.1.sl
  obtain ⟨p6, n6, c6, hu6⟩ := own_shapeN HI.out.2.2.2.2.2.1
  obtain ⟨p7, n7, c7, hu7⟩ := own_shapeN HI.out.2.2.2.2.2.2.1
  subst hu6 hu7
  have hn6 : n6 = g.length := hlv
  clear hlv
  have b3 : Blk wr N0 _ _ := HN0.out ▸ HB.out.2.grow HI.out.2.2.2.2.2.2.2
  have c0 := b3.cell 0; have c1 := b3.cell 1; have l3 := b3.lt
  simp only [List.getElem?_toArray, List.getElem?_cons_zero, List.getElem?_cons_succ] at c0 c1
  have HRC := Lib.hid (HR.out wr (bel_trans HB.out.1 HI.out.2.2.2.2.2.2.2) _ g hgs)
  have HN6 := Lib.hid hn6
  clear b3 hgs hn6
  go_wp2_with fail
  refine HRC.out.mono ?_
  rintro e w2 ⟨hb2, o, rfl, ho⟩
  obtain ⟨p8, n8, c8, hu8⟩ := own_shapeN ho
  subst hu8
  have hbw2 : Below wb.heap.size wb w2 := bel_trans HI.out.2.2.2.2.2.2.2 hb2
  have hl8 : n8 = (readyR m of g).length := by
   have h := ho.sl.out
   obtain ⟨a, n, c, he, hn, _, _⟩ := h
   simp only [Value.slice.injEq] at he
   rw [he.2.1, hn]; simp [intsL]
  have H2 := Lib.hid (And.intro hbw2 (And.intro ho.sl (And.intro (own_bel HI.out.2.2.2.2.2.1 hb2) (own_bel HI.out.2.2.2.2.2.2.1 hb2))))
  clear hb2 ho hbw2 HRC c0 c1 l3
  cases hrd : readyR m of g with
  | nil =>
   have h0 : n8 = 0 := by rw [hl8, hrd]; rfl
   subst h0
   have HE := Lib.hid (show A = (g, ml) by
    rw [HI.out.1]
    cases n with
    | zero => rfl
    | succ n => rw [greedyF, hrd])
   clear hl8 hrd
   go_wp2_with fail
   go_ret2
   rw [HE.out]
   exact ⟨bel_trans HB.out.1 H2.out.1, _, _, rfl, own_weak H2.out.2.2.1 HB.out.1.size, own_weak H2.out.2.2.2 HB.out.1.size⟩
  | cons p rest =>
   have hpr : p ∈ readyR m of g := by rw [hrd]; exact List.mem_cons_self
   have hpo : p ∈ of := (List.mem_filter.1 hpr).1
   have hpf := (List.mem_filter.1 hpr).2
   simp only [Bool.and_eq_true, Bool.not_eq_true'] at hpf
   obtain ⟨x, hx⟩ := Option.isSome_iff_exists.1 hpf.1
   have hpg : p ∉ g := by
    have := hpf.2
    intro h
    rw [List.contains_iff_mem.2 h] at this
    cases this
   have hpm := HH.out.1 p hpo
   have hnd : (g ++ [p]).Nodup := List.nodup_append.2 ⟨HI.out.2.2.2.1, by simp, fun a ha b hb => by simp at hb; subst hb; exact fun h => hpg (h ▸ ha)⟩
   have hsub : ∀ i ∈ g ++ [p], i ∈ of := fun i hi => by
    rcases List.mem_append.1 hi with h | h
    ·exact HI.out.2.2.2.2.1 i h
    ·simp at h; subst h; exact hpo
   have hlt12 : (g ++ [p]).length ≤ 12 := nodup_le hnd fun i hi => by have := HH.out.1 i (hsub i hi); have := HH.out.2; omega
   have hn8 : n8 = rest.length + 1 := by rw [hl8, hrd]; rfl
   obtain ⟨n', hn'⟩ : ∃ n', n = n' + 1 := ⟨n - 1, by have := HI.out.2.1; simp at hlt12; omega⟩
   have HE := Lib.hid (show A = greedyF m of n' (g ++ [p]) (ml ++ [x]) by rw [HI.out.1, hn', greedyF, hrd]; show greedyF m of n' (g ++ [p]) (ml ++ [(firstR m g p).getD (0, 0, 0)]) = _; rw [hx]; rfl)
   obtain ⟨x0, x1, x2⟩ := x
   have hsl := H2.out.2.1
   rw [hrd] at hsl
   obtain ⟨b8, cc8, he8, hm8, hH8⟩ := ints_open hsl
   simp only [Value.slice.injEq] at he8
   obtain ⟨rfl, hn88, rfl⟩ := he8
   obtain ⟨ib, io, rfl, lib, hcc⟩ := hH8 0 (p : Int) rfl
   have hck : w2.cell? ⟨ib, io, none⟩ = some (.int .i64 (p : Int)) := by have := hcc 0 (p : Int) rfl; simpa using this
   have HP := Lib.hid (And.intro hpm (And.intro hnd (And.intro hsub (And.intro hlt12 (And.intro hn' hx)))))
   have hn80 : ¬ (n8 = 0) := by omega
   have hn80b : ((n8 : Int) == 0) = false := by simp; omega
   have hn8p : 0 < n8 := by omega
   have hn8l : n8 ≤ 1000 := by
    rw [hl8]
    unfold readyR
    exact Nat.le_trans (List.length_filter_le _ _) hlen
   clear hpr hpo hpf hpm hnd hsub hlt12 hn' hpg hsl hm8 hH8 hcc hrd hl8 hn88 hx hn8
   obtain ⟨B, hBe⟩ : ∃ B, B = w2.heap.size := ⟨_, rfl⟩
   have HBe := Lib.hid hBe
   have hbs2 : wb.heap.size ≤ w2.heap.size := H2.out.1.size
   have HTR : Hid (∀ W, Below B w2 W → Below wb.heap.size wb W ∧ Below w2.heap.size w2 W) := Lib.hid fun W h => ⟨H2.out.1.trans (h.mono (by rw [hBe]; exact hbs2)), hBe ▸ h⟩
   have HCK := Lib.hid fun W (h : Below w2.heap.size w2 W) => (show W.cell? ⟨ib, io, none⟩ = some (.int .i64 (p : Int)) ∧ ib < W.heap.size from ⟨((Grows.cells h).1 ib _ lib).trans hck, Nat.lt_of_lt_of_le lib h.size⟩)
   have HBX := Lib.hid fun W (h : Below wb.heap.size wb W) => (show Blk W N0 _ _ from HN0.out ▸ HB.out.2.grow h)
   clear hBe hck lib
   go_wp2_with fail
   refine wp_region_val (Below B) (fun L vs W => I6 B (L 9) (L 10) (vs 9) (.int .i64 (x0 : Int)) (.int .i64 (x1 : Int)) (.int .i64 (x2 : Int)) W) [Is (.agg #[.slice bm nm cm, .slice bn nn cn]), Is (.slice p6 n6 c6), Is (.slice (some ⟨ib, io, none⟩) n8 c8), Is (.pointer (some ⟨ib, io, none⟩)), Is (.int .i64 (p : Int)), Is (.tuple #[.agg #[.int .i64 (x0 : Int), .int .i64 (x1 : Int), .int .i64 (x2 : Int)], .bool true]), Is (.tuple #[.agg #[.int .i64 (x0 : Int), .int .i64 (x1 : Int), .int .i64 (x2 : Int)], .bool true]), Is (.agg #[.int .i64 (x0 : Int), .int .i64 (x1 : Int), .int .i64 (x2 : Int)]), Is (.bool true), AnyV, AnyV, Is (.bool true)] (by kernel_rfl) (by kernel_rfl) rfl (Below.refl B) (fun _ _ _ => Below.trans) (stable_mem ⟨fun _ _ _ h _ => h, fun _ _ _ h _ => h, fun _ _ _ h _ => h, fun _ _ _ h _ => h, fun _ _ _ h _ => h, fun _ _ _ h _ => h, fun _ _ _ h _ => h, fun _ _ _ h _ => h, fun _ _ _ h _ => h, fun _ _ _ h _ => h, fun _ _ _ h _ => h, fun _ _ _ h _ => h, trivial⟩) w2 (Below.drew (Below.refl _ _)) (⟨by rw [HBe.out]; exact Nat.le_refl _, fun e => by cases e⟩) ?_
   refine val_cons ?_ (fun v0 => ?_)
   ·intro L vs w1 hvs hat hb hI hF; try simp [factsI, Region.binds, Is] at hF
    have b3 := HBX.out w1 (HTR.out w1 hb).1
    have c0 := b3.cell 0; have c1 := b3.cell 1; have l3 := b3.lt
    simp only [List.getElem?_toArray, List.getElem?_cons_zero, List.getElem?_cons_succ] at c0 c1
    clear b3
    have HI2 := Lib.hid hI; clear hI
    go_simp
    try simp [upd]
    exact ⟨Below.refl _ _, HI2.out⟩
   refine val_cons ?_ (fun v1 => ?_)
   ·intro L vs w1 hvs hat hb hI hF; try simp [factsI, Region.binds, Is] at hF
    have HI2 := Lib.hid hI; clear hI
    go_simp
    try simp [upd]
    exact ⟨Below.refl _ _, HI2.out⟩
   refine val_cons ?_ (fun v2 => ?_)
   ·intro L vs w1 hvs hat hb hI hF; try simp [factsI, Region.binds, Is] at hF
    have HI2 := Lib.hid hI; clear hI
    go_simp
    try simp [upd]
    exact ⟨Below.refl _ _, HI2.out⟩
   refine val_cons ?_ (fun v3 => ?_)
   ·intro L vs w1 hvs hat hb hI hF; try simp [factsI, Region.binds, Is] at hF
    have HI2 := Lib.hid hI; clear hI
    go_simp
    try simp [upd]
    exact ⟨Below.refl _ _, HI2.out⟩
   refine val_cons ?_ (fun v4 => ?_)
   ·intro L vs w1 hvs hat hb hI hF; try simp [factsI, Region.binds, Is] at hF
    have c4 := (HCK.out w1 (HTR.out w1 hb).2).1; have l4 := (HCK.out w1 (HTR.out w1 hb).2).2
    have HI2 := Lib.hid hI; clear hI
    go_simp
    try simp [upd]
    exact ⟨Below.refl _ _, HI2.out⟩
   refine val_cons ?_ (fun v5 => ?_)
   ·intro L vs w1 hvs hat hb hI hF; try simp [factsI, Region.binds, Is] at hF
    have HI2 := Lib.hid hI; clear hI
    go_simp
    refine (HF.out w1 (bel_trans HB.out.1 (HTR.out w1 hb).1) _ g ((OwnI.sl H2.out.2.2.1).mono (HTR.out w1 hb).2) p HP.out.1).mono ?_
    rintro e w3 ⟨rfl, hb3⟩
    rw [HP.out.2.2.2.2.2]
    refine ⟨_, rfl, hb3.mono HI2.out.1, ?_, rfl⟩
    try simp [upd]
    exact HI2.out.bel hb3
   refine val_cons ?_ (fun v6 => ?_)
   ·intro L vs w1 hvs hat hb hI hF; try simp [factsI, Region.binds, Is] at hF
    have HI2 := Lib.hid hI; clear hI
    go_simp
    try simp [upd]
    exact ⟨Below.refl _ _, HI2.out⟩
   refine val_cons ?_ (fun v7 => ?_)
   ·intro L vs w1 hvs hat hb hI hF; try simp [factsI, Region.binds, Is] at hF
    have HI2 := Lib.hid hI; clear hI
    go_simp
    try simp [upd]
    exact ⟨Below.refl _ _, HI2.out⟩
   refine val_cons ?_ (fun v8 => ?_)
   ·intro L vs w1 hvs hat hb hI hF; try simp [factsI, Region.binds, Is] at hF
    have HI2 := Lib.hid hI; clear hI
    go_simp
    try simp [upd]
    exact ⟨Below.refl _ _, HI2.out⟩
   refine val_cons ?_ (fun v9 => ?_)
   ·intro L vs w1 hvs hat hb hI hF; try simp [factsI, Region.binds, Is] at hF
    have h10 := Lib.hid (hat.later 12 10 (by kernel_rfl))
    have hs := hI.1
    have HI2 := Lib.hid hI; clear hI
    go_simp
    try simp [upd]
    exact ⟨(bel_alloc (bel_refl _) _).mono hs, ⟨by simp; omega, fun _ => ⟨_, rfl, hs, fun e => (by rw [h10.out] at e; cases e), fun _ => ⟨_, _, _, Blk.new _ _ _⟩⟩⟩, trivial⟩
   refine val_cons ?_ (fun v10 => ?_)
   ·intro L vs w1 hvs hat hb hI hF; try simp [factsI, Region.binds, Is] at hF
    have h9 := hat.ahead 12 9 (by kernel_rfl)
    have h10 := hat.self
    have hv9 : vs 9 = v9 := hvs 9 (by omega)
    have hs := hI.1
    refine Exists.elim (hI.2 h9) (fun b5 hh => ?_)
    have hg := hh.1
    rw [hv9] at hg
    subst hg
    have hBb := hh.2.1
    refine Exists.elim (hh.2.2.2 h10) (fun y0 h => Exists.elim h (fun y1 h => Exists.elim h (fun y2 hK => ?_)))
    have BK := Lib.hid hK
    have d0 := hK.cell 0; have d1 := hK.cell 1; have d2 := hK.cell 2; have l5 := hK.lt; have f0 := hK.free 0; have f1 := hK.free 1; have f2 := hK.free 2
    simp only [List.getElem?_toArray, List.getElem?_cons_zero, List.getElem?_cons_succ] at d0 d1 d2
    clear hh h9 h10 hI hK
    go_simp
    try simp [upd]
    exact ⟨mv_store_belB (Below.refl _ _) hBb _ _ _, ⟨by simpa using hs, fun _ => ⟨b5, hv9, hBb, fun _ => mv_store BK.out _ _ _, fun e => (by cases e)⟩⟩, trivial⟩
   refine val_cons ?_ (fun v11 => ?_)
   ·intro L vs w1 hvs hat hb hI hF; try simp [factsI, Region.binds, Is] at hF
    have HI2 := Lib.hid hI; clear hI
    go_simp
    try simp [upd]
    exact ⟨Below.refl _ _, HI2.out⟩
   refine val_nil ?_
   intro vs w1 hvs hb hI hF
   simp [Is, Nat.forall_lt_succ_right] at hF
   have e0 := hF.1.1.1.1.1.1.1.1.1.1.1
   have e1 := hF.1.1.1.1.1.1.1.1.1.1.2
   have e2 := hF.1.1.1.1.1.1.1.1.1.2
   have e3 := hF.1.1.1.1.1.1.1.1.2
   have e4 := hF.1.1.1.1.1.1.1.2
   have e5 := hF.1.1.1.1.1.1.2
   have e6 := hF.1.1.1.1.1.2
   have e7 := hF.1.1.1.1.2
   have e8 := hF.1.1.1.2
   have e9 := hF.1.1.2
   have e10 := hF.1.2
   have e11 := hF.2
   clear hF
   simp only [Act.put, List.setIfInBounds_toArray, List.set_cons_succ, List.set_cons_zero, e0, e1, e2, e3, e4, e5, e6, e7, e8, e11]
   clear e0 e1 e2 e3 e4 e5 e6 e7 e8 e11
   have hv9 : vs 9 = v9 := hvs 9 (by omega)
   have hK9 := hI.2 rfl
   rw [hv9] at hK9
   obtain ⟨b9, rfl, hB9, hK9, -⟩ := hK9
   have hK9 := hK9 rfl
   have HZ := Lib.hid (And.intro (HTR.out _ hb).1 (And.intro (own_bel H2.out.2.2.1 (HTR.out _ hb).2) (And.intro (own_bel H2.out.2.2.2 (HTR.out _ hb).2) hK9)))
   have c4 := (HCK.out w1 (HTR.out w1 hb).2).1; have l4 := (HCK.out w1 (HTR.out w1 hb).2).2
   have hbs1 : wb.heap.size ≤ w1.heap.size := HZ.out.1.size
   have hx := HZ.out.2.1
   have HX0 := Lib.hid hx
   try unfold OwnI at hx
   rw [intsL_length] at hx
   have hg12 : g.length ≤ 12 := by have := HI.out.2.1; omega
   have HX := Lib.hid hx; clear hx
   clear hb hI hvs e9 e10 hv9 hK9 hB9
   go_upto_region 8 with (first
    | (at_builtin; refine wpList_append_own _ rfl _ _ 23 rfl wb.heap.size 3 i0 (.int .i64 0) 1 8 Tryz.underlying23 HI0.out.1 HI0.out.2.1 HI0.out.2.2.1 HI0.out.2.2.2 rfl (by decide) _ _ _ rfl (HX.out.alloc _) ⟨w1.heap.size, 0, none⟩ 1 1 [.int .i64 (p : Int)] rfl rfl (cell_one_new _ _ _) (fun x hx => by simp at hx; subst hx; rfl) (by unfold maxLen; omega) (by omega) (by simp; omega) ?_; intro v' w7 hown' hgrow7 hnil7))
   have hR := HX.out.alloc (.cells #[.int .i64 (p : Int)] 3)
   have hb7 : Below wb.heap.size w1 w7 := ((bel_alloc (bel_refl w1) (.cells #[.int .i64 (p : Int)] 3)).mono hbs1).grown hgrow7 (by simp; omega) (fun j hj => ((HX.out.alloc (.cells #[.int .i64 (p : Int)] 3)).lt j hj).1)
   have hml := own_keptT (HZ.out.2.2.1.alloc _) hR (by decide) hgrow7
   have hbk := (HZ.out.2.2.2.alloc (.cells #[.int .i64 (p : Int)] 3)).gb hgrow7 (fun e => by
    obtain ⟨_, h | ⟨g2, cap2, cur2, hv2, _, hh2, _⟩⟩ := hR
    ·rw [h.1] at e; cases e
    ·rw [hv2] at e
     have e' : b9 = g2 := Option.some.inj e
     have := (HZ.out.2.2.2.alloc (.cells #[.int .i64 (p : Int)] 3))
     unfold Blk at this
     rw [e', hh2] at this
     injection this with h1
     injection h1 with _ h2
     exact absurd h2 (by decide))
   have k0 := hbk.cell 0; have k1 := hbk.cell 1; have k2 := hbk.cell 2; have l9 := hbk.lt
   simp only [List.getElem?_toArray, List.getElem?_cons_zero, List.getElem?_cons_succ] at k0 k1 k2
   have hs7 : wb.heap.size ≤ w7.heap.size := Nat.le_trans hbs1 hb7.size
   have hml12 : ml.length ≤ 12 := by have := HI.out.2.2.1; omega
   have HY := Lib.hid (And.intro hml (And.intro hown' hb7))
   clear hml hown' hb7 hbk hR hgrow7 hnil7
   go_wp2_with (first
    | (at_builtin; refine wpList_append_own _ rfl _ _ 43 rfl wb.heap.size 25 i1 _ 3 24 Tryz.underlying43 HI1.out.1 HI1.out.2.1 HI1.out.2.2.1 HI1.out.2.2.2 rfl (by decide) _ _ _ rfl (HY.out.1.alloc _) ⟨w7.heap.size, 0, none⟩ 1 1 (mvL (x0, x1, x2)) rfl rfl (blk_news (Blk.new w7 _ 25)) (fun y hy => by simp [mvL] at hy; rcases hy with rfl | rfl | rfl <;> rfl) (by unfold maxLen; omega) (by omega) (by simp; omega) ?_; intro v8 w8 hown8 hgrow8 hnil8))
   have hR := HY.out.1.alloc (.cells (mvL (x0, x1, x2)).toArray 25)
   have hb8 : Below wb.heap.size w7 w8 := ((bel_alloc (bel_refl w7) _).mono hs7).grown hgrow8 (by simp; omega) (fun j hj => (hR.lt j hj).1)
   have hg8 := own_keptT (HY.out.2.1.alloc _) hR (by decide) hgrow8
   obtain ⟨pv, cv, hv, _, _⟩ := own_shape' HY.out.2.1
   refine ⟨⟨_, g ++ [p], ml ++ [(x0, x1, x2)], by rw [hv, List.length_append]; rfl, Lib.hid ⟨HE.out, ?_, ?_, HP.out.2.1, HP.out.2.2.1, ?_, ?_, HZ.out.1.trans (HY.out.2.2.trans hb8)⟩⟩, ?_⟩
   ·have h1 := HP.out.2.2.2.2.1; have h2 := HI.out.2.1; simp; omega
   ·have := HI.out.2.2.1; simp [this]
   ·unfold OwnI
    rw [intsL_length, List.length_append]
    unfold intsL at *
    rw [List.map_append, List.map_append]
    exact hg8
   ·unfold OwnM
    rw [List.length_append, List.map_append, List.flatten_append]
    simpa using hown8
   ·rw [hv]
    show 12 - (g.length + 1) < 12 - n6
    have h1 := HP.out.2.2.2.1; have h2 := HN6.out; simp at h1; omega
end Go.Proofs.YtlbhjikkpbknnaaGreatDoor
end
