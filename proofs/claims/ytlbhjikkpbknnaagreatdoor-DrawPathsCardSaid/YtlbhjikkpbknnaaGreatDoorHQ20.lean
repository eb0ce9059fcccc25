import Derived.Test.YtlbhjikkpbknnaaGreatDoorHQ19
/-
  Given contracts of functions of the program, and laws for them, one behind the other.
-/
set_option linter.unusedVariables false
set_option linter.unusedSimpArgs false
set_option linter.unusedSectionVars false
section
namespace Go.Proofs.YtlbhjikkpbknnaaGreatDoor
open Go.RowKit Go.Rel Go.Draw
set_option maxRecDepth 100000
/-! comes, locked; First, CheckLock, Lock of both -/
theorem WaysR.sls {w : World} {mv nv : Value} {m : List Sol} (h : WaysR w mv nv m) : ∃ bm nm cm bn nn cn, mv = .slice bm nm cm ∧ nv = .slice bn nn cn := by
 obtain ⟨⟨us, h1, _, _⟩, vs, k1, _, _⟩ := h
 obtain ⟨bm, cm, hmv, -, -⟩ := vals_open h1
 obtain ⟨bn, cn, hnv, -, -⟩ := vals_open k1
 exact ⟨_, _, _, _, _, _, hmv, hnv⟩
theorem ints_shape {w : World} {v : Value} {l : List Int} (h : SlI w v l) : ∃ b c, v = .slice b l.length c := by
 obtain ⟨b, c, hv, _⟩ := ints_open h
 exact ⟨b, c, hv⟩
set_option maxHeartbeats 8000000 in
theorem comesR_spec {w : World} {mv nv ov : Value} {m : List Sol} {of : List Nat} (HW : WaysR w mv nv m) (HO : SlI w ov (intsL of)) (hof : ∀ p ∈ of, p < m.length) (hm : m.length ≤ 12) (hlen : of.length ≤ 1000) : Calls Tryz.prog 87 #[.agg #[mv, nv], ov] w fun e w' => Below w.heap.size w w' ∧ e = .returned (.bool ((greedyF m of 12 [] []).1.length == of.length)) := by
 obtain ⟨bm, nm, cm, bn, nn, cn, rfl, rfl⟩ := HW.sls
 obtain ⟨bo, co, rfl⟩ := ints_shape HO
 rw [intsL_length] at HO ⊢
 obtain ⟨A, hA⟩ : ∃ A, A = greedyF m of 12 [] [] := ⟨_, rfl⟩
 have HG := Lib.hid fun W (h : Below w.heap.size w W) => greedy_spec (HW.mono h) (HO.mono h) hof hm hlen
 simp only [← hA] at HG
 rw [← hA]
 obtain ⟨K, hK⟩ : ∃ K, K = of.length := ⟨_, rfl⟩
 rw [← hK] at HG ⊢
 clear hA HW HO hof hm hlen hK
 go_enter Tryz.func87, Tryz.ntmps87
 go_wp2_with fail
 have hb1 : Below w.heap.size w (w.alloc (.cells #[.slice bm nm cm, .slice bn nn cn] 111)) := bel_alloc (bel_refl _) _
 refine (HG.out _ hb1).mono ?_
 rintro e w2 ⟨hb2, a, b, rfl, ha, _⟩
 obtain ⟨pa, na, ca, hua⟩ := own_shapeN ha
 subst hua
 have hna : na = A.1.length := by
  obtain ⟨_, _, _, he, hn, _⟩ := Sl.out (OwnI.sl ha)
  simp only [Value.slice.injEq] at he
  rw [he.2.1, hn]; simp [intsL]
 have HZ := Lib.hid (And.intro (bel_trans hb1 hb2) hna)
 clear hb1 hb2 ha hna
 go_wp2_with fail
 go_ret
 refine ⟨HZ.out.1, ret_bool ?_⟩
 rw [HZ.out.2, Bool.eq_iff_iff]; simp only [beq_iff_eq]; omega
theorem leftI_list {n : Nat} (hn : n ≤ 12) (S : U) : leftI n (intsL (listU S)) = listU (allU n &&& ~~~S) := by
 have h := left_list hn (l := listU S) (fun i hi => List.mem_range.1 (List.mem_filter.1 hi).1)
 rw [setF_list] at h
 rw [h]
 unfold leftI
 congr 1; funext i
 rw [intsL_contains]
set_option maxHeartbeats 8000000 in
theorem lockedR_spec {w : World} {mv nv ov : Value} {m : List Sol} {S : U} {a : Option Addr} {n c : Nat} (hnm : n = m.length) (HW : WaysR w mv nv m) (HO : SlI w ov (intsL (listU S))) (hg : goodM m = true) (hm : m.length ≤ 12) (hS : Sub S (allU m.length)) : Calls Tryz.prog 103 #[.agg #[mv, nv], .slice a n c, ov] w fun e w' => Below w.heap.size w w' ∧ e = .returned (.bool (locksM m S)) := by
 rw [← locked_ref (good_apart hg) hm hS]
 obtain ⟨bm, nm, cm, bn, nn, cn, rfl, rfl⟩ := HW.sls
 obtain ⟨bo, co, rfl⟩ := ints_shape HO
 rw [intsL_length] at HO ⊢
 have hof : ∀ p ∈ listU S, p < m.length := fun p hp => by
  have := hS p ((listU_mem _ _).1 hp)
  rw [allU_bit _ _ (by omega)] at this
  simpa using this
 have hl64 : (listU S).length ≤ 1000 := Nat.le_trans (cardU_le S) (by omega)
 have HL := Lib.hid fun W (h : Below w.heap.size w W) => left_spec a n c (HO.mono h) (by omega)
 rw [leftI_list (by omega) S] at HL
 have HR := Lib.hid fun W (h : Below w.heap.size w W) gv (hgv : SlI W gv (intsL (listU (allU n &&& ~~~S)))) => readyR_spec (HW.mono h) (HO.mono h) hgv hof hl64
 rw [← hnm]
 obtain ⟨RL, hL⟩ : ∃ RL, RL = readyR m (listU S) (listU (allU n &&& ~~~S)) := ⟨_, rfl⟩
 rw [← hL] at HR ⊢
 have hLl : RL.length ≤ 1000 := by rw [hL]; unfold readyR; exact Nat.le_trans (List.length_filter_le _ _) hl64
 obtain ⟨Q, hQ⟩ : ∃ Q, Q = listU S := ⟨_, rfl⟩
 obtain ⟨G, hG⟩ : ∃ G, G = listU (allU n &&& ~~~S) := ⟨_, rfl⟩
 rw [← hQ] at HL HR hl64 ⊢
 rw [← hG] at HL HR
 clear HW HO hof hL hQ hG hnm hS hm hg
 obtain ⟨K, hK⟩ : ∃ K, K = Q.length := ⟨_, rfl⟩
 rw [← hK] at HL HR hl64 ⊢
 have hKe : Q.isEmpty = decide (K = 0) := by rw [hK]; cases Q <;> simp
 rw [hKe]
 clear hK hKe
 by_cases h0 : K = 0
 ·subst h0
  go_enter Tryz.func103, Tryz.ntmps103
  go_wp2_with fail
  have hb1 : Below w.heap.size w (w.alloc (.cells #[.slice bm nm cm, .slice bn nn cn] 111)) := bel_alloc (bel_refl _) _
  obtain ⟨wb, hwb⟩ : ∃ wb, wb = w.alloc (.cells #[.slice bm nm cm, .slice bn nn cn] 111) := ⟨_, rfl⟩
  rw [← hwb] at hb1 ⊢
  have HB := Lib.hid hb1
  clear hwb hb1
  refine wp_region_val Grows (fun _ _ _ => True) [Is (.slice bo 0 co), Is (.int .i64 0), Is (.bool false), Is (.bool false), AnyV, AnyV, AnyV, AnyV, AnyV, AnyV, AnyV, AnyV, Is (.bool false), Is (.bool false)] (by kernel_rfl) (by kernel_rfl) rfl Grows.refl (fun _ _ _ => Grows.trans) (stable_mem ⟨fun _ _ _ h _ => h, fun _ _ _ h _ => h, fun _ _ _ h _ => h, fun _ _ _ h _ => h, fun _ _ _ h _ => h, fun _ _ _ h _ => h, fun _ _ _ h _ => h, fun _ _ _ h _ => h, fun _ _ _ h _ => h, fun _ _ _ h _ => h, fun _ _ _ h _ => h, fun _ _ _ h _ => h, fun _ _ _ h _ => h, fun _ _ _ h _ => h, trivial⟩) wb (Below.drew (Below.refl _ _)) trivial ?_
  refine val_cons ?_ (fun v0 => ?_)
  ·intro L vs w1 hvs hat hb hI hF; try simp [factsI, Region.binds, Is] at hF
   have hc := (Grows.cells hb).1
   clear hI
   go_simp
   try simp [upd]
   try first | exact Grows.refl _ | exact trivial | exact ⟨Grows.refl _, trivial⟩
  refine val_cons ?_ (fun v1 => ?_)
  ·intro L vs w1 hvs hat hb hI hF; try simp [factsI, Region.binds, Is] at hF
   have hc := (Grows.cells hb).1
   clear hI
   go_simp
   try simp [upd]
   try first | exact Grows.refl _ | exact trivial | exact ⟨Grows.refl _, trivial⟩
  refine val_cons ?_ (fun v2 => ?_)
  ·intro L vs w1 hvs hat hb hI hF; try simp [factsI, Region.binds, Is] at hF
   have hc := (Grows.cells hb).1
   clear hI
   go_simp
   try simp [upd]
   try first | exact Grows.refl _ | exact trivial | exact ⟨Grows.refl _, trivial⟩
  refine val_cons ?_ (fun v3 => ?_)
  ·intro L vs w1 hvs hat hb hI hF; try simp [factsI, Region.binds, Is] at hF
   have hc := (Grows.cells hb).1
   clear hI
   go_simp
   try simp [upd]
   try first | exact Grows.refl _ | exact trivial | exact ⟨Grows.refl _, trivial⟩
  refine val_cons ?_ (fun v4 => ?_)
  ·intro L vs w1 hvs hat hb hI hF; try simp [factsI, Region.binds, Is] at hF
   have hc := (Grows.cells hb).1
   clear hI
   go_simp
   try simp [upd]
   try first | exact Grows.refl _ | exact trivial | exact ⟨Grows.refl _, trivial⟩
  refine val_cons ?_ (fun v5 => ?_)
  ·intro L vs w1 hvs hat hb hI hF; try simp [factsI, Region.binds, Is] at hF
   have hc := (Grows.cells hb).1
   clear hI
   go_simp
   try simp [upd]
   try first | exact Grows.refl _ | exact trivial | exact ⟨Grows.refl _, trivial⟩
  refine val_cons ?_ (fun v6 => ?_)
  ·intro L vs w1 hvs hat hb hI hF; try simp [factsI, Region.binds, Is] at hF
   have hc := (Grows.cells hb).1
   clear hI
   go_simp
   try simp [upd]
   try first | exact Grows.refl _ | exact trivial | exact ⟨Grows.refl _, trivial⟩
  refine val_cons ?_ (fun v7 => ?_)
  ·intro L vs w1 hvs hat hb hI hF; try simp [factsI, Region.binds, Is] at hF
   have hc := (Grows.cells hb).1
   clear hI
   go_simp
   try simp [upd]
   try first | exact Grows.refl _ | exact trivial | exact ⟨Grows.refl _, trivial⟩
  refine val_cons ?_ (fun v8 => ?_)
  ·intro L vs w1 hvs hat hb hI hF; try simp [factsI, Region.binds, Is] at hF
   have hc := (Grows.cells hb).1
   clear hI
   go_simp
   try simp [upd]
   try first | exact Grows.refl _ | exact trivial | exact ⟨Grows.refl _, trivial⟩
  refine val_cons ?_ (fun v9 => ?_)
  ·intro L vs w1 hvs hat hb hI hF; try simp [factsI, Region.binds, Is] at hF
   have hc := (Grows.cells hb).1
   clear hI
   go_simp
   try simp [upd]
   try first | exact Grows.refl _ | exact trivial | exact ⟨Grows.refl _, trivial⟩
  refine val_cons ?_ (fun v10 => ?_)
  ·intro L vs w1 hvs hat hb hI hF; try simp [factsI, Region.binds, Is] at hF
   have hc := (Grows.cells hb).1
   clear hI
   go_simp
   try simp [upd]
   try first | exact Grows.refl _ | exact trivial | exact ⟨Grows.refl _, trivial⟩
  refine val_cons ?_ (fun v11 => ?_)
  ·intro L vs w1 hvs hat hb hI hF; try simp [factsI, Region.binds, Is] at hF
   have hc := (Grows.cells hb).1
   clear hI
   go_simp
   try simp [upd]
   try first | exact Grows.refl _ | exact trivial | exact ⟨Grows.refl _, trivial⟩
  refine val_cons ?_ (fun v12 => ?_)
  ·intro L vs w1 hvs hat hb hI hF; try simp [factsI, Region.binds, Is] at hF
   have hc := (Grows.cells hb).1
   clear hI
   go_simp
   try simp [upd]
   try first | exact Grows.refl _ | exact trivial | exact ⟨Grows.refl _, trivial⟩
  refine val_cons ?_ (fun v13 => ?_)
  ·intro L vs w1 hvs hat hb hI hF; try simp [factsI, Region.binds, Is] at hF
   have hc := (Grows.cells hb).1
   clear hI
   go_simp
   try simp [upd]
   try first | exact Grows.refl _ | exact trivial | exact ⟨Grows.refl _, trivial⟩
  refine val_nil ?_
  intro vs w1 hvs hb hI hF
  simp [Is, Nat.forall_lt_succ_right] at hF
  have e0 := hF.1.1.1.1.1.1.1.1.1.1.1.1.1
  have e1 := hF.1.1.1.1.1.1.1.1.1.1.1.1.2
  have e2 := hF.1.1.1.1.1.1.1.1.1.1.1.2
  have e3 := hF.1.1.1.1.1.1.1.1.1.1.2
  have e4 := hF.1.1.1.1.1.1.1.1.1.2
  have e5 := hF.1.1.1.1.1.1.1.1.2
  have e6 := hF.1.1.1.1.1.1.1.2
  have e7 := hF.1.1.1.1.1.1.2
  have e8 := hF.1.1.1.1.1.2
  have e9 := hF.1.1.1.1.2
  have e10 := hF.1.1.1.2
  have e11 := hF.1.1.2
  have e12 := hF.1.2
  have e13 := hF.2
  clear hF
  simp only [Act.put, List.setIfInBounds_toArray, List.set_cons_succ, List.set_cons_zero, e0, e1, e2, e3, e12, e13]
  clear e0 e1 e2 e3 e12 e13
  have HZ := Lib.hid (bel_trans HB.out hb)
  clear hb hI hvs e4 e5 e6 e7 e8 e9 e10 e11
  go_wp2_with fail
  go_ret
  exact ⟨HZ.out, ret_bool (by simp)⟩
 ·have h0b : (0 : Nat) < K := by omega
  have h0c : decide ((0 : Int) < (K : Int)) = true := decide_eq_true (by omega)
  have HL1 := Lib.hid (show RL.isEmpty = ((RL.length : Int) == 0) by rw [Bool.eq_iff_iff]; simp)
  go_enter Tryz.func103, Tryz.ntmps103
  go_wp2_with fail
  have hb1 : Below w.heap.size w (w.alloc (.cells #[.slice bm nm cm, .slice bn nn cn] 111)) := bel_alloc (bel_refl _) _
  have hB1 := Blk.new w #[.slice bm nm cm, .slice bn nn cn] 111
  obtain ⟨wb, hwb⟩ : ∃ wb, wb = w.alloc (.cells #[.slice bm nm cm, .slice bn nn cn] 111) := ⟨_, rfl⟩
  rw [← hwb] at hb1 hB1 ⊢
  obtain ⟨N0, hN0⟩ : ∃ N, N = w.heap.size := ⟨_, rfl⟩
  rw [← hN0] at hB1 ⊢
  have c0 := hB1.cell 0; have c1 := hB1.cell 1; have l3 := hB1.lt
  simp only [List.getElem?_toArray, List.getElem?_cons_zero, List.getElem?_cons_succ] at c0 c1
  have HB := Lib.hid (And.intro hb1 hN0)
  clear hwb hb1 hN0 hB1
  refine wp_region_val Grows (fun _ _ _ => True) [Is (.slice bo K co), Is (.int .i64 (K : Int)), Is (.bool true), Is (.bool true), Is (.agg #[.slice bm nm cm, .slice bn nn cn]), Is (.slice bo K co), Is (.slice a n c), Is (.slice bo K co), (fun u W => SlI W u (intsL G)), (fun u _ => ∃ b c, u = .slice b RL.length c), Is (.int .i64 (RL.length : Int)), Is (.bool ((RL.length : Int) == 0)), Is (.bool ((RL.length : Int) == 0)), Is (.bool ((RL.length : Int) == 0))] (by kernel_rfl) (by kernel_rfl) rfl Grows.refl (fun _ _ _ => Grows.trans) (stable_mem ⟨fun _ _ _ h _ => h, fun _ _ _ h _ => h, fun _ _ _ h _ => h, fun _ _ _ h _ => h, fun _ _ _ h _ => h, fun _ _ _ h _ => h, fun _ _ _ h _ => h, fun _ _ _ h _ => h, (fun _ _ _ h g => h.mono g), fun _ _ _ h _ => h, fun _ _ _ h _ => h, fun _ _ _ h _ => h, fun _ _ _ h _ => h, fun _ _ _ h _ => h, trivial⟩) wb (Below.drew (Below.refl _ _)) trivial ?_
  refine val_cons ?_ (fun v0 => ?_)
  ·intro L vs w1 hvs hat hb hI hF; try simp [factsI, Region.binds, Is] at hF
   have hc := (Grows.cells hb).1
   clear hI
   go_simp
   try simp [upd]
   try first | exact Grows.refl _ | exact trivial | exact ⟨Grows.refl _, trivial⟩
  refine val_cons ?_ (fun v1 => ?_)
  ·intro L vs w1 hvs hat hb hI hF; try simp [factsI, Region.binds, Is] at hF
   have hc := (Grows.cells hb).1
   clear hI
   go_simp
   try simp [upd]
   try first | exact Grows.refl _ | exact trivial | exact ⟨Grows.refl _, trivial⟩
  refine val_cons ?_ (fun v2 => ?_)
  ·intro L vs w1 hvs hat hb hI hF; try simp [factsI, Region.binds, Is] at hF
   have hc := (Grows.cells hb).1
   clear hI
   go_simp
   try simp [upd]
   try first | exact Grows.refl _ | exact trivial | exact ⟨Grows.refl _, trivial⟩
  refine val_cons ?_ (fun v3 => ?_)
  ·intro L vs w1 hvs hat hb hI hF; try simp [factsI, Region.binds, Is] at hF
   have hc := (Grows.cells hb).1
   clear hI
   go_simp
   try simp [upd]
   try first | exact Grows.refl _ | exact trivial | exact ⟨Grows.refl _, trivial⟩
  refine val_cons ?_ (fun v4 => ?_)
  ·intro L vs w1 hvs hat hb hI hF; try simp [factsI, Region.binds, Is] at hF
   have hc := (Grows.cells hb).1
   clear hI
   go_simp
   try simp [upd]
   try first | exact Grows.refl _ | exact trivial | exact ⟨Grows.refl _, trivial⟩
  refine val_cons ?_ (fun v5 => ?_)
  ·intro L vs w1 hvs hat hb hI hF; try simp [factsI, Region.binds, Is] at hF
   have hc := (Grows.cells hb).1
   clear hI
   go_simp
   try simp [upd]
   try first | exact Grows.refl _ | exact trivial | exact ⟨Grows.refl _, trivial⟩
  refine val_cons ?_ (fun v6 => ?_)
  ·intro L vs w1 hvs hat hb hI hF; try simp [factsI, Region.binds, Is] at hF
   have hc := (Grows.cells hb).1
   clear hI
   go_simp
   try simp [upd]
   try first | exact Grows.refl _ | exact trivial | exact ⟨Grows.refl _, trivial⟩
  refine val_cons ?_ (fun v7 => ?_)
  ·intro L vs w1 hvs hat hb hI hF; try simp [factsI, Region.binds, Is] at hF
   have hc := (Grows.cells hb).1
   clear hI
   go_simp
   try simp [upd]
   try first | exact Grows.refl _ | exact trivial | exact ⟨Grows.refl _, trivial⟩
  refine val_cons ?_ (fun v8 => ?_)
  ·intro L vs w1 hvs hat hb hI hF; try simp [factsI, Region.binds, Is] at hF
   go_simp
   refine (HL.out w1 (bel_trans HB.out.1 hb)).mono ?_
   rintro e w2 ⟨hb2, o, rfl, ho⟩
   exact ⟨o, rfl, hb2, ho.sl⟩
  refine val_cons ?_ (fun v9 => ?_)
  ·intro L vs w1 hvs hat hb hI hF; try simp [factsI, Region.binds, Is] at hF
   go_simp
   refine (HR.out w1 (bel_trans HB.out.1 hb) _ hF.2.2.1).mono ?_
   rintro e w2 ⟨hb2, o, rfl, ho⟩
   obtain ⟨b9, c9, h9⟩ := ints_shape ho.sl
   rw [intsL_length] at h9
   exact ⟨o, rfl, hb2, b9, c9, h9⟩
  refine val_cons ?_ (fun v10 => ?_)
  ·intro L vs w1 hvs hat hb hI hF; try simp [factsI, Region.binds, Is] at hF
   obtain ⟨⟨b9, c9, rfl⟩, h3⟩ := hF
   clear hI
   go_simp
   exact Grows.refl _
  refine val_cons ?_ (fun v11 => ?_)
  ·intro L vs w1 hvs hat hb hI hF; try simp [factsI, Region.binds, Is] at hF
   have hc := (Grows.cells hb).1
   clear hI
   go_simp
   try simp [upd]
   try first | exact Grows.refl _ | exact trivial | exact ⟨Grows.refl _, trivial⟩
  refine val_cons ?_ (fun v12 => ?_)
  ·intro L vs w1 hvs hat hb hI hF; try simp [factsI, Region.binds, Is] at hF
   have hc := (Grows.cells hb).1
   clear hI
   go_simp
   try simp [upd]
   try first | exact Grows.refl _ | exact trivial | exact ⟨Grows.refl _, trivial⟩
  refine val_cons ?_ (fun v13 => ?_)
  ·intro L vs w1 hvs hat hb hI hF; try simp [factsI, Region.binds, Is] at hF
   have hc := (Grows.cells hb).1
   clear hI
   go_simp
   try simp [upd]
   try first | exact Grows.refl _ | exact trivial | exact ⟨Grows.refl _, trivial⟩
  refine val_nil ?_
  intro vs w1 hvs hb hI hF
  simp [Is, Nat.forall_lt_succ_right] at hF
  have e0 := hF.1.1.1.1.1.1.1.1.1.1.1.1.1
  have e1 := hF.1.1.1.1.1.1.1.1.1.1.1.1.2
  have e2 := hF.1.1.1.1.1.1.1.1.1.1.1.2
  have e3 := hF.1.1.1.1.1.1.1.1.1.1.2
  have e4 := hF.1.1.1.1.1.1.1.1.1.2
  have e5 := hF.1.1.1.1.1.1.1.1.2
  have e6 := hF.1.1.1.1.1.1.1.2
  have e7 := hF.1.1.1.1.1.1.2
  have e8 := hF.1.1.1.1.1.2
  have e9 := hF.1.1.1.1.2
  have e10 := hF.1.1.1.2
  have e11 := hF.1.1.2
  have e12 := hF.1.2
  have e13 := hF.2
  clear hF
  simp only [Act.put, List.setIfInBounds_toArray, List.set_cons_succ, List.set_cons_zero, e0, e1, e2, e3, e4, e5, e6, e7, e10, e11, e12, e13]
  clear e0 e1 e2 e3 e4 e5 e6 e7 e10 e11 e12 e13
  have HZ := Lib.hid (bel_trans HB.out.1 hb)
  clear hb hI hvs e8 e9 c0 c1 l3
  go_wp2_with fail
  go_ret
  refine ⟨HZ.out, ret_bool ?_⟩
  rw [← HL1.out, show decide (K = 0) = false from decide_eq_false (by omega)]; rfl
/-! First, CheckLock, Lock: one form for both sides -/
def fstB (m : List Sol) (l : List Int) : Bool := if askE m l [] = 0 then (match setI m.length l with
 | some G => firstM m G
 | none => false) else false
theorem First_n {w : World} {v gv : Value} {m : List Sol} {l : List Int} (H : SlS w v m) (HG : SlI w gv l) (hT : Tab w) : Calls Tryz.prog 37 #[v, gv] w fun e w' => e = .returned (.tuple #[.bool (fstB m l), .int .i64 (askE m l [])]) ∧ Below w.heap.size w w' := by
 refine (First_spec H HG hT).mono ?_
 rintro e w2 ⟨hb, b, rfl, h0, h1⟩
 refine ⟨?_, hb⟩
 congr 4
 unfold fstB
 by_cases h : askE m l [] = 0
 ·obtain ⟨G, hG, hB⟩ := h0 h
  rw [if_pos h, hG, hB]
 ·rw [if_neg h, h1 h]
def lckB (m : List Sol) (l : List Int) : Bool := if errM m = 0 then lockB m l else false
theorem CheckLock_n {w : World} {v gv : Value} {m : List Sol} {l : List Int} (H : SlS w v m) (HG : SlI w gv l) : Calls Tryz.prog 35 #[v, gv] w fun e w' => e = .returned (.tuple #[.bool (lckB m l), .int .i64 (errM m)]) ∧ Below w.heap.size w w' := by
 refine (CheckLock_spec H HG).mono ?_
 rintro e w2 ⟨hb, b, rfl, h0, h1⟩
 refine ⟨?_, hb⟩
 congr 4
 unfold lckB
 by_cases h : errM m = 0
 ·rw [if_pos h, h0 h]
 ·rw [if_neg h, h1 h]
def lckL (m : List Sol) : List Int := if errM m = 0 then intsL (listU (roundsM m).2) else []
theorem Lock_n {w : World} {v : Value} {m : List Sol} (H : SlS w v m) (hT : Tab w) : Calls Tryz.prog 31 #[v] w fun e w' => ∃ u, e = .returned (.tuple #[u, .int .i64 (errM m)]) ∧ SlI w' u (lckL m) ∧ Below w.heap.size w w' := by
 refine (Lock_nil H hT).mono ?_
 rintro e w2 ⟨hb, u, rfl, h0, h1⟩
 refine ⟨u, rfl, ?_, hb⟩
 unfold lckL
 by_cases h : errM m = 0
 ·rw [if_pos h]; exact (h0 h).sl
 ·rw [if_neg h, h1 h]; exact sl_nil
theorem set_lt {m : List Sol} (hm : m.length ≤ 12) {S : U} (hS : Sub S (allU m.length)) : ∀ p ∈ listU S, p < m.length := fun p hp => by
 have := hS p ((listU_mem _ _).1 hp)
 rw [allU_bit _ _ (by omega)] at this
 simpa using this
theorem set_len (S : U) : (listU S).length ≤ 1000 := Nat.le_trans (cardU_le S) (by omega)
set_option maxHeartbeats 8000000 in
theorem refFirst_n {w : World} {v gv : Value} {m : List Sol} {l : List Int} (H : SlS w v m) (HG : SlI w gv l) : Calls Tryz.prog 38 #[v, gv] w fun e w' => e = .returned (.tuple #[.bool (fstB m l), .int .i64 (askE m l [])]) ∧ Below w.heap.size w w' := by
 obtain ⟨E, hE⟩ : ∃ E, E = askE m l [] := ⟨_, rfl⟩
 obtain ⟨R, hR⟩ : ∃ R, R = fstB m l := ⟨_, rfl⟩
 rw [← hE, ← hR]
 unfold fstB at hR
 rw [← hE] at hR
 rw [askE_nil] at hE
 obtain ⟨F, hF⟩ : ∃ F, F = errM m := ⟨_, rfl⟩
 have H1 := Lib.hid (refMould_spec H)
 rw [← hF] at hE H1
 obtain ⟨ai, nn, c, rfl, hnn, hc, hcm⟩ := H.out
 subst hnn
 have HH := Lib.hid (And.intro H (And.intro HG (And.intro hE (And.intro hR hF))))
 clear H HG hE hR hF
 go_enter Tryz.func38, Tryz.ntmps38
 go_wp2_with fail
 refine H1.out.mono ?_
 rintro e w2 ⟨rfl, hb2⟩
 have HB := Lib.hid hb2
 clear hb2
 by_cases hF0 : F = 0
 ·obtain ⟨h12, hg⟩ := errM_zero.1 (HH.out.2.2.2.2.symm.trans hF0)
  have HIS := Lib.hid (IsSet_spec (HH.out.2.1.mono HB.out) h12)
  have HQ := Lib.hid (And.intro h12 hg)
  subst hF0
  clear h12 hg
  go_wp2_with fail
  refine HIS.out.mono ?_
  rintro e w3 ⟨rfl, hb3⟩
  have H3 := Lib.hid (bel_trans HB.out hb3)
  clear hb3 HIS
  cases hS : setI m.length l with
  | none =>
   have HS := Lib.hid hS; clear hS
   rw [Option.isSome_none]
   have hE1 : E = 1 := by rw [HH.out.2.2.1, HS.out]; rfl
   have HE := Lib.hid hE1; clear hE1
   go_wp2_with fail
   refine bodyPost_ret (v := .tuple #[.bool false, .int .i64 1]) (by simp [results, Tryz.results38, go_sem]) rfl ⟨?_, H3.out⟩
   rw [HH.out.2.2.2.1, HE.out, if_neg (by decide)]
  | some G =>
   have HS := Lib.hid hS; clear hS
   rw [Option.isSome_some]
   have hE1 : E = 0 := by rw [HH.out.2.2.1, HS.out]; rfl
   have HE := Lib.hid hE1; clear hE1
   have HWO := Lib.hid (WaysOf_spec (HH.out.1.mono H3.out) HQ.out.1)
   go_wp2_with fail
   refine HWO.out.mono ?_
   rintro e w4 ⟨hb4, mv, nv, rfl, hW⟩
   have hSub := setI_sub HQ.out.1 HS.out
   have hgv : SlI w4 gv (intsL (listU G)) := by rw [← setI_list HQ.out.1 HS.out]; exact HH.out.2.1.mono (bel_trans H3.out hb4)
   have HCM := Lib.hid (comesR_spec hW hgv (set_lt HQ.out.1 hSub) HQ.out.1 (set_len G))
   rw [comes_ref (good_apart HQ.out.2) HQ.out.1 hSub] at HCM
   have H4 := Lib.hid (bel_trans H3.out hb4)
   clear hb4 hW HWO hSub hgv
   go_wp2_with fail
   refine HCM.out.mono ?_
   rintro e w5 ⟨hb5, rfl⟩
   have H5 := Lib.hid (bel_trans H4.out hb5)
   clear hb5 HCM
   go_wp2_with fail
   refine bodyPost_ret (v := .tuple #[.bool (firstM m G), .int .i64 0]) (by simp [results, Tryz.results38, go_sem]) rfl ⟨?_, H5.out⟩
   rw [HH.out.2.2.2.1, HE.out, if_pos rfl, HS.out]
 ·have h1 : ¬ (F = 0) := hF0
  have hE1 : E = F := by rw [HH.out.2.2.1, if_pos hF0]
  have HE := Lib.hid hE1; clear hE1
  go_wp2_with fail
  refine bodyPost_ret (v := .tuple #[.bool false, .int .i64 F]) (by simp [results, Tryz.results38, go_sem]) rfl ⟨?_, HB.out⟩
  rw [HH.out.2.2.2.1, HE.out, if_neg hF0]
set_option maxHeartbeats 8000000 in
theorem refCheckLock_n {w : World} {v gv : Value} {m : List Sol} {l : List Int} (H : SlS w v m) (HG : SlI w gv l) : Calls Tryz.prog 36 #[v, gv] w fun e w' => e = .returned (.tuple #[.bool (lckB m l), .int .i64 (errM m)]) ∧ Below w.heap.size w w' := by
 obtain ⟨R, hR⟩ : ∃ R, R = lckB m l := ⟨_, rfl⟩
 obtain ⟨F, hF⟩ : ∃ F, F = errM m := ⟨_, rfl⟩
 rw [← hR, ← hF]
 unfold lckB lockB at hR
 have H1 := Lib.hid (refMould_spec H)
 rw [← hF] at H1 hR
 obtain ⟨ai, nn, c, rfl, hnn, hc, hcm⟩ := H.out
 subst hnn
 have HH := Lib.hid (And.intro H (And.intro HG (And.intro hR hF)))
 clear H HG hR hF
 go_enter Tryz.func36, Tryz.ntmps36
 go_wp2_with fail
 refine H1.out.mono ?_
 rintro e w2 ⟨rfl, hb2⟩
 have HB := Lib.hid hb2
 clear hb2
 by_cases hF0 : F = 0
 ·obtain ⟨h12, hg⟩ := errM_zero.1 (HH.out.2.2.2.symm.trans hF0)
  have HIS := Lib.hid (IsSet_spec (HH.out.2.1.mono HB.out) h12)
  have HQ := Lib.hid (And.intro h12 hg)
  subst hF0
  clear h12 hg
  go_wp2_with fail
  refine HIS.out.mono ?_
  rintro e w3 ⟨rfl, hb3⟩
  have H3 := Lib.hid (bel_trans HB.out hb3)
  clear hb3 HIS
  cases hS : setI m.length l with
  | none =>
   have HS := Lib.hid hS; clear hS
   rw [Option.isSome_none]
   go_wp2_with fail
   refine bodyPost_ret (v := .tuple #[.bool false, .int .i64 0]) (by simp [results, Tryz.results36, go_sem]) rfl ⟨?_, H3.out⟩
   rw [HH.out.2.2.1, if_pos trivial, HS.out]
  | some G =>
   have HS := Lib.hid hS; clear hS
   rw [Option.isSome_some]
   have HWO := Lib.hid (WaysOf_spec (HH.out.1.mono H3.out) HQ.out.1)
   go_wp2_with fail
   refine HWO.out.mono ?_
   rintro e w4 ⟨hb4, mv, nv, rfl, hW⟩
   have hSub := setI_sub HQ.out.1 HS.out
   have hgv : SlI w4 gv (intsL (listU G)) := by rw [← setI_list HQ.out.1 HS.out]; exact HH.out.2.1.mono (bel_trans H3.out hb4)
   have HCM := Lib.hid (lockedR_spec (a := ai) (c := c) rfl hW hgv HQ.out.2 HQ.out.1 hSub)
   have H4 := Lib.hid (bel_trans H3.out hb4)
   clear hb4 hW HWO hSub hgv
   go_wp2_with fail
   refine HCM.out.mono ?_
   rintro e w5 ⟨hb5, rfl⟩
   have H5 := Lib.hid (bel_trans H4.out hb5)
   clear hb5 HCM
   go_wp2_with fail
   refine bodyPost_ret (v := .tuple #[.bool (locksM m G), .int .i64 0]) (by simp [results, Tryz.results36, go_sem]) rfl ⟨?_, H5.out⟩
   rw [HH.out.2.2.1, if_pos trivial, HS.out]
 ·have h1 : ¬ (F = 0) := hF0
  go_wp2_with fail
  refine bodyPost_ret (v := .tuple #[.bool false, .int .i64 F]) (by simp [results, Tryz.results36, go_sem]) rfl ⟨?_, HB.out⟩
  rw [HH.out.2.2.1, if_neg hF0]
theorem greedy_lt {m : List Sol} {of : List Nat} : ∀ (n : Nat) (g : List Nat) (ml : List Mv), (∀ p ∈ g, p ∈ of) → ∀ p ∈ (greedyF m of n g ml).1, p ∈ of
 | 0, g, ml, h => h
 | n + 1, g, ml, h => by
  rw [greedyF]
  cases hr : readyR m of g with
  | nil => exact h
  | cons p rest =>
   refine greedy_lt n _ _ fun q hq => ?_
   rcases List.mem_append.1 hq with h' | h'
   ·exact h q h'
   ·simp at h'; subst h'
    have : q ∈ readyR m of g := by rw [hr]; exact List.mem_cons_self
    exact (List.mem_filter.1 this).1
theorem lock_left {m : List Sol} (hg : goodM m = true) (hm : m.length ≤ 12) : leftI m.length (intsL (greedyF m (List.range m.length) 12 [] []).1) = listU (roundsM m).2 := by
 have h64 : ∀ i ∈ (greedyF m (List.range m.length) 12 [] []).1, i < 64 := fun i hi => by
  have := List.mem_range.1 (greedy_lt 12 [] [] (fun p hp => by cases hp) i hi); omega
 rw [rounds_left hm]
 unfold greatL
 rw [← greedy_last (good_apart hg) hm, all_list hm, left_list hm h64]
 unfold leftI
 congr 1; funext i
 rw [intsL_contains]
set_option maxHeartbeats 8000000 in
theorem refLock_n {w : World} {v : Value} {m : List Sol} (H : SlS w v m) : Calls Tryz.prog 32 #[v] w fun e w' => ∃ u, e = .returned (.tuple #[u, .int .i64 (errM m)]) ∧ SlI w' u (lckL m) ∧ Below w.heap.size w w' := by
 obtain ⟨R, hR⟩ : ∃ R, R = lckL m := ⟨_, rfl⟩
 obtain ⟨F, hF⟩ : ∃ F, F = errM m := ⟨_, rfl⟩
 rw [← hR, ← hF]
 unfold lckL at hR
 have H1 := Lib.hid (refMould_spec H)
 rw [← hF] at H1 hR
 obtain ⟨ai, nn, c, rfl, hnn, hc, hcm⟩ := H.out
 subst hnn
 have HH := Lib.hid (And.intro H (And.intro hR hF))
 clear H hR hF
 go_enter Tryz.func32, Tryz.ntmps32
 go_wp2_with fail
 refine H1.out.mono ?_
 rintro e w2 ⟨rfl, hb2⟩
 have HB := Lib.hid hb2
 clear hb2
 by_cases hF0 : F = 0
 ·obtain ⟨h12, hg⟩ := errM_zero.1 (HH.out.2.2.symm.trans hF0)
  have HQ := Lib.hid (And.intro h12 hg)
  have HWO := Lib.hid (WaysOf_spec (HH.out.1.mono HB.out) h12)
  subst hF0
  clear h12 hg
  go_wp2_with fail
  refine HWO.out.mono ?_
  rintro e w4 ⟨hb4, mv, nv, rfl, hW⟩
  have H4 := Lib.hid (And.intro (bel_trans HB.out hb4) hW)
  clear hb4 hW HWO
  have HAL := Lib.hid (all_ref (w := w4) ai m.length c (by have := HQ.out.1; omega))
  go_wp2_with fail
  refine HAL.out.mono ?_
  rintro e w5 ⟨hb5, oa, rfl, hoa⟩
  have HGR := Lib.hid (greedy_spec (H4.out.2.mono hb5) hoa.sl (fun p hp => List.mem_range.1 hp) HQ.out.1 (by rw [List.length_range]; have := HQ.out.1; omega))
  have H5 := Lib.hid (bel_trans H4.out.1 hb5)
  clear hb5 hoa HAL
  go_wp2_with fail
  refine HGR.out.mono ?_
  rintro e w6 ⟨hb6, a, b, rfl, ha, -⟩
  have HLF := Lib.hid (left_spec (w := w6) ai m.length c ha.sl (by have := HQ.out.1; omega))
  rw [lock_left HQ.out.2 HQ.out.1] at HLF
  have H6 := Lib.hid (bel_trans H5.out hb6)
  clear hb6 ha HGR
  go_wp2_with fail
  refine HLF.out.mono ?_
  rintro e w7 ⟨hb7, o, rfl, ho⟩
  have H7 := Lib.hid (And.intro (bel_trans H6.out hb7) ho)
  clear hb7 ho HLF
  go_wp2_with fail
  refine bodyPost_ret (v := .tuple #[o, .int .i64 0]) (by simp [results, Tryz.results32, go_sem]) rfl ⟨_, rfl, ?_, H7.out.1⟩
  rw [HH.out.2.1, if_pos trivial]; exact H7.out.2.sl
 ·have h1 : ¬ (F = 0) := hF0
  go_wp2_with fail
  refine bodyPost_ret (v := .tuple #[.slice none 0 0, .int .i64 F]) (by simp [results, Tryz.results32, go_sem]) rfl ⟨_, rfl, ?_, HB.out⟩
  rw [HH.out.2.1, if_neg hF0]; exact sl_nil
end Go.Proofs.YtlbhjikkpbknnaaGreatDoor
end
section
namespace Go.Proofs.YtlbhjikkpbknnaaGreatDoor
open Go.RowKit Go.Rel Go.Draw
set_option maxRecDepth 100000
/-! sets by their numbers, before -/
theorem bitAt_i {n i : Nat} (hn : n < 4096) : (bits .and .i64 ((n : Int) / (2 : Int) ^ i) 1 == 1) = (BitVec.ofNat 64 n).getLsbD i := by
 rw [← bitAt1_u, uI_ofNat (by omega)]
 congr 1
 have e1 : (2 : Int) ^ i = ((2 ^ i : Nat) : Int) := by rw [Int.natCast_pow]; rfl
 rw [← uI_ofNat (show n < 18446744073709551616 by omega), e1, shr_u]
 generalize (BitVec.ofNat 64 n) >>> i = q
 have e2 := bits_and_u q 1
 rw [uI_one] at e2
 rw [e2]
 show IntKind.i64.wrap ((BitVec.ofInt 64 (uI q) &&& BitVec.ofInt 64 1).toNat : Int) = _
 have e3 : BitVec.ofInt 64 1 = (1 : U) := by decide
 rw [ofInt_uI, e3]
 have h1 : (q &&& 1).toNat ≤ 1 := by rw [BitVec.toNat_and]; exact Nat.and_le_right
 unfold uI
 exact IntWalk.i64_in _ (by omega)
def setK (n k : Nat) : List Nat := (List.range k).filter fun i => (BitVec.ofNat 64 n).getLsbD i
theorem setK_succ (n k : Nat) : setK n (k + 1) = setK n k ++ (if (BitVec.ofNat 64 n).getLsbD k then [k] else []) := by
 unfold setK
 rw [List.range_succ, List.filter_append]
 congr 1
 cases h : (BitVec.ofNat 64 n).getLsbD k <;> simp only [List.filter_cons, List.filter_nil, h] <;> rfl
theorem setK_len (n k : Nat) : (setK n k).length ≤ k := by
 unfold setK
 have := List.length_filter_le (fun i => (BitVec.ofNat 64 n).getLsbD i) (List.range k)
 simpa using this
theorem setK_all {n : Nat} (hn : n < 4096) : setK n 12 = listU (BitVec.ofNat 64 n) := by
 have hs : Sub (BitVec.ofNat 64 n) (allU 12) := (sub_lt (by omega) _).2 (by rw [BitVec.toNat_ofNat]; omega)
 rw [listU_small hs]; rfl
set_option maxHeartbeats 4000000 in
theorem setR_spec {w : World} {n : Nat} (hn : n < 4096) : Calls Tryz.prog 86 #[.int .i64 (n : Int)] w fun e w' => Below w.heap.size w w' ∧ ∃ o, e = .returned o ∧ OwnI w' w.heap.size o (intsL (listU (BitVec.ofNat 64 n))) := by
 obtain ⟨i0, hi, hz0, hz1, hz2⟩ := info_parts infoInt
 have HI0 := Lib.hid (And.intro hi (And.intro hz0 (And.intro hz1 hz2))); clear hi hz0 hz1 hz2
 have HN := Lib.hid hn
 clear hn
 go_enter Tryz.func86, Tryz.ntmps86
 go_wp2_with fail
 go_loopw [3, 4] (fun ov iv wx => ∃ (k : Nat), k ≤ 12 ∧ iv = .int .i64 k ∧ Hid (OwnI wx w.heap.size ov (intsL (setK n k)) ∧ Below w.heap.size w wx)) (fun _ iv _ => 12 - (intOf iv).toNat)
 case atStart => exact ⟨0, by omega, rfl, Lib.hid ⟨World.ownsRow_nil _ _ _ _, Below.refl _ _⟩⟩
 case round =>
  obtain ⟨k, hk, rfl, HI⟩ := hrel
  by_cases hlt : k < 12
  ·have hd : decide ((k : Int) < 12) = true := decide_eq_true (by omega)
   have et := bitAt_i (i := k) HN.out
   have em : min k 64 = k := Nat.min_eq_left (by omega)
   have hx := HI.out.1
   have hbs : w.heap.size ≤ wr.heap.size := HI.out.2.size
   obtain ⟨p6, n6, c6, hu6⟩ := own_shapeN hx
   subst hu6
   try unfold OwnI at hx
   rw [intsL_length] at hx
   have hlen := setK_len n k
   have HX := Lib.hid hx; clear hx
   cases hb : (BitVec.ofNat 64 n).getLsbD k
   ·rw [hb] at et
    have HBB := Lib.hid hb; clear hb
    go_wp2_with fail
    refine ⟨⟨k + 1, by omega, by simp, Lib.hid ⟨?_, HI.out.2⟩⟩, by simp [intOf]; omega⟩
    rw [setK_succ, HBB.out]
    simpa using HI.out.1
   ·rw [hb] at et
    have HBB := Lib.hid hb; clear hb
    go_wp2_with (first
     | (at_builtin; refine wpList_append_own _ rfl _ _ 23 rfl w.heap.size 3 i0 (.int .i64 0) 1 8 Tryz.underlying23 HI0.out.1 HI0.out.2.1 HI0.out.2.2.1 HI0.out.2.2.2 rfl (by decide) _ _ _ rfl (HX.out.alloc _) ⟨wr.heap.size, 0, none⟩ 1 1 [.int .i64 (k : Int)] rfl rfl (cell_one_new _ _ _) (fun x hx => by simp at hx; subst hx; rfl) (by unfold maxLen; omega) (by omega) (by simp; omega) ?_; intro v' w7 hown' hgrow7 hnil7))
    have hb7 : Below w.heap.size wr w7 := ((bel_alloc (bel_refl wr) (.cells #[.int .i64 (k : Int)] 3)).mono hbs).grown hgrow7 (by simp; omega) (fun j hj => ((HX.out.alloc (.cells #[.int .i64 (k : Int)] 3)).lt j hj).1)
    refine ⟨⟨k + 1, by omega, by simp, Lib.hid ⟨?_, HI.out.2.trans hb7⟩⟩, by simp [intOf]; omega⟩
    rw [setK_succ, HBB.out, if_pos rfl]
    unfold OwnI
    rw [intsL_length, List.length_append]
    unfold intsL at *
    rw [List.map_append, List.map_append]
    exact hown'
  ·have hd : decide ((k : Int) < 12) = false := decide_eq_false (by omega)
   have HK := Lib.hid (show k = 12 by omega)
   go_wp2_with fail
   go_ret
   have h := HI.out.1
   rw [HK.out, setK_all HN.out] at h
   exact ⟨HI.out.2, _, rfl, h⟩
theorem lex_drop {l r : List Nat} {k x y : Nat} (hx : l[k]? = some x) (hy : r[k]? = some y) : lexL (l.drop k) (r.drop k) = if x = y then lexL (l.drop (k + 1)) (r.drop (k + 1)) else decide (x < y) := by
 rw [drop_atN hx, drop_atN hy]; rfl
theorem intsL_get {l : List Nat} {k x : Nat} (h : l[k]? = some x) : (intsL l)[k]? = some (x : Int) := by unfold intsL; rw [List.getElem?_map, h]; rfl
set_option maxHeartbeats 8000000 in
theorem before_spec {w : World} {v u : Value} {l r : List Nat} (h : SlI w v (intsL l)) (hr : SlI w u (intsL r)) : Calls Tryz.prog 89 #[v, u] w fun e w' => e = .returned (.bool (beforeL l r)) ∧ Below w.heap.size w w' := by
 obtain ⟨b, cc, rfl, hmx, hH⟩ := ints_open h
 obtain ⟨b2, cc2, rfl, hmx2, hH2⟩ := ints_open hr
 rw [intsL_length] at hmx hmx2
 rw [intsL_length, intsL_length]
 have HH := Lib.hid (And.intro hH hH2)
 clear hH hH2 h hr
 obtain ⟨A, hA⟩ : ∃ A, A = beforeL l r := ⟨_, rfl⟩
 rw [← hA]
 unfold beforeL at hA
 by_cases hlen : l.length = r.length
 ·rw [if_pos hlen] at hA
  obtain ⟨n, hn⟩ : ∃ n, n = r.length := ⟨_, rfl⟩
  rw [hlen, ← hn]
  have HL := Lib.hid (And.intro hlen (And.intro hn hA))
  rw [hlen, ← hn] at hmx
  clear hlen hn hmx2 hA
  go_enter Tryz.func89, Tryz.ntmps89
  go_wp2_with fail
  go_loopw [5] (fun iv wx => ∃ (k : Nat), k ≤ n ∧ iv = .int .i64 k ∧ Hid (A = lexL (l.drop k) (r.drop k)) ∧ Below w.heap.size w wx) (fun iv _ => n - (intOf iv).toNat)
  case atStart => exact ⟨0, Nat.zero_le _, rfl, Lib.hid HL.out.2.2, Below.refl _ _⟩
  case round =>
   obtain ⟨k, hk, rfl, HI, hbel⟩ := hrel
   by_cases hlt : k < n
   ·obtain ⟨x, hx⟩ : ∃ x, l[k]? = some x := ⟨_, List.getElem?_eq_getElem (by have := HL.out; omega)⟩
    obtain ⟨y, hy⟩ : ∃ y, r[k]? = some y := ⟨_, List.getElem?_eq_getElem (by have := HL.out; omega)⟩
    obtain ⟨ib, io, rfl, lib, hc⟩ := HH.out.1 k (x : Int) (intsL_get hx)
    obtain ⟨ib2, io2, rfl, lib2, hc2⟩ := HH.out.2 k (y : Int) (intsL_get hy)
    have ck := ((bcell hbel).1 ib (io + k) lib).trans (hc k (x : Int) (intsL_get hx))
    have ck2 := ((bcell hbel).1 ib2 (io2 + k) lib2).trans (hc2 k (y : Int) (intsL_get hy))
    have HX := Lib.hid (lex_drop hx hy)
    have hsz := hbel.size
    have lb := Nat.lt_of_lt_of_le lib hsz
    have lb2 := Nat.lt_of_lt_of_le lib2 hsz
    clear hx hy hc hc2
    by_cases he : x = y
    ·subst he
     go_wp2_with fail
     refine Go.Rel.region_still_tail 8 (by kernel_rfl) (by kernel_rfl) ?_
     simp only [List.take_succ_cons, List.take_zero, List.drop_succ_cons, List.drop_zero]
     iterate 8 (with_reducible refine wpStill_yes (by kernel_rfl) (fun K hK => ?_); go_simp; refine hK _ ?_; clear hK K)
     refine wpStill_nil ?_
     go_wp2_with fail
     refine ⟨⟨k + 1, by omega, by simp, Lib.hid ?_, bel_drew hbel⟩, by simp [intOf]; omega⟩
     rw [HI.out, HX.out, if_pos trivial]
    ·have he2 : ¬ ((x : Int) = (y : Int)) := by omega
     have HE := Lib.hid he
     clear he
     go_wp2_with fail
     refine Go.Rel.region_still_tail 8 (by kernel_rfl) (by kernel_rfl) ?_
     simp only [List.take_succ_cons, List.take_zero, List.drop_succ_cons, List.drop_zero]
     iterate 8 (with_reducible refine wpStill_yes (by kernel_rfl) (fun K hK => ?_); go_simp; refine hK _ ?_; clear hK K)
     refine wpStill_nil ?_
     go_wp2_with fail
     refine Go.Rel.region_still_tail 9 (by kernel_rfl) (by kernel_rfl) ?_
     simp only [List.take_succ_cons, List.take_zero, List.drop_succ_cons, List.drop_zero]
     iterate 9 (with_reducible refine wpStill_yes (by kernel_rfl) (fun K hK => ?_); go_simp; refine hK _ ?_; clear hK K)
     refine wpStill_nil ?_
     go_wp2_with fail
     go_ret
     refine ⟨ret_bool ?_, bel_drew (bel_drew hbel)⟩
     rw [HI.out, HX.out, if_neg HE.out, Bool.eq_iff_iff]
     first | done | simp
   ·have hd : decide ((k : Int) < (n : Int)) = false := decide_eq_false (by omega)
    have HK := Lib.hid (show A = false by
     rw [HI.out, List.drop_eq_nil_of_le (by have := HL.out; omega), List.drop_eq_nil_of_le (by have := HL.out; omega)]; rfl)
    go_wp2_with fail
    go_ret
    exact ⟨ret_bool HK.out.symm, hbel⟩
 ·rw [if_neg hlen] at hA
  have hl2 : ¬ ((l.length : Int) = (r.length : Int)) := by omega
  have HA := Lib.hid hA
  clear hA hlen
  go_enter Tryz.func89, Tryz.ntmps89
  go_wp2_with fail
  go_ret
  refine ⟨ret_bool ?_, Below.refl _ _⟩
  rw [HA.out]
end Go.Proofs.YtlbhjikkpbknnaaGreatDoor
end
