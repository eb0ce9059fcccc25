import Derived.Test.YtlbhjikkpbknnaaGreatDoorHQ22
/-
  Given contracts of functions of the program, and laws for them, one behind the other.
-/
set_option linter.unusedVariables false
set_option linter.unusedSimpArgs false
set_option linter.unusedSectionVars false
section
namespace Go.Proofs.YtlbhjikkpbknnaaGreatDoor
open Go.RowKit Go.Rel Go.Draw
set_option maxRecDepth 100000
/-! Last of both -/
def lstL (m : List Sol) : List Int := if errM m = 0 then intsL (lastM m) else []
theorem Last_n {w : World} {v : Value} {m : List Sol} (H : SlS w v m) (hT : Tab w) : Calls Tryz.prog 49 #[v] w fun e w' => ∃ u, e = .returned (.tuple #[u, .int .i64 (errM m)]) ∧ SlI w' u (lstL m) ∧ Below w.heap.size w w' := by
 refine (Last_spec H hT).mono ?_
 rintro e w2 ⟨hb, u, rfl, h0, h1⟩
 refine ⟨u, rfl, ?_, hb⟩
 unfold lstL
 by_cases h : errM m = 0
 ·rw [if_pos h]; exact (h0 h).sl
 ·rw [if_neg h, h1 h]; exact sl_nil
def lastK (m : List Sol) (k : Nat) : List Nat := (List.range k).filter fun p => firstM m (allU m.length) && firstM m (allU m.length &&& ~~~(bit p))
theorem lastK_succ (m : List Sol) (k : Nat) : lastK m (k + 1) = lastK m k ++ (if firstM m (allU m.length) && firstM m (allU m.length &&& ~~~(bit k)) then [k] else []) := by
 unfold lastK
 rw [List.range_succ, List.filter_append]
 congr 1
 cases h : (firstM m (allU m.length) && firstM m (allU m.length &&& ~~~(bit k))) <;> simp only [List.filter_cons, List.filter_nil, h] <;> rfl
theorem lastK_len (m : List Sol) (k : Nat) : (lastK m k).length ≤ k := by
 unfold lastK
 have := List.length_filter_le (fun p => firstM m (allU m.length) && firstM m (allU m.length &&& ~~~(bit p))) (List.range k)
 simpa using this
set_option maxHeartbeats 8000000 in
theorem refLast_n {w : World} {v : Value} {m : List Sol} (H : SlS w v m) : Calls Tryz.prog 50 #[v] w fun e w' => ∃ u, e = .returned (.tuple #[u, .int .i64 (errM m)]) ∧ SlI w' u (lstL m) ∧ Below w.heap.size w w' := by
 obtain ⟨i0, hi, hz0, hz1, hz2⟩ := info_parts infoInt
 have HI0 := Lib.hid (And.intro hi (And.intro hz0 (And.intro hz1 hz2))); clear hi hz0 hz1 hz2
 obtain ⟨R, hR⟩ : ∃ R, R = lstL m := ⟨_, rfl⟩
 obtain ⟨F, hF⟩ : ∃ F, F = errM m := ⟨_, rfl⟩
 rw [← hR, ← hF]
 unfold lstL at hR
 have H1 := Lib.hid (refMould_spec H)
 rw [← hF] at H1 hR
 obtain ⟨ai, nn, c, rfl, hnn, hc, hcm⟩ := H.out
 subst hnn
 have HH := Lib.hid (And.intro H (And.intro hR hF))
 clear H hR hF
 go_enter Tryz.func50, Tryz.ntmps50
 go_wp2_with fail
 refine H1.out.mono ?_
 rintro e w2 ⟨rfl, hb2⟩
 have HB := Lib.hid hb2
 clear hb2
 by_cases hF0 : F = 0
 ·obtain ⟨h12, hg⟩ := errM_zero.1 (HH.out.2.2.symm.trans hF0)
  have HQ := Lib.hid (And.intro h12 hg)
  have HWO := Lib.hid (WaysOf_spec (HH.out.1.mono HB.out) h12)
  subst hF0
  clear h12 hg
  go_wp2_with fail
  refine HWO.out.mono ?_
  rintro e w4 ⟨hb4, mv, nv, rfl, hW⟩
  obtain ⟨bm, nm, cm, bn, nn, cn, rfl, rfl⟩ := hW.sls
  have H4 := Lib.hid (And.intro (bel_trans HB.out hb4) hW)
  clear hb4 hW HWO
  obtain ⟨n, hn⟩ : ∃ n, n = m.length := ⟨_, rfl⟩
  have hn12 : n ≤ 12 := by rw [hn]; exact HQ.out.1
  rw [← hn] at hc ⊢
  have HN := Lib.hid hn
  clear hn
  go_wp2_with fail
  obtain ⟨wb, hwb⟩ : ∃ wb, wb = w4.alloc (.cells #[.slice bm nm cm, .slice bn nn cn] 111) := ⟨_, rfl⟩
  have hb5 : Below w4.heap.size w4 wb := by subst hwb; exact bel_alloc (bel_refl _) _
  have hB5 : Blk wb w4.heap.size #[.slice bm nm cm, .slice bn nn cn] 111 := by subst hwb; exact Blk.new _ _ _
  rw [← hwb]
  obtain ⟨N0, hN0⟩ : ∃ N, N = w4.heap.size := ⟨_, rfl⟩
  rw [← hN0] at hB5 ⊢
  have H5 := Lib.hid (And.intro (bel_trans H4.out.1 hb5) (And.intro hB5 (H4.out.2.mono hb5)))
  clear hwb hb5 hB5 hN0
  obtain ⟨FA, hFA⟩ : ∃ F, F = firstM m (allU m.length) := ⟨_, rfl⟩
  have HFA := Lib.hid hFA
  have HAL := Lib.hid fun W => all_ref (w := W) ai n c (by omega)
  have HOT := Lib.hid fun W (k : Nat) => others_spec (w := W) ai n c (k : Int) (by omega)
  have HCA := Lib.hid fun W (h : Below wb.heap.size wb W) ov (ho : SlI W ov (intsL (List.range n))) => comesR_spec (H5.out.2.2.mono h) ho (fun p hp => by have := List.mem_range.1 hp; have := HN.out; omega) HQ.out.1 (by rw [List.length_range]; omega)
  have hce : ((greedyF m (List.range n) 12 [] []).1.length == (List.range n).length) = FA := by
   have := comes_ref (good_apart HQ.out.2) HQ.out.1 (Sub.refl (allU m.length))
   rw [all_list HQ.out.1, ← HN.out] at this
   rw [this, hFA, ← HN.out]
  rw [hce] at HCA
  have HCO := Lib.hid fun W (h : Below wb.heap.size wb W) (k : Nat) ov (ho : SlI W ov (intsL (othersL n k))) => comesR_spec (H5.out.2.2.mono h) ho (fun p hp => by have := List.mem_range.1 (List.mem_filter.1 hp).1; have := HN.out; omega) HQ.out.1 (Nat.le_trans (List.length_filter_le _ _) (by rw [List.length_range]; omega))
  have HCE := Lib.hid fun (k : Nat) => (show ((greedyF m (othersL n k) 12 [] []).1.length == (othersL n k).length) = firstM m (allU m.length &&& ~~~(bit k)) by
   have := comes_ref (good_apart HQ.out.2) HQ.out.1 (S := allU m.length &&& ~~~(bit k)) (sub_andl _ _)
   rw [others_list HQ.out.1, ← HN.out] at this
   rw [this, ← HN.out])
  clear hFA hce
  go_loopw [6, 7] (fun ov kv wx => ∃ (k : Nat), k ≤ n ∧ kv = .int .i64 k ∧ Hid (OwnI wx wb.heap.size ov (intsL (lastK m k)) ∧ Below wb.heap.size wb wx)) (fun _ kv _ => n - (intOf kv).toNat)
  case atStart => exact ⟨0, Nat.zero_le _, rfl, Lib.hid ⟨World.ownsRow_nil _ _ _ _, Below.refl _ _⟩⟩
  case round =>
   obtain ⟨k, hk, rfl, HI⟩ := hrel
   by_cases hlt : k < n
   ·have hd : decide ((k : Int) < (n : Int)) = true := decide_eq_true (by omega)
    have hWB := HI.out.2
    have B5 := H5.out.2.1.grow hWB
    have HC0 := Lib.hid fun W (h : Below wr.heap.size wr W) => (show W.cell? ⟨N0, 0, none⟩ = some (.slice bm nm cm) ∧ W.cell? ⟨N0, 1, none⟩ = some (.slice bn nn cn) ∧ N0 < W.heap.size from ⟨(B5.grow h).cell 0, (B5.grow h).cell 1, (B5.grow h).lt⟩)
    clear B5 hWB
    obtain ⟨FB, hFB⟩ : ∃ F, F = firstM m (allU m.length &&& ~~~(bit k)) := ⟨_, rfl⟩
    have hKS := lastK_succ m k
    rw [← HFA.out, ← hFB] at hKS
    have HKS := Lib.hid hKS
    have HCF := Lib.hid fun W (h : Below wb.heap.size wb W) ov (ho : SlI W ov (intsL (othersL n k))) => HCO.out W h k ov ho
    rw [HCE.out k, ← hFB] at HCF
    clear hFB hKS
    have hx := HI.out.1
    obtain ⟨p6, n6, c6, hu6⟩ := own_shapeN hx
    subst hu6
    clear hx
    go_wp2_with fail
    cases FA with
    | false =>
     refine wp_region_val Grows (fun _ _ _ => True) [Is (.agg #[.slice bm nm cm, .slice bn nn cn]), Is (.slice ai n c), (fun u W => SlI W u (intsL (List.range n))), Is (.bool false), Is (.bool false), AnyV, AnyV, AnyV, AnyV, AnyV, Is (.bool false)] (by kernel_rfl) (by kernel_rfl) rfl Grows.refl (fun _ _ _ => Grows.trans) (stable_mem ⟨fun _ _ _ h _ => h, fun _ _ _ h _ => h, (fun _ _ _ h g => h.mono g), fun _ _ _ h _ => h, fun _ _ _ h _ => h, fun _ _ _ h _ => h, fun _ _ _ h _ => h, fun _ _ _ h _ => h, fun _ _ _ h _ => h, fun _ _ _ h _ => h, fun _ _ _ h _ => h, trivial⟩) wr (Below.drew (Below.refl _ _)) trivial ?_
     refine val_cons ?_ (fun v0 => ?_)
     ·intro L vs w1 hvs hat hb hI hF; try simp [factsI, Region.binds, Is] at hF
      have hc5 := HC0.out w1 hb
      obtain ⟨c0, c1, l3⟩ := hc5
      clear hI
      go_simp
      try simp [upd]
      try exact Grows.refl _
     refine val_cons ?_ (fun v1 => ?_)
     ·intro L vs w1 hvs hat hb hI hF; try simp [factsI, Region.binds, Is] at hF
      have hc := (Grows.cells hb).1
      clear hI
      go_simp
      try simp [upd]
      try first | exact Grows.refl _ | exact trivial | exact ⟨Grows.refl _, trivial⟩
     refine val_cons ?_ (fun v2 => ?_)
     ·intro L vs w1 hvs hat hb hI hF; try simp [factsI, Region.binds, Is] at hF
      clear hI
      go_simp
      refine (HAL.out w1).mono ?_
      rintro e w3 ⟨hb3, o, rfl, ho⟩
      exact ⟨o, rfl, hb3, ho.sl⟩
     refine val_cons ?_ (fun v3 => ?_)
     ·intro L vs w1 hvs hat hb hI hF; try simp [factsI, Region.binds, Is] at hF
      clear hI
      go_simp
      refine (HCA.out w1 (bel_trans HI.out.2 hb) _ hF.2).mono ?_
      rintro e w3 ⟨hb3, rfl⟩
      exact ⟨rfl, hb3⟩
     refine val_cons ?_ (fun v4 => ?_)
     ·intro L vs w1 hvs hat hb hI hF; try simp [factsI, Region.binds, Is] at hF
      have hc := (Grows.cells hb).1
      clear hI
      go_simp
      try simp [upd]
      try first | exact Grows.refl _ | exact trivial | exact ⟨Grows.refl _, trivial⟩
     refine val_cons ?_ (fun v5 => ?_)
     ·intro L vs w1 hvs hat hb hI hF; try simp [factsI, Region.binds, Is] at hF
      have hc := (Grows.cells hb).1
      clear hI
      go_simp
      try simp [upd]
      try first | exact Grows.refl _ | exact trivial | exact ⟨Grows.refl _, trivial⟩
     refine val_cons ?_ (fun v6 => ?_)
     ·intro L vs w1 hvs hat hb hI hF; try simp [factsI, Region.binds, Is] at hF
      have hc := (Grows.cells hb).1
      clear hI
      go_simp
      try simp [upd]
      try first | exact Grows.refl _ | exact trivial | exact ⟨Grows.refl _, trivial⟩
     refine val_cons ?_ (fun v7 => ?_)
     ·intro L vs w1 hvs hat hb hI hF; try simp [factsI, Region.binds, Is] at hF
      have hc := (Grows.cells hb).1
      clear hI
      go_simp
      try simp [upd]
      try first | exact Grows.refl _ | exact trivial | exact ⟨Grows.refl _, trivial⟩
     refine val_cons ?_ (fun v8 => ?_)
     ·intro L vs w1 hvs hat hb hI hF; try simp [factsI, Region.binds, Is] at hF
      have hc := (Grows.cells hb).1
      clear hI
      go_simp
      try simp [upd]
      try first | exact Grows.refl _ | exact trivial | exact ⟨Grows.refl _, trivial⟩
     refine val_cons ?_ (fun v9 => ?_)
     ·intro L vs w1 hvs hat hb hI hF; try simp [factsI, Region.binds, Is] at hF
      have hc := (Grows.cells hb).1
      clear hI
      go_simp
      try simp [upd]
      try first | exact Grows.refl _ | exact trivial | exact ⟨Grows.refl _, trivial⟩
     refine val_cons ?_ (fun v10 => ?_)
     ·intro L vs w1 hvs hat hb hI hF; try simp [factsI, Region.binds, Is] at hF
      have hc := (Grows.cells hb).1
      clear hI
      go_simp
      try simp [upd]
      try first | exact Grows.refl _ | exact trivial | exact ⟨Grows.refl _, trivial⟩
     refine val_nil ?_
     intro vs w1 hvs hb hI hF
     simp [Is, Nat.forall_lt_succ_right] at hF
     have e0 := hF.1.1.1.1.1.1.1.1.1.1
     have e1 := hF.1.1.1.1.1.1.1.1.1.2
     have e2 := hF.1.1.1.1.1.1.1.1.2
     have e3 := hF.1.1.1.1.1.1.1.2
     have e4 := hF.1.1.1.1.1.1.2
     have e5 := hF.1.1.1.1.1.2
     have e6 := hF.1.1.1.1.2
     have e7 := hF.1.1.1.2
     have e8 := hF.1.1.2
     have e9 := hF.1.2
     have e10 := hF.2
     clear hF
     simp only [Act.put, List.setIfInBounds_toArray, List.set_cons_succ, List.set_cons_zero, e0, e1, e3, e4, e10]
     clear e0 e1 e3 e4 e10
     have HZ := Lib.hid (And.intro (own_bel HI.out.1 hb) (bel_trans HI.out.2 hb))
     clear hb hI hvs e2 e5 e6 e7 e8 e9
     go_wp2_with fail
     refine ⟨⟨k + 1, by omega, by simp, Lib.hid ⟨?_, HZ.out.2⟩⟩, by simp [intOf]; omega⟩
     rw [HKS.out]
     simpa using HZ.out.1
    | true =>
     cases FB with
     | false =>
      refine wp_region_val Grows (fun _ _ _ => True) [Is (.agg #[.slice bm nm cm, .slice bn nn cn]), Is (.slice ai n c), (fun u W => SlI W u (intsL (List.range n))), Is (.bool true), Is (.bool true), Is (.agg #[.slice bm nm cm, .slice bn nn cn]), Is (.slice ai n c), Is (.int .i64 (k : Int)), (fun u W => SlI W u (intsL (othersL n k))), Is (.bool false), Is (.bool false)] (by kernel_rfl) (by kernel_rfl) rfl Grows.refl (fun _ _ _ => Grows.trans) (stable_mem ⟨fun _ _ _ h _ => h, fun _ _ _ h _ => h, (fun _ _ _ h g => h.mono g), fun _ _ _ h _ => h, fun _ _ _ h _ => h, fun _ _ _ h _ => h, fun _ _ _ h _ => h, fun _ _ _ h _ => h, (fun _ _ _ h g => h.mono g), fun _ _ _ h _ => h, fun _ _ _ h _ => h, trivial⟩) wr (Below.drew (Below.refl _ _)) trivial ?_
      refine val_cons ?_ (fun v0 => ?_)
      ·intro L vs w1 hvs hat hb hI hF; try simp [factsI, Region.binds, Is] at hF
       have hc5 := HC0.out w1 hb
       obtain ⟨c0, c1, l3⟩ := hc5
       clear hI
       go_simp
       try simp [upd]
       try exact Grows.refl _
      refine val_cons ?_ (fun v1 => ?_)
      ·intro L vs w1 hvs hat hb hI hF; try simp [factsI, Region.binds, Is] at hF
       have hc := (Grows.cells hb).1
       clear hI
       go_simp
       try simp [upd]
       try first | exact Grows.refl _ | exact trivial | exact ⟨Grows.refl _, trivial⟩
      refine val_cons ?_ (fun v2 => ?_)
      ·intro L vs w1 hvs hat hb hI hF; try simp [factsI, Region.binds, Is] at hF
       clear hI
       go_simp
       refine (HAL.out w1).mono ?_
       rintro e w3 ⟨hb3, o, rfl, ho⟩
       exact ⟨o, rfl, hb3, ho.sl⟩
      refine val_cons ?_ (fun v3 => ?_)
      ·intro L vs w1 hvs hat hb hI hF; try simp [factsI, Region.binds, Is] at hF
       clear hI
       go_simp
       refine (HCA.out w1 (bel_trans HI.out.2 hb) _ hF.2).mono ?_
       rintro e w3 ⟨hb3, rfl⟩
       exact ⟨rfl, hb3⟩
      refine val_cons ?_ (fun v4 => ?_)
      ·intro L vs w1 hvs hat hb hI hF; try simp [factsI, Region.binds, Is] at hF
       have hc := (Grows.cells hb).1
       clear hI
       go_simp
       try simp [upd]
       try first | exact Grows.refl _ | exact trivial | exact ⟨Grows.refl _, trivial⟩
      refine val_cons ?_ (fun v5 => ?_)
      ·intro L vs w1 hvs hat hb hI hF; try simp [factsI, Region.binds, Is] at hF
       have hc5 := HC0.out w1 hb
       obtain ⟨c0, c1, l3⟩ := hc5
       clear hI
       go_simp
       try simp [upd]
       try exact Grows.refl _
      refine val_cons ?_ (fun v6 => ?_)
      ·intro L vs w1 hvs hat hb hI hF; try simp [factsI, Region.binds, Is] at hF
       have hc := (Grows.cells hb).1
       clear hI
       go_simp
       try simp [upd]
       try first | exact Grows.refl _ | exact trivial | exact ⟨Grows.refl _, trivial⟩
      refine val_cons ?_ (fun v7 => ?_)
      ·intro L vs w1 hvs hat hb hI hF; try simp [factsI, Region.binds, Is] at hF
       have hc := (Grows.cells hb).1
       clear hI
       go_simp
       try simp [upd]
       try first | exact Grows.refl _ | exact trivial | exact ⟨Grows.refl _, trivial⟩
      refine val_cons ?_ (fun v8 => ?_)
      ·intro L vs w1 hvs hat hb hI hF; try simp [factsI, Region.binds, Is] at hF
       clear hI
       go_simp
       refine (HOT.out w1 k).mono ?_
       rintro e w3 ⟨hb3, o, rfl, ho⟩
       rw [othersI_nat] at ho
       exact ⟨o, rfl, hb3, ho.sl⟩
      refine val_cons ?_ (fun v9 => ?_)
      ·intro L vs w1 hvs hat hb hI hF; try simp [factsI, Region.binds, Is] at hF
       clear hI
       go_simp
       refine (HCF.out w1 (bel_trans HI.out.2 hb) _ hF.2.1).mono ?_
       rintro e w3 ⟨hb3, rfl⟩
       exact ⟨rfl, hb3⟩
      refine val_cons ?_ (fun v10 => ?_)
      ·intro L vs w1 hvs hat hb hI hF; try simp [factsI, Region.binds, Is] at hF
       have hc := (Grows.cells hb).1
       clear hI
       go_simp
       try simp [upd]
       try first | exact Grows.refl _ | exact trivial | exact ⟨Grows.refl _, trivial⟩
      refine val_nil ?_
      intro vs w1 hvs hb hI hF
      simp [Is, Nat.forall_lt_succ_right] at hF
      have e0 := hF.1.1.1.1.1.1.1.1.1.1
      have e1 := hF.1.1.1.1.1.1.1.1.1.2
      have e2 := hF.1.1.1.1.1.1.1.1.2
      have e3 := hF.1.1.1.1.1.1.1.2
      have e4 := hF.1.1.1.1.1.1.2
      have e5 := hF.1.1.1.1.1.2
      have e6 := hF.1.1.1.1.2
      have e7 := hF.1.1.1.2
      have e8 := hF.1.1.2
      have e9 := hF.1.2
      have e10 := hF.2
      clear hF
      simp only [Act.put, List.setIfInBounds_toArray, List.set_cons_succ, List.set_cons_zero, e0, e1, e3, e4, e5, e6, e7, e9, e10]
      clear e0 e1 e3 e4 e5 e6 e7 e9 e10
      have HZ := Lib.hid (And.intro (own_bel HI.out.1 hb) (bel_trans HI.out.2 hb))
      clear hb hI hvs e2 e8
      go_wp2_with fail
      refine ⟨⟨k + 1, by omega, by simp, Lib.hid ⟨?_, HZ.out.2⟩⟩, by simp [intOf]; omega⟩
      rw [HKS.out]
      simpa using HZ.out.1
     | true =>
      refine wp_region_val Grows (fun _ _ _ => True) [Is (.agg #[.slice bm nm cm, .slice bn nn cn]), Is (.slice ai n c), (fun u W => SlI W u (intsL (List.range n))), Is (.bool true), Is (.bool true), Is (.agg #[.slice bm nm cm, .slice bn nn cn]), Is (.slice ai n c), Is (.int .i64 (k : Int)), (fun u W => SlI W u (intsL (othersL n k))), Is (.bool true), Is (.bool true)] (by kernel_rfl) (by kernel_rfl) rfl Grows.refl (fun _ _ _ => Grows.trans) (stable_mem ⟨fun _ _ _ h _ => h, fun _ _ _ h _ => h, (fun _ _ _ h g => h.mono g), fun _ _ _ h _ => h, fun _ _ _ h _ => h, fun _ _ _ h _ => h, fun _ _ _ h _ => h, fun _ _ _ h _ => h, (fun _ _ _ h g => h.mono g), fun _ _ _ h _ => h, fun _ _ _ h _ => h, trivial⟩) wr (Below.drew (Below.refl _ _)) trivial ?_
      refine val_cons ?_ (fun v0 => ?_)
      ·intro L vs w1 hvs hat hb hI hF; try simp [factsI, Region.binds, Is] at hF
       have hc5 := HC0.out w1 hb
       obtain ⟨c0, c1, l3⟩ := hc5
       clear hI
       go_simp
       try simp [upd]
       try exact Grows.refl _
      refine val_cons ?_ (fun v1 => ?_)
      ·intro L vs w1 hvs hat hb hI hF; try simp [factsI, Region.binds, Is] at hF
       have hc := (Grows.cells hb).1
       clear hI
       go_simp
       try simp [upd]
       try first | exact Grows.refl _ | exact trivial | exact ⟨Grows.refl _, trivial⟩
      refine val_cons ?_ (fun v2 => ?_)
      ·intro L vs w1 hvs hat hb hI hF; try simp [factsI, Region.binds, Is] at hF
       clear hI
       go_simp
       refine (HAL.out w1).mono ?_
       rintro e w3 ⟨hb3, o, rfl, ho⟩
       exact ⟨o, rfl, hb3, ho.sl⟩
      refine val_cons ?_ (fun v3 => ?_)
      ·intro L vs w1 hvs hat hb hI hF; try simp [factsI, Region.binds, Is] at hF
       clear hI
       go_simp
       refine (HCA.out w1 (bel_trans HI.out.2 hb) _ hF.2).mono ?_
       rintro e w3 ⟨hb3, rfl⟩
       exact ⟨rfl, hb3⟩
      refine val_cons ?_ (fun v4 => ?_)
      ·intro L vs w1 hvs hat hb hI hF; try simp [factsI, Region.binds, Is] at hF
       have hc := (Grows.cells hb).1
       clear hI
       go_simp
       try simp [upd]
       try first | exact Grows.refl _ | exact trivial | exact ⟨Grows.refl _, trivial⟩
      refine val_cons ?_ (fun v5 => ?_)
      ·intro L vs w1 hvs hat hb hI hF; try simp [factsI, Region.binds, Is] at hF
       have hc5 := HC0.out w1 hb
       obtain ⟨c0, c1, l3⟩ := hc5
       clear hI
       go_simp
       try simp [upd]
       try exact Grows.refl _
      refine val_cons ?_ (fun v6 => ?_)
      ·intro L vs w1 hvs hat hb hI hF; try simp [factsI, Region.binds, Is] at hF
       have hc := (Grows.cells hb).1
       clear hI
       go_simp
       try simp [upd]
       try first | exact Grows.refl _ | exact trivial | exact ⟨Grows.refl _, trivial⟩
      refine val_cons ?_ (fun v7 => ?_)
      ·intro L vs w1 hvs hat hb hI hF; try simp [factsI, Region.binds, Is] at hF
       have hc := (Grows.cells hb).1
       clear hI
       go_simp
       try simp [upd]
       try first | exact Grows.refl _ | exact trivial | exact ⟨Grows.refl _, trivial⟩
      refine val_cons ?_ (fun v8 => ?_)
      ·intro L vs w1 hvs hat hb hI hF; try simp [factsI, Region.binds, Is] at hF
       clear hI
       go_simp
       refine (HOT.out w1 k).mono ?_
       rintro e w3 ⟨hb3, o, rfl, ho⟩
       rw [othersI_nat] at ho
       exact ⟨o, rfl, hb3, ho.sl⟩
      refine val_cons ?_ (fun v9 => ?_)
      ·intro L vs w1 hvs hat hb hI hF; try simp [factsI, Region.binds, Is] at hF
       clear hI
       go_simp
       refine (HCF.out w1 (bel_trans HI.out.2 hb) _ hF.2.1).mono ?_
       rintro e w3 ⟨hb3, rfl⟩
       exact ⟨rfl, hb3⟩
      refine val_cons ?_ (fun v10 => ?_)
      ·intro L vs w1 hvs hat hb hI hF; try simp [factsI, Region.binds, Is] at hF
       have hc := (Grows.cells hb).1
       clear hI
       go_simp
       try simp [upd]
       try first | exact Grows.refl _ | exact trivial | exact ⟨Grows.refl _, trivial⟩
      refine val_nil ?_
      intro vs w1 hvs hb hI hF
      simp [Is, Nat.forall_lt_succ_right] at hF
      have e0 := hF.1.1.1.1.1.1.1.1.1.1
      have e1 := hF.1.1.1.1.1.1.1.1.1.2
      have e2 := hF.1.1.1.1.1.1.1.1.2
      have e3 := hF.1.1.1.1.1.1.1.2
      have e4 := hF.1.1.1.1.1.1.2
      have e5 := hF.1.1.1.1.1.2
      have e6 := hF.1.1.1.1.2
      have e7 := hF.1.1.1.2
      have e8 := hF.1.1.2
      have e9 := hF.1.2
      have e10 := hF.2
      clear hF
      simp only [Act.put, List.setIfInBounds_toArray, List.set_cons_succ, List.set_cons_zero, e0, e1, e3, e4, e5, e6, e7, e9, e10]
      clear e0 e1 e3 e4 e5 e6 e7 e9 e10
      have HZ := Lib.hid (And.intro (own_bel HI.out.1 hb) (bel_trans HI.out.2 hb))
      clear hb hI hvs e2 e8
      have hx := HZ.out.1
      have hbs : wb.heap.size ≤ w1.heap.size := HZ.out.2.size
      try unfold OwnI at hx
      rw [intsL_length] at hx
      have hlen := lastK_len m k
      have HX := Lib.hid hx; clear hx
      go_wp2_with (first
       | (at_builtin; refine wpList_append_own _ rfl _ _ 23 rfl wb.heap.size 3 i0 (.int .i64 0) 1 8 Tryz.underlying23 HI0.out.1 HI0.out.2.1 HI0.out.2.2.1 HI0.out.2.2.2 rfl (by decide) _ _ _ rfl (HX.out.alloc _) ⟨w1.heap.size, 0, none⟩ 1 1 [.int .i64 (k : Int)] rfl rfl (cell_one_new _ _ _) (fun x hx => by simp at hx; subst hx; rfl) (by unfold maxLen; omega) (by omega) (by simp; omega) ?_; intro v' w7 hown' hgrow7 hnil7))
      have hb7 : Below wb.heap.size w1 w7 := ((bel_alloc (bel_refl w1) (.cells #[.int .i64 (k : Int)] 3)).mono hbs).grown hgrow7 (by simp; omega) (fun j hj => ((HX.out.alloc (.cells #[.int .i64 (k : Int)] 3)).lt j hj).1)
      refine ⟨⟨k + 1, by omega, by simp, Lib.hid ⟨?_, HZ.out.2.trans hb7⟩⟩, by simp [intOf]; omega⟩
      rw [HKS.out, if_pos (by rfl)]
      unfold OwnI
      rw [intsL_length, List.length_append]
      unfold intsL at *
      rw [List.map_append, List.map_append]
      exact hown'
   ·have hd : decide ((k : Int) < (n : Int)) = false := decide_eq_false (by omega)
    have hfin := HI.out.1
    rw [show k = m.length by have := HN.out; omega] at hfin
    have HFI := Lib.hid (show SlI wr _ (intsL (lastM m)) by
     have h := hfin.sl
     unfold lastK at h
     rw [last_ref m] at h
     exact h)
    clear hfin
    go_wp2_with fail
    go_ret2
    exact ⟨_, rfl, by rw [HH.out.2.1, if_pos trivial]; exact HFI.out, bel_trans H5.out.1 HI.out.2⟩
 ·have h1 : ¬ (F = 0) := hF0
  go_wp2_with fail
  refine bodyPost_ret (v := .tuple #[.slice none 0 0, .int .i64 F]) (by simp [results, Tryz.results50, go_sem]) rfl ⟨.slice none 0 0, rfl, ?_, HB.out⟩
  rw [HH.out.2.1, if_neg hF0]; exact sl_nil
end Go.Proofs.YtlbhjikkpbknnaaGreatDoor
end
