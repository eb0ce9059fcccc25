import Derived.Test.YtlbhjikkpbknnaaGreatDoorHQ4
/-
  Given contracts of functions of the program, and laws for them, one behind the other.
-/
set_option linter.unusedVariables false
set_option linter.unusedSimpArgs false
set_option linter.unusedSectionVars false
section
namespace Go.Proofs.YtlbhjikkpbknnaaGreatDoor
open Go.RowKit Go.Rel Go.Draw
set_option maxRecDepth 100000
/-! the reference's blocked -/
def blkF (m : List Sol) (x : Mv) (k : Nat) : List Nat := (List.range k).filter fun i => i != x.1 && (standM m (intsL (restL m.length i x.1)) x).isSome
theorem blkF_succ (m : List Sol) (x : Mv) (k : Nat) : blkF m x (k + 1) = blkF m x k ++ (if k != x.1 && (standM m (intsL (restL m.length k x.1)) x).isSome then [k] else []) := by
 unfold blkF
 rw [List.range_succ, List.filter_append]
 congr 1
 cases h : (k != x.1 && (standM m (intsL (restL m.length k x.1)) x).isSome) <;> simp only [List.filter_cons, List.filter_nil, h] <;> rfl
theorem blkF_len (m : List Sol) (x : Mv) (k : Nat) : (blkF m x k).length ≤ k := by
 unfold blkF
 have := List.length_filter_le (fun i => i != x.1 && (standM m (intsL (restL m.length i x.1)) x).isSome) (List.range k)
 simpa using this
def restF (i p k : Nat) : List Nat := (List.range k).filter fun j => j != i && j != p
theorem restF_succ (i p k : Nat) : restF i p (k + 1) = restF i p k ++ (if k != i && k != p then [k] else []) := by
 unfold restF
 rw [List.range_succ, List.filter_append]
 congr 1
 cases h : (k != i && k != p) <;> simp only [List.filter_cons, List.filter_nil, h] <;> rfl
theorem restF_len (i p k : Nat) : (restF i p k).length ≤ k := by
 unfold restF
 have := List.length_filter_le (fun j => j != i && j != p) (List.range k)
 simpa using this
set_option maxHeartbeats 1000000 in
theorem blocked_spec {w : World} {v : Value} {m : List Sol} (H : SlS w v m) (hm : m.length ≤ 12) {x : Mv} (hx : x.1 < m.length) (hs4 : x.2.1 ≤ 4) (hf7 : x.2.2 ≤ 7) : Calls Tryz.prog 72 #[v, mvV x] w fun e w' => Below w.heap.size w w' ∧ ∃ u, e = .returned (.tuple #[u, .bool (blockedM m x).isSome]) ∧ (blockedM m x = none → u = .slice none 0 0) ∧ ∀ L, blockedM m x = some L → OwnI w' w.heap.size u (intsL L) := by
 obtain ⟨i0, hi, hz0, hz1, hz2⟩ := info_parts infoInt
 have HI0 := Lib.hid (And.intro hi (And.intro hz0 (And.intro hz1 hz2))); clear hi hz0 hz1 hz2
 obtain ⟨B, hB⟩ : ∃ B, B = blockedM m x := ⟨_, rfl⟩
 rw [← hB]
 have hB1 : (standM m (intsL (othersL m.length x.1)) x).isSome = true → B = none := fun h => by rw [hB]; unfold blockedM; rw [if_pos h]
 have hB2 : ¬ (standM m (intsL (othersL m.length x.1)) x).isSome = true → B = some (blkF m x m.length) := fun h => by rw [hB]; unfold blockedM; rw [if_neg h]; rfl
 have HBB := Lib.hid (And.intro hB1 hB2)
 clear hB hB1 hB2
 obtain ⟨ai, nn, c, rfl, hnn, hc, hcm⟩ := H.out
 subst hnn
 have hSt := fun W (h : Below w.heap.size w W) gv g (hg : SlI W gv g) => Stand_spec (H.mono h) hg hx hs4 hf7
 have hOt := fun W => others_spec (w := W) ai m.length c x.1 (by omega)
 rw [othersI_nat] at hOt
 have HS := Lib.hid (And.intro hSt hOt)
 have hxI : (x.1 : Int) < (m.length : Int) := by omega
 clear hSt hOt H
 obtain ⟨p, sd, fr⟩ := x
 simp only at hx hs4 hf7 hxI HBB HS
 obtain ⟨n, hn⟩ : ∃ n, n = m.length := ⟨_, rfl⟩
 rw [← hn] at HBB HS hxI hc hx hm ⊢
 have HNN := Lib.hid hn
 clear hn
 go_enter Tryz.func72, Tryz.ntmps72
 go_wp2_with fail
 obtain ⟨wb, hwb⟩ : ∃ wb, wb = w.alloc (.cells #[.int .i64 (p : Int), .int .i64 (sd : Int), .int .i64 (fr : Int)] 25) := ⟨_, rfl⟩
 rw [← hwb]
 have H1 := Lib.hid (show Blk wb w.heap.size #[.int .i64 (p : Int), .int .i64 (sd : Int), .int .i64 (fr : Int)] 25 ∧ Below w.heap.size w wb by subst hwb; exact ⟨Blk.new _ _ _, (by repeat (first | with_reducible exact bel_refl _ | with_reducible assumption | with_reducible refine bel_drewN ?_ _ | with_reducible refine bel_drew ?_ | with_reducible refine bel_alloc ?_ _ | with_reducible refine bel_row ?_ ?_ _ | with_reducible refine bel_set ?_ ?_ _ | refine bel_trans ?_ (by with_reducible assumption) | (simp; done) | (simp; omega)))⟩)
 clear hwb
 obtain ⟨N0, hN0⟩ : ∃ N0, N0 = w.heap.size := ⟨_, rfl⟩
 have HN0 := Lib.hid hN0
 rw [← hN0] at H1 ⊢
 clear hN0
 have c0 := H1.out.1.cell 0
 have c1 := H1.out.1.cell 1
 have c2 := H1.out.1.cell 2
 simp only [List.getElem?_toArray, List.getElem?_cons_zero, List.getElem?_cons_succ] at c0 c1 c2
 have l1 := H1.out.1.lt
 have HBX : Hid (∀ W, Grows wb W → Below w.heap.size w W) := Lib.hid fun W h => (show Below w.heap.size w wb from HN0.out ▸ H1.out.2).trans (h.mono (show w.heap.size ≤ wb.heap.size from H1.out.2.size))
 obtain ⟨R, hR⟩ : ∃ R, R = standM m (intsL (othersL n p)) (p, sd, fr) := ⟨_, rfl⟩
 have HR := Lib.hid hR; clear hR
 cases R with
 | none =>
  refine wp_region_val Grows (fun _ _ _ => True) [Is (.slice ai n c), Is (.slice ai n c), Is (.pointer (some ⟨N0, 0, none⟩)), Is (.int .i64 (p : Int)), (fun u W => SlI W u (intsL (othersL n p))), Is (.agg #[.int .i64 (p : Int), .int .i64 (sd : Int), .int .i64 (fr : Int)]), Is (.tuple #[.int .i64 0, .int .i64 0, .bool false]), Is (.tuple #[.int .i64 0, .int .i64 0, .bool false]), Is (.int .i64 0), Is (.int .i64 0), Is (.bool false), Is (.int .i64 0), Is (.int .i64 0), Is (.bool false)] (by kernel_rfl) (by kernel_rfl) rfl Grows.refl (fun _ _ _ => Grows.trans) (stable_mem ⟨fun _ _ _ h _ => h, fun _ _ _ h _ => h, fun _ _ _ h _ => h, fun _ _ _ h _ => h, (fun _ _ _ h g => h.mono g), fun _ _ _ h _ => h, fun _ _ _ h _ => h, fun _ _ _ h _ => h, fun _ _ _ h _ => h, fun _ _ _ h _ => h, fun _ _ _ h _ => h, fun _ _ _ h _ => h, fun _ _ _ h _ => h, fun _ _ _ h _ => h, trivial⟩) wb (Below.drew (Below.refl _ _)) trivial ?_
  refine val_cons ?_ (fun v0 => ?_)
  ·intro L vs w1 hvs hat hb hI hF; try simp [factsI, Region.binds, Is] at hF
   have hc := (Grows.cells hb).1
   clear hI
   go_simp
   try simp [upd]
   try first | exact Grows.refl _ | exact trivial | exact ⟨Grows.refl _, trivial⟩
  refine val_cons ?_ (fun v1 => ?_)
  ·intro L vs w1 hvs hat hb hI hF; try simp [factsI, Region.binds, Is] at hF
   have hc := (Grows.cells hb).1
   clear hI
   go_simp
   try simp [upd]
   try first | exact Grows.refl _ | exact trivial | exact ⟨Grows.refl _, trivial⟩
  refine val_cons ?_ (fun v2 => ?_)
  ·intro L vs w1 hvs hat hb hI hF; try simp [factsI, Region.binds, Is] at hF
   have hc := (Grows.cells hb).1
   clear hI
   go_simp
   try simp [upd]
   try first | exact Grows.refl _ | exact trivial | exact ⟨Grows.refl _, trivial⟩
  refine val_cons ?_ (fun v3 => ?_)
  ·intro L vs w1 hvs hat hb hI hF; try simp [factsI, Region.binds, Is] at hF
   have hc := (Grows.cells hb).1
   clear hI
   go_simp
   try simp [upd]
   try first | exact Grows.refl _ | exact trivial | exact ⟨Grows.refl _, trivial⟩
  refine val_cons ?_ (fun v4 => ?_)
  ·intro L vs w1 hvs hat hb hI hF; try simp [factsI, Region.binds, Is] at hF
   go_simp
   refine (HS.out.2 _).mono ?_
   rintro e w2 ⟨hb2, o, rfl, ho⟩
   exact ⟨o, rfl, hb2, ho.sl⟩
  refine val_cons ?_ (fun v5 => ?_)
  ·intro L vs w1 hvs hat hb hI hF; try simp [factsI, Region.binds, Is] at hF
   have hc := (Grows.cells hb).1
   clear hI
   go_simp
   try simp [upd]
   try first | exact Grows.refl _ | exact trivial | exact ⟨Grows.refl _, trivial⟩
  refine val_cons ?_ (fun v6 => ?_)
  ·intro L vs w1 hvs hat hb hI hF; try simp [factsI, Region.binds, Is] at hF
   go_simp
   refine (HS.out.1 _ (HBX.out _ hb) _ _ hF.2.1).mono ?_
   rintro e w2 ⟨rfl, hb2⟩
   rw [← HR.out]
   exact ⟨rfl, hb2⟩
  refine val_cons ?_ (fun v7 => ?_)
  ·intro L vs w1 hvs hat hb hI hF; try simp [factsI, Region.binds, Is] at hF
   have hc := (Grows.cells hb).1
   clear hI
   go_simp
   try simp [upd]
   try first | exact Grows.refl _ | exact trivial | exact ⟨Grows.refl _, trivial⟩
  refine val_cons ?_ (fun v8 => ?_)
  ·intro L vs w1 hvs hat hb hI hF; try simp [factsI, Region.binds, Is] at hF
   have hc := (Grows.cells hb).1
   clear hI
   go_simp
   try simp [upd]
   try first | exact Grows.refl _ | exact trivial | exact ⟨Grows.refl _, trivial⟩
  refine val_cons ?_ (fun v9 => ?_)
  ·intro L vs w1 hvs hat hb hI hF; try simp [factsI, Region.binds, Is] at hF
   have hc := (Grows.cells hb).1
   clear hI
   go_simp
   try simp [upd]
   try first | exact Grows.refl _ | exact trivial | exact ⟨Grows.refl _, trivial⟩
  refine val_cons ?_ (fun v10 => ?_)
  ·intro L vs w1 hvs hat hb hI hF; try simp [factsI, Region.binds, Is] at hF
   have hc := (Grows.cells hb).1
   clear hI
   go_simp
   try simp [upd]
   try first | exact Grows.refl _ | exact trivial | exact ⟨Grows.refl _, trivial⟩
  refine val_cons ?_ (fun v11 => ?_)
  ·intro L vs w1 hvs hat hb hI hF; try simp [factsI, Region.binds, Is] at hF
   have hc := (Grows.cells hb).1
   clear hI
   go_simp
   try simp [upd]
   try first | exact Grows.refl _ | exact trivial | exact ⟨Grows.refl _, trivial⟩
  refine val_cons ?_ (fun v12 => ?_)
  ·intro L vs w1 hvs hat hb hI hF; try simp [factsI, Region.binds, Is] at hF
   have hc := (Grows.cells hb).1
   clear hI
   go_simp
   try simp [upd]
   try first | exact Grows.refl _ | exact trivial | exact ⟨Grows.refl _, trivial⟩
  refine val_cons ?_ (fun v13 => ?_)
  ·intro L vs w1 hvs hat hb hI hF; try simp [factsI, Region.binds, Is] at hF
   have hc := (Grows.cells hb).1
   clear hI
   go_simp
   try simp [upd]
   try first | exact Grows.refl _ | exact trivial | exact ⟨Grows.refl _, trivial⟩
  refine val_nil ?_
  intro vs w1 hvs hb hI hF
  simp [Is, Nat.forall_lt_succ_right] at hF
  have e0 := hF.1.1.1.1.1.1.1.1.1.1.1.1.1
  have e1 := hF.1.1.1.1.1.1.1.1.1.1.1.1.2
  have e2 := hF.1.1.1.1.1.1.1.1.1.1.1.2
  have e3 := hF.1.1.1.1.1.1.1.1.1.1.2
  have e4 := hF.1.1.1.1.1.1.1.1.1.2
  have e5 := hF.1.1.1.1.1.1.1.1.2
  have e6 := hF.1.1.1.1.1.1.1.2
  have e7 := hF.1.1.1.1.1.1.2
  have e8 := hF.1.1.1.1.1.2
  have e9 := hF.1.1.1.1.2
  have e10 := hF.1.1.1.2
  have e11 := hF.1.1.2
  have e12 := hF.1.2
  have e13 := hF.2
  clear hF
  simp only [Act.put, List.setIfInBounds_toArray, List.set_cons_succ, List.set_cons_zero, e0, e1, e2, e3, e5, e6, e7, e8, e9, e10, e11, e12, e13]
  clear e0 e1 e2 e3 e5 e6 e7 e8 e9 e10 e11 e12 e13
  have HB0 := Lib.hid (HBX.out _ hb)
  have HBB1 := Lib.hid (HBB.out.2 (by rw [← HR.out]; simp))
  have HG0 := Lib.hid hb
  clear e4 hb hI c0 c1 c2 l1
  go_wp2_with fail
  go_loopw [9, 10] (fun ov iv wx => ∃ (k : Nat), k ≤ n ∧ iv = .int .i64 k ∧ Hid (OwnI wx wb.heap.size ov (intsL (blkF m (p, sd, fr) k)) ∧ Grows wb wx)) (fun _ iv _ => n - (intOf iv).toNat)
  case atStart => exact ⟨0, by omega, rfl, Lib.hid ⟨World.ownsRow_nil _ _ _ _, HG0.out⟩⟩
  case round =>
   obtain ⟨k, hk, rfl, HI⟩ := hrel
   by_cases hlt : k < n
   ·have B1 := H1.out.1.grow HI.out.2
    have c0 := B1.cell 0
    have c1 := B1.cell 1
    have c2 := B1.cell 2
    simp only [List.getElem?_toArray, List.getElem?_cons_zero, List.getElem?_cons_succ] at c0 c1 c2
    have l1 := B1.lt
    clear B1
    by_cases hkp : k = p
    ·subst hkp
     have HB2 := Lib.hid (blkF_succ m (k, sd, fr) k)
     go_wp2_with fail
     refine ⟨⟨k + 1, by omega, by simp, Lib.hid ⟨?_, HI.out.2⟩⟩, by simp [intOf]; omega⟩
     rw [HB2.out]
     simpa using HI.out.1
    ·have hkp2 : ¬ ((k : Int) = (p : Int)) := by omega
     have HKP := Lib.hid hkp; clear hkp
     go_wp2_with fail
     obtain ⟨wo, hwo⟩ : ∃ wo, wo = wr := ⟨_, rfl⟩
     subst hwo
     have hx := HI.out.1
     obtain ⟨p9, n9, c9, hu9⟩ := own_shapeN hx
     subst hu9
     clear c0 c1 c2 l1 hx
     rw [show ((k : Int) == (p : Int)) = false from beq_eq_false_iff_ne.2 hkp2]
     go_loopw [11, 12] (fun ov iv wx => ∃ (j : Nat), j ≤ n ∧ iv = .int .i64 j ∧ Hid (OwnI wx wo.heap.size ov (intsL (restF k p j)) ∧ Below wo.heap.size wo wx)) (fun _ iv _ => n - (intOf iv).toNat)
     case atStart => exact ⟨0, by omega, rfl, Lib.hid ⟨World.ownsRow_nil _ _ _ _, Below.refl _ _⟩⟩
     case round =>
      obtain ⟨j, hj, rfl, HJ⟩ := hrel
      have B1 := H1.out.1.grow (Grows.trans HI.out.2 HJ.out.2)
      have c0 := B1.cell 0
      have c1 := B1.cell 1
      have c2 := B1.cell 2
      simp only [List.getElem?_toArray, List.getElem?_cons_zero, List.getElem?_cons_succ] at c0 c1 c2
      have l1 := B1.lt
      clear B1
      by_cases hjl : j < n
      ·have hx := HJ.out.1
       have hbs : wo.heap.size ≤ wr.heap.size := HJ.out.2.size
       obtain ⟨p6, n6, c6, hu6⟩ := own_shapeN hx
       subst hu6
       unfold OwnI at hx
       rw [intsL_length] at hx
       have hlen := restF_len k p j
       have HX := Lib.hid hx; clear hx
       have HS2 := Lib.hid (restF_succ k p j)
       by_cases hjk : (j : Int) = (k : Int)
       ·obtain rfl : k = j := by omega
        go_wp2_with fail
        refine ⟨⟨k + 1, by omega, by simp, Lib.hid ⟨?_, HJ.out.2⟩⟩, by simp [intOf]; omega⟩
        rw [HS2.out]
        simpa using HJ.out.1
       ·by_cases hjp : (j : Int) = (p : Int)
        ·obtain rfl : p = j := by omega
         go_wp2_with fail
         refine ⟨⟨p + 1, by omega, by simp, Lib.hid ⟨?_, HJ.out.2⟩⟩, by simp [intOf]; omega⟩
         rw [HS2.out]
         simpa using HJ.out.1
        ·have HQ := Lib.hid (And.intro hjk hjp)
         have hq1 : ((j : Int) != (k : Int)) = true := by simpa using hjk
         have hq2 : ((j : Int) != (p : Int)) = true := by simpa using hjp
         go_wp2_with (first
          | (at_builtin; refine wpList_append_own _ rfl _ _ 23 rfl wo.heap.size 3 i0 (.int .i64 0) 1 8 Tryz.underlying23 HI0.out.1 HI0.out.2.1 HI0.out.2.2.1 HI0.out.2.2.2 rfl (by decide) _ _ _ rfl (HX.out.alloc _) ⟨wr.heap.size, 0, none⟩ 1 1 [.int .i64 (j : Int)] rfl rfl (cell_one_new _ _ _) (fun x hx => by simp at hx; subst hx; rfl) (by unfold maxLen; omega) (by omega) (by simp; omega) ?_; intro v' w7 hown' hgrow7 hnil7))
         have hb7 : Below wo.heap.size wr w7 := ((bel_alloc (bel_refl wr) (.cells #[.int .i64 (j : Int)] 3)).mono hbs).grown hgrow7 (by simp; omega) (fun j hj => ((HX.out.alloc (.cells #[.int .i64 (j : Int)] 3)).lt j hj).1)
         refine ⟨⟨j + 1, by omega, by simp, Lib.hid ⟨?_, HJ.out.2.trans hb7⟩⟩, by simp [intOf]; omega⟩
         rw [HS2.out, if_pos (by have := HQ.out; simp; omega)]
         unfold OwnI
         rw [intsL_length, List.length_append]
         unfold intsL at *
         rw [List.map_append, List.map_append]
         exact hown'
      ·have HJN := Lib.hid (show j = n by omega)
       have hjf : decide ((j : Int) < (n : Int)) = false := decide_eq_false (by omega)
       have hjf2 : decide (j < n) = false := decide_eq_false (by omega)
       clear hjl
       have hL : SlI wr _ _ := HJ.out.1.sl
       rw [show restF k p j = restL n k p by rw [show j = n from HJN.out]; rfl] at hL
       obtain ⟨p6, n6, c6, hu6⟩ := own_shapeN HJ.out.1
       subst hu6
       have HCall := Lib.hid (HS.out.1 wr (HBX.out _ (Grows.trans HI.out.2 HJ.out.2)) _ _ hL)
       clear hL
       go_wp2_with fail
       refine HCall.out.mono ?_
       rintro e w8 ⟨rfl, hb8⟩
       have hG8 := Grows.trans (Grows.trans HI.out.2 HJ.out.2) hb8
       have hO8 := own_bel HI.out.1 (bel_trans HJ.out.2 hb8)
       have H8 := Lib.hid (And.intro hG8 hO8)
       clear hb8 hG8 hO8 HCall
       obtain ⟨S, hS⟩ : ∃ S, S = standM m (intsL (restL n k p)) (p, sd, fr) := ⟨_, rfl⟩
       rw [← hS]
       have HB2 : Hid (blkF m (p, sd, fr) (k + 1) = blkF m (p, sd, fr) k ++ (if S.isSome then [k] else [])) := Lib.hid (by
        rw [blkF_succ, ← HNN.out, ← hS]
        have : (k != p) = true := by simp; omega
        simp [this])
       clear hS
       cases S with
       | none =>
        rw [show atV none = .tuple #[.int .i64 0, .int .i64 0, .bool false] from rfl]
        go_wp2_with fail
        refine ⟨⟨k + 1, by omega, by simp, Lib.hid ⟨?_, H8.out.1⟩⟩, by simp [intOf]; omega⟩
        rw [HB2.out]
        simpa using H8.out.2
       | some r =>
        obtain ⟨rc, rq⟩ := r
        rw [show atV (some (rc, rq)) = .tuple #[.int .i64 rc, .int .i64 rq, .bool true] from rfl]
        have hx := H8.out.2
        have hbs : wb.heap.size ≤ w8.heap.size := H8.out.1.size
        unfold OwnI at hx
        rw [intsL_length] at hx
        have hlen := blkF_len m (p, sd, fr) k
        have HX := Lib.hid hx; clear hx
        go_wp2_with (first
         | (at_builtin; refine wpList_append_own _ rfl _ _ 23 rfl wb.heap.size 3 i0 (.int .i64 0) 1 8 Tryz.underlying23 HI0.out.1 HI0.out.2.1 HI0.out.2.2.1 HI0.out.2.2.2 rfl (by decide) _ _ _ rfl (HX.out.alloc _) ⟨w8.heap.size, 0, none⟩ 1 1 [.int .i64 (k : Int)] rfl rfl (cell_one_new _ _ _) (fun x hx => by simp at hx; subst hx; rfl) (by unfold maxLen; omega) (by omega) (by simp; omega) ?_; intro v' w7 hown' hgrow7 hnil7))
        have hb7 : Below wb.heap.size w8 w7 := ((bel_alloc (bel_refl w8) (.cells #[.int .i64 (k : Int)] 3)).mono hbs).grown hgrow7 (by simp; omega) (fun j hj => ((HX.out.alloc (.cells #[.int .i64 (k : Int)] 3)).lt j hj).1)
        refine ⟨⟨k + 1, by omega, by simp, Lib.hid ⟨?_, Below.trans H8.out.1 hb7⟩⟩, by simp [intOf]; omega⟩
        rw [HB2.out, Option.isSome_some, if_pos rfl]
        unfold OwnI
        rw [intsL_length, List.length_append]
        unfold intsL at *
        rw [List.map_append, List.map_append]
        exact hown'
   ·obtain rfl : k = n := by omega
    go_wp2_with fail
    go_ret2
    rw [HBB1.out]
    exact ⟨HBX.out _ HI.out.2, _, rfl, fun h => by (cases h), fun L h => by cases h; exact own_weak HI.out.1 (show w.heap.size ≤ wb.heap.size from H1.out.2.size)⟩
 | some r =>
  obtain ⟨rc, rq⟩ := r
  refine wp_region_val Grows (fun _ _ _ => True) [Is (.slice ai n c), Is (.slice ai n c), Is (.pointer (some ⟨N0, 0, none⟩)), Is (.int .i64 (p : Int)), (fun u W => SlI W u (intsL (othersL n p))), Is (.agg #[.int .i64 (p : Int), .int .i64 (sd : Int), .int .i64 (fr : Int)]), Is (.tuple #[.int .i64 rc, .int .i64 rq, .bool true]), Is (.tuple #[.int .i64 rc, .int .i64 rq, .bool true]), Is (.int .i64 rc), Is (.int .i64 rq), Is (.bool true), Is (.int .i64 rc), Is (.int .i64 rq), Is (.bool true)] (by kernel_rfl) (by kernel_rfl) rfl Grows.refl (fun _ _ _ => Grows.trans) (stable_mem ⟨fun _ _ _ h _ => h, fun _ _ _ h _ => h, fun _ _ _ h _ => h, fun _ _ _ h _ => h, (fun _ _ _ h g => h.mono g), fun _ _ _ h _ => h, fun _ _ _ h _ => h, fun _ _ _ h _ => h, fun _ _ _ h _ => h, fun _ _ _ h _ => h, fun _ _ _ h _ => h, fun _ _ _ h _ => h, fun _ _ _ h _ => h, fun _ _ _ h _ => h, trivial⟩) wb (Below.drew (Below.refl _ _)) trivial ?_
  refine val_cons ?_ (fun v0 => ?_)
  ·intro L vs w1 hvs hat hb hI hF; try simp [factsI, Region.binds, Is] at hF
   have hc := (Grows.cells hb).1
   clear hI
   go_simp
   try simp [upd]
   try first | exact Grows.refl _ | exact trivial | exact ⟨Grows.refl _, trivial⟩
  refine val_cons ?_ (fun v1 => ?_)
  ·intro L vs w1 hvs hat hb hI hF; try simp [factsI, Region.binds, Is] at hF
   have hc := (Grows.cells hb).1
   clear hI
   go_simp
   try simp [upd]
   try first | exact Grows.refl _ | exact trivial | exact ⟨Grows.refl _, trivial⟩
  refine val_cons ?_ (fun v2 => ?_)
  ·intro L vs w1 hvs hat hb hI hF; try simp [factsI, Region.binds, Is] at hF
   have hc := (Grows.cells hb).1
   clear hI
   go_simp
   try simp [upd]
   try first | exact Grows.refl _ | exact trivial | exact ⟨Grows.refl _, trivial⟩
  refine val_cons ?_ (fun v3 => ?_)
  ·intro L vs w1 hvs hat hb hI hF; try simp [factsI, Region.binds, Is] at hF
   have hc := (Grows.cells hb).1
   clear hI
   go_simp
   try simp [upd]
   try first | exact Grows.refl _ | exact trivial | exact ⟨Grows.refl _, trivial⟩
  refine val_cons ?_ (fun v4 => ?_)
  ·intro L vs w1 hvs hat hb hI hF; try simp [factsI, Region.binds, Is] at hF
   go_simp
   refine (HS.out.2 _).mono ?_
   rintro e w2 ⟨hb2, o, rfl, ho⟩
   exact ⟨o, rfl, hb2, ho.sl⟩
  refine val_cons ?_ (fun v5 => ?_)
  ·intro L vs w1 hvs hat hb hI hF; try simp [factsI, Region.binds, Is] at hF
   have hc := (Grows.cells hb).1
   clear hI
   go_simp
   try simp [upd]
   try first | exact Grows.refl _ | exact trivial | exact ⟨Grows.refl _, trivial⟩
  refine val_cons ?_ (fun v6 => ?_)
  ·intro L vs w1 hvs hat hb hI hF; try simp [factsI, Region.binds, Is] at hF
   go_simp
   refine (HS.out.1 _ (HBX.out _ hb) _ _ hF.2.1).mono ?_
   rintro e w2 ⟨rfl, hb2⟩
   rw [← HR.out]
   exact ⟨rfl, hb2⟩
  refine val_cons ?_ (fun v7 => ?_)
  ·intro L vs w1 hvs hat hb hI hF; try simp [factsI, Region.binds, Is] at hF
   have hc := (Grows.cells hb).1
   clear hI
   go_simp
   try simp [upd]
   try first | exact Grows.refl _ | exact trivial | exact ⟨Grows.refl _, trivial⟩
  refine val_cons ?_ (fun v8 => ?_)
  ·intro L vs w1 hvs hat hb hI hF; try simp [factsI, Region.binds, Is] at hF
   have hc := (Grows.cells hb).1
   clear hI
   go_simp
   try simp [upd]
   try first | exact Grows.refl _ | exact trivial | exact ⟨Grows.refl _, trivial⟩
  refine val_cons ?_ (fun v9 => ?_)
  ·intro L vs w1 hvs hat hb hI hF; try simp [factsI, Region.binds, Is] at hF
   have hc := (Grows.cells hb).1
   clear hI
   go_simp
   try simp [upd]
   try first | exact Grows.refl _ | exact trivial | exact ⟨Grows.refl _, trivial⟩
  refine val_cons ?_ (fun v10 => ?_)
  ·intro L vs w1 hvs hat hb hI hF; try simp [factsI, Region.binds, Is] at hF
   have hc := (Grows.cells hb).1
   clear hI
   go_simp
   try simp [upd]
   try first | exact Grows.refl _ | exact trivial | exact ⟨Grows.refl _, trivial⟩
  refine val_cons ?_ (fun v11 => ?_)
  ·intro L vs w1 hvs hat hb hI hF; try simp [factsI, Region.binds, Is] at hF
   have hc := (Grows.cells hb).1
   clear hI
   go_simp
   try simp [upd]
   try first | exact Grows.refl _ | exact trivial | exact ⟨Grows.refl _, trivial⟩
  refine val_cons ?_ (fun v12 => ?_)
  ·intro L vs w1 hvs hat hb hI hF; try simp [factsI, Region.binds, Is] at hF
   have hc := (Grows.cells hb).1
   clear hI
   go_simp
   try simp [upd]
   try first | exact Grows.refl _ | exact trivial | exact ⟨Grows.refl _, trivial⟩
  refine val_cons ?_ (fun v13 => ?_)
  ·intro L vs w1 hvs hat hb hI hF; try simp [factsI, Region.binds, Is] at hF
   have hc := (Grows.cells hb).1
   clear hI
   go_simp
   try simp [upd]
   try first | exact Grows.refl _ | exact trivial | exact ⟨Grows.refl _, trivial⟩
  refine val_nil ?_
  intro vs w1 hvs hb hI hF
  simp [Is, Nat.forall_lt_succ_right] at hF
  have e0 := hF.1.1.1.1.1.1.1.1.1.1.1.1.1
  have e1 := hF.1.1.1.1.1.1.1.1.1.1.1.1.2
  have e2 := hF.1.1.1.1.1.1.1.1.1.1.1.2
  have e3 := hF.1.1.1.1.1.1.1.1.1.1.2
  have e4 := hF.1.1.1.1.1.1.1.1.1.2
  have e5 := hF.1.1.1.1.1.1.1.1.2
  have e6 := hF.1.1.1.1.1.1.1.2
  have e7 := hF.1.1.1.1.1.1.2
  have e8 := hF.1.1.1.1.1.2
  have e9 := hF.1.1.1.1.2
  have e10 := hF.1.1.1.2
  have e11 := hF.1.1.2
  have e12 := hF.1.2
  have e13 := hF.2
  clear hF
  simp only [Act.put, List.setIfInBounds_toArray, List.set_cons_succ, List.set_cons_zero, e0, e1, e2, e3, e5, e6, e7, e8, e9, e10, e11, e12, e13]
  clear e0 e1 e2 e3 e5 e6 e7 e8 e9 e10 e11 e12 e13
  have HB0 := Lib.hid (HBX.out _ hb)
  have HBB1 := Lib.hid (HBB.out.1 (by rw [← HR.out]; rfl))
  clear e4 hb hI c0 c1 c2 l1
  go_wp2_with fail
  go_ret2
  rw [HBB1.out]
  exact ⟨HB0.out, _, rfl, fun _ => rfl, fun L h => by cases h⟩
end Go.Proofs.YtlbhjikkpbknnaaGreatDoor
end
section
namespace Go.Proofs.YtlbhjikkpbknnaaGreatDoor
open Go.RowKit Go.Rel Go.Draw
set_option maxRecDepth 100000
/-! the reference's InWay, Holds, CheckGo; the program's CheckGo, and Holds where it refuses -/
theorem movedE_zero {m : List Sol} {gone : List Int} {a b c : Int} (h : movedE m gone (a, b, c) = 0) : m.length ≤ 12 ∧ goodM m = true ∧ (∃ G, setI m.length gone = some G) ∧ ∃ pa pb pc : Nat, a = pa ∧ b = pb ∧ c = pc ∧ pa < m.length ∧ pb ≤ 4 ∧ pc ≤ 7 ∧ isMoveI b c = true ∧ IsMv m.length (pa, pb, pc) := by
 unfold movedE at h
 by_cases h0 : askE m gone [a] = 0
 ·rw [if_neg (by simpa using h0)] at h
  have hm : isMoveI b c = true := by
   cases h2 : isMoveI b c with
   | true => rfl
   | false => simp only [h2] at h; simp at h
  rw [askE_one_eq] at h0
  by_cases hE : errM m = 0
  ·rw [if_neg (by simpa using hE)] at h0
   obtain ⟨h12, hg⟩ := errM_zero.1 hE
   by_cases hc : ((setI m.length gone).isSome && decide (0 ≤ a) && decide (a < m.length) && !gone.contains a) = true
   ·simp only [Bool.and_eq_true, decide_eq_true_eq] at hc
    have hm2 := hm
    unfold isMoveI at hm2
    simp only [Bool.or_eq_true, Bool.and_eq_true, beq_iff_eq, decide_eq_true_eq] at hm2
    refine ⟨h12, hg, Option.isSome_iff_exists.1 hc.1.1.1, a.toNat, b.toNat, c.toNat, by omega, by omega, by omega, by omega, by omega, by omega, hm, ?_⟩
    show a.toNat < _ ∧ (b.toNat = 0 ∧ c.toNat = 0 ∨ 1 ≤ b.toNat ∧ b.toNat ≤ 4 ∧ 1 ≤ c.toNat ∧ c.toNat ≤ 7)
    omega
   ·rw [if_neg hc] at h0; cases h0
  ·rw [if_pos hE] at h0; exact absurd h0 hE
 ·rw [if_pos h0] at h; exact absurd h h0
def wayE (m : List Sol) (a b c : Int) : Int := if errM m ≠ 0 then errM m else if decide (0 ≤ a) && decide (a < m.length) && isMoveI b c then 0 else 1
theorem wayE_moved (m : List Sol) (a b c : Int) : movedE m [] (a, b, c) = wayE m a b c := by
 unfold movedE wayE
 simp only [askE_one_eq]
 by_cases hE : errM m = 0
 ·have hs : (setI m.length []).isSome = true := rfl
  simp only [hE, ne_eq, not_true_eq_false, if_false, hs, Bool.true_and, List.contains_nil, Bool.not_false, Bool.and_true]
  cases decide (0 ≤ a) <;> cases decide (a < (m.length : Int)) <;> cases isMoveI b c <;> simp
 ·simp [hE]
set_option maxHeartbeats 8000000 in
theorem refInWay_spec {w : World} {v : Value} {m : List Sol} {a b c : Int} (H : SlS w v m) : Calls Tryz.prog 14 #[v, .agg #[.int .i64 a, .int .i64 b, .int .i64 c]] w fun e w' => Below w.heap.size w w' ∧ ∃ u o, e = .returned (.tuple #[u, .bool o, .int .i64 (movedE m [] (a, b, c))]) ∧ (movedE m [] (a, b, c) = 0 → o = (blockedM m (natMv (a, b, c))).isSome ∧ ∀ L, blockedM m (natMv (a, b, c)) = some L → OwnI w' w.heap.size u (intsL L)) ∧ (o = false → u = .slice none 0 0) ∧ (movedE m [] (a, b, c) ≠ 0 → o = false) := by
 obtain ⟨E, hE⟩ : ∃ E, E = movedE m [] (a, b, c) := ⟨_, rfl⟩
 rw [← hE]
 have HE := Lib.hid hE
 rw [wayE_moved] at hE
 unfold wayE at hE
 obtain ⟨F, hF⟩ : ∃ F, F = errM m := ⟨_, rfl⟩
 rw [← hF] at hE
 have HEE := Lib.hid (And.intro hE hF)
 have H1 := Lib.hid fun W (h : Below w.heap.size w W) => refMould_spec (H.mono h)
 simp only [← hF] at H1
 clear hE hF
 obtain ⟨ai, nn, cc, rfl, hnn, hc, hcm⟩ := H.out
 subst hnn
 have HH := Lib.hid H
 clear H
 go_enter Tryz.func14, Tryz.ntmps14
 go_wp2_with fail
 obtain ⟨wb, hwb⟩ : ∃ wb, wb = w.alloc (.cells #[.int .i64 a, .int .i64 b, .int .i64 c] 25) := ⟨_, rfl⟩
 have H2 : Hid (Blk wb w.heap.size #[.int .i64 a, .int .i64 b, .int .i64 c] 25 ∧ Below w.heap.size w wb) := Lib.hid (by
  subst hwb
  exact ⟨Blk.new _ _ _, bel_alloc (bel_refl _) _⟩)
 rw [← hwb]
 clear hwb
 refine (H1.out _ H2.out.2).mono ?_
 rintro e w2 ⟨rfl, hb2⟩
 have hbw := bel_trans H2.out.2 hb2
 have hB := H2.out.1.grow hb2
 have cb0 := hB.cell 0; have cb1 := hB.cell 1; have cb2 := hB.cell 2; have lb := hB.lt
 simp only [List.getElem?_toArray, List.getElem?_cons_zero, List.getElem?_cons_succ] at cb0 cb1 cb2
 have HB := Lib.hid hbw
 clear hB hbw hb2
 obtain ⟨N0, hN0⟩ : ∃ N0, N0 = w.heap.size := ⟨_, rfl⟩
 rw [← hN0] at cb0 cb1 cb2 lb ⊢
 have HN0 := Lib.hid hN0
 clear hN0
 by_cases hF0 : F = 0
 ·subst hF0
  have HM := Lib.hid (IsMove_spec (w := w2) m.length a b c)
  go_wp2_with fail
  refine HM.out.mono ?_
  rintro e w3 ⟨rfl, hb3⟩
  have hE := HEE.out.1
  rw [if_neg (by simp)] at hE
  have cb0' := ((Grows.cells hb3).1 N0 0 lb).trans cb0
  have cb1' := ((Grows.cells hb3).1 N0 1 lb).trans cb1
  have cb2' := ((Grows.cells hb3).1 N0 2 lb).trans cb2
  have lb' := Nat.lt_of_lt_of_le lb hb3.size
  have HB3 := Lib.hid (bel_trans HB.out hb3)
  clear cb0 cb1 cb2 lb hb3
  cases hi : (decide (0 ≤ a) && decide (a < (m.length : Int)) && isMoveI b c)
  ·rw [hi] at hE
   have HE1 := Lib.hid (show E = 1 by rw [hE]; simp)
   clear hE hi
   go_wp2_with fail
   refine bodyPost_ret (v := .tuple #[.slice none 0 0, .bool false, .int .i64 1]) (by simp [results, Tryz.results14, go_sem]) rfl ?_
   exact ⟨HB3.out, _, false, (by rw [HE1.out]), (fun h => by rw [HE1.out] at h; cases h), fun _ => rfl, fun _ => rfl⟩
  ·rw [hi] at hE
   have HE0 := Lib.hid (show E = 0 by rw [hE]; simp)
   have hz := movedE_zero (show movedE m [] (a, b, c) = 0 by rw [← HE.out]; exact HE0.out)
   obtain ⟨h12, hg, _, pa, pb, pc, rfl, rfl, rfl, hpa, hpb, hpc, _, _⟩ := hz
   have HBK := Lib.hid (blocked_spec (HH.out.mono HB3.out) h12 (x := (pa, pb, pc)) hpa hpb hpc)
   clear hE hi hg
   go_wp2_with fail
   refine HBK.out.mono ?_
   rintro e w4 ⟨hb4, u, rfl, hn, hL⟩
   have H4 := Lib.hid (And.intro hn (And.intro hL (bel_trans HB3.out hb4)))
   clear hn hL hb4 HBK
   obtain ⟨o, ho⟩ : ∃ o, o = (blockedM m (pa, pb, pc)).isSome := ⟨_, rfl⟩
   rw [← ho]
   have HO := Lib.hid ho
   clear ho
   go_wp2_with fail
   refine bodyPost_ret (v := .tuple #[u, .bool o, .int .i64 0]) (by simp [results, Tryz.results14, go_sem]) rfl ?_
   refine ⟨H4.out.2.2, _, o, (by rw [HE0.out]), fun _ => ⟨HO.out, fun L h => own_weak (H4.out.2.1 L h) HB3.out.size⟩, fun h => H4.out.1 ?_, fun h => absurd HE0.out h⟩
   have := HO.out
   rw [h] at this
   exact Option.isSome_eq_false_iff.1 this.symm |> Option.isNone_iff_eq_none.1
 ·have h1 : ¬ (F = 0) := hF0
  have HE1 := Lib.hid (show E = F by rw [HEE.out.1, if_pos h1])
  go_wp2_with fail
  refine bodyPost_ret (v := .tuple #[.slice none 0 0, .bool false, .int .i64 F]) (by simp [results, Tryz.results14, go_sem]) rfl ?_
  exact ⟨HB.out, _, false, (by rw [HE1.out]), fun h => absurd (HE1.out.symm.trans h) hF0, fun _ => rfl, fun _ => rfl⟩
theorem movedE_asked {m : List Sol} {gone : List Int} {a b c : Int} (h : askE m gone [a] ≠ 0) : movedE m gone (a, b, c) = askE m gone [a] := by
 unfold movedE; rw [if_pos h]
theorem movedE_good {m : List Sol} {gone : List Int} {a b c : Int} (h : askE m gone [a] = 0) : movedE m gone (a, b, c) = if decide (0 ≤ a) && decide (a < m.length) && isMoveI b c then 0 else 1 := by
 unfold movedE
 rw [if_neg (by simpa using h)]
 rw [askE_one_eq] at h
 by_cases hE : errM m = 0
 ·rw [if_neg (by simpa using hE)] at h
  by_cases hc : ((setI m.length gone).isSome && decide (0 ≤ a) && decide (a < m.length) && !gone.contains a) = true
  ·simp only [Bool.and_eq_true] at hc
   rw [hc.1.1.2, hc.1.2]; rfl
  ·rw [if_neg hc] at h; cases h
 ·rw [if_pos hE] at h; exact absurd h hE
def hld4 (r : Option (Int × Int)) (E : Int) : Value := match r with
 | some (c, p) => .tuple #[.int .i64 c, .int .i64 p, .bool true, .int .i64 E]
 | none => .tuple #[.int .i64 0, .int .i64 0, .bool false, .int .i64 E]
def standE (m : List Sol) (gone : List Int) (x : MvI) : Option (Int × Int) := if movedE m gone x = 0 then standM m gone (natMv x) else none
set_option maxHeartbeats 8000000 in
theorem refHolds_spec {w : World} {v gv : Value} {m : List Sol} {gone : List Int} {a b c : Int} (H : SlS w v m) (HG : SlI w gv gone) : Calls Tryz.prog 16 #[v, gv, .agg #[.int .i64 a, .int .i64 b, .int .i64 c]] w fun e w' => e = .returned (hld4 (standE m gone (a, b, c)) (movedE m gone (a, b, c))) ∧ Below w.heap.size w w' := by
 obtain ⟨R, hR⟩ : ∃ R, R = standE m gone (a, b, c) := ⟨_, rfl⟩
 obtain ⟨E, hE⟩ : ∃ E, E = movedE m gone (a, b, c) := ⟨_, rfl⟩
 rw [← hE, ← hR]
 unfold standE at hR
 rw [← hE] at hR
 obtain ⟨A, hA⟩ : ∃ A, A = askE m gone [a] := ⟨_, rfl⟩
 have HE := Lib.hid (And.intro hE (And.intro hR hA))
 have H1 := Lib.hid fun W (h : Below w.heap.size w W) => refAsked_spec a (H.mono h) (HG.mono h)
 simp only [← hA] at H1
 clear hE hR hA
 obtain ⟨ai, nn, cc, rfl, hnn, hc, hcm⟩ := H.out
 subst hnn
 have HH := Lib.hid (And.intro H HG)
 clear H HG
 go_enter Tryz.func16, Tryz.ntmps16
 go_wp2_with fail
 obtain ⟨wb, hwb⟩ : ∃ wb, wb = w.alloc (.cells #[.int .i64 a, .int .i64 b, .int .i64 c] 25) := ⟨_, rfl⟩
 have H2 : Hid (Blk wb w.heap.size #[.int .i64 a, .int .i64 b, .int .i64 c] 25 ∧ Below w.heap.size w wb) := Lib.hid (by
  subst hwb
  exact ⟨Blk.new _ _ _, bel_alloc (bel_refl _) _⟩)
 rw [← hwb]
 clear hwb
 refine (H1.out _ H2.out.2).mono ?_
 rintro e w2 ⟨rfl, hb2⟩
 have hbw := bel_trans H2.out.2 hb2
 have hB := H2.out.1.grow hb2
 have cb0 := hB.cell 0; have cb1 := hB.cell 1; have cb2 := hB.cell 2; have lb := hB.lt
 simp only [List.getElem?_toArray, List.getElem?_cons_zero, List.getElem?_cons_succ] at cb0 cb1 cb2
 have HB := Lib.hid hbw
 clear hB hbw hb2
 obtain ⟨N0, hN0⟩ : ∃ N0, N0 = w.heap.size := ⟨_, rfl⟩
 rw [← hN0] at cb0 cb1 cb2 lb ⊢
 have HN0 := Lib.hid hN0
 clear hN0
 by_cases hF0 : A = 0
 ·subst hF0
  have HM := Lib.hid (IsMove_spec (w := w2) m.length a b c)
  go_wp2_with fail
  refine HM.out.mono ?_
  rintro e w3 ⟨rfl, hb3⟩
  have hE := HE.out.1.trans (movedE_good HE.out.2.2.symm)
  have cb0' := ((Grows.cells hb3).1 N0 0 lb).trans cb0
  have cb1' := ((Grows.cells hb3).1 N0 1 lb).trans cb1
  have cb2' := ((Grows.cells hb3).1 N0 2 lb).trans cb2
  have lb' := Nat.lt_of_lt_of_le lb hb3.size
  have HB3 := Lib.hid (bel_trans HB.out hb3)
  clear cb0 cb1 cb2 lb hb3
  cases hi : (decide (0 ≤ a) && decide (a < (m.length : Int)) && isMoveI b c)
  ·rw [hi] at hE
   have hE1 : E = 1 := by rw [hE]; simp
   have HE1 := Lib.hid (And.intro hE1 (show R = none by rw [HE.out.2.1, if_neg (by omega)]))
   clear hE hi hE1
   go_wp2_with fail
   refine bodyPost_ret (v := .tuple #[.int .i64 0, .int .i64 0, .bool false, .int .i64 1]) (by simp [results, Tryz.results16, go_sem]) rfl ?_
   exact ⟨by rw [HE1.out.1, HE1.out.2]; rfl, HB3.out⟩
  ·rw [hi] at hE
   have hE0 : E = 0 := by rw [hE]; simp
   have hz := movedE_zero (HE.out.1.symm.trans hE0)
   obtain ⟨h12, hg, _, pa, pb, pc, rfl, rfl, rfl, hpa, hpb, hpc, _, _⟩ := hz
   have HST := Lib.hid (Stand_spec (HH.out.1.mono HB3.out) (HH.out.2.mono HB3.out) (x := (pa, pb, pc)) hpa hpb hpc)
   have HR := HE.out.2.1
   rw [if_pos hE0] at HR
   have HE0 := Lib.hid (And.intro hE0 (show R = standM m gone (pa, pb, pc) from HR))
   clear hE hi hg hE0 HR
   go_wp2_with fail
   refine HST.out.mono ?_
   rintro e w4 ⟨rfl, hb4⟩
   have H4 := Lib.hid (bel_trans HB3.out hb4)
   clear hb4 HST
   rw [← HE0.out.2]
   cases R with
   | none =>
    rw [show atV none = .tuple #[.int .i64 0, .int .i64 0, .bool false] from rfl]
    go_wp2_with fail
    refine bodyPost_ret (v := .tuple #[.int .i64 0, .int .i64 0, .bool false, .int .i64 0]) (by simp [results, Tryz.results16, go_sem]) rfl ?_
    exact ⟨by rw [HE0.out.1]; rfl, H4.out⟩
   | some r =>
    obtain ⟨rc, rq⟩ := r
    rw [show atV (some (rc, rq)) = .tuple #[.int .i64 rc, .int .i64 rq, .bool true] from rfl]
    go_wp2_with fail
    refine bodyPost_ret (v := .tuple #[.int .i64 rc, .int .i64 rq, .bool true, .int .i64 0]) (by simp [results, Tryz.results16, go_sem]) rfl ?_
    exact ⟨by rw [HE0.out.1]; rfl, H4.out⟩
 ·have h1 : ¬ (A = 0) := hF0
  have hE1 : E = A := HE.out.1.trans ((movedE_asked (fun h => hF0 (HE.out.2.2.trans h))).trans HE.out.2.2.symm)
  have HE1 := Lib.hid (And.intro hE1 (show R = none by rw [HE.out.2.1, if_neg (by rw [hE1]; exact hF0)]))
  clear hE1
  go_wp2_with fail
  refine bodyPost_ret (v := .tuple #[.int .i64 0, .int .i64 0, .bool false, .int .i64 A]) (by simp [results, Tryz.results16, go_sem]) rfl ?_
  exact ⟨by rw [HE1.out.1, HE1.out.2]; rfl, HB.out⟩
theorem standE_err {m : List Sol} {gone : List Int} {x : MvI} (h : movedE m gone x ≠ 0) : standE m gone x = none := by unfold standE; rw [if_neg h]
set_option maxHeartbeats 8000000 in
theorem refCheckGo_spec {w : World} {v gv : Value} {m : List Sol} {gone : List Int} {a b c : Int} (H : SlS w v m) (HG : SlI w gv gone) : Calls Tryz.prog 18 #[v, gv, .agg #[.int .i64 a, .int .i64 b, .int .i64 c]] w fun e w' => e = .returned (.tuple #[.bool (decide (movedE m gone (a, b, c) = 0) && !(standE m gone (a, b, c)).isSome), .int .i64 (movedE m gone (a, b, c))]) ∧ Below w.heap.size w w' := by
 have H1 := Lib.hid fun W (h : Below w.heap.size w W) => refHolds_spec (a := a) (b := b) (c := c) (H.mono h) (HG.mono h)
 have hr := standE_err (m := m) (gone := gone) (x := (a, b, c))
 obtain ⟨R, hR⟩ : ∃ R, R = standE m gone (a, b, c) := ⟨_, rfl⟩
 obtain ⟨E, hE⟩ : ∃ E, E = movedE m gone (a, b, c) := ⟨_, rfl⟩
 simp only [← hE, ← hR] at H1 hr ⊢
 have HR := Lib.hid hr
 clear hE hR hr H HG
 go_enter Tryz.func18, Tryz.ntmps18
 go_wp2_with fail
 refine (H1.out _ (by repeat (first | with_reducible exact bel_refl _ | with_reducible assumption | with_reducible refine bel_drewN ?_ _ | with_reducible refine bel_drew ?_ | with_reducible refine bel_alloc ?_ _ | with_reducible refine bel_row ?_ ?_ _ | with_reducible refine bel_set ?_ ?_ _ | refine bel_trans ?_ (by with_reducible assumption) | (simp; done) | (simp; omega)))).mono ?_
 rintro e w2 ⟨rfl, hb2⟩
 have HB := Lib.hid (bel_trans ((by repeat (first | with_reducible exact bel_refl _ | with_reducible assumption | with_reducible refine bel_drewN ?_ _ | with_reducible refine bel_drew ?_ | with_reducible refine bel_alloc ?_ _ | with_reducible refine bel_row ?_ ?_ _ | with_reducible refine bel_set ?_ ?_ _ | refine bel_trans ?_ (by with_reducible assumption) | (simp; done) | (simp; omega))) : Below w.heap.size w (w.alloc (.cells #[.int .i64 a, .int .i64 b, .int .i64 c] 25))) hb2)
 clear hb2
 by_cases h0 : E = 0
 ·subst h0
  cases R with
  | none =>
   rw [show hld4 none 0 = .tuple #[.int .i64 0, .int .i64 0, .bool false, .int .i64 0] from rfl]
   go_wp2_with fail
   go_ret2
   exact ⟨rfl, HB.out⟩
  | some r =>
   obtain ⟨rc, rq⟩ := r
   rw [show hld4 (some (rc, rq)) 0 = .tuple #[.int .i64 rc, .int .i64 rq, .bool true, .int .i64 0] from rfl]
   go_wp2_with fail
   go_ret2
   exact ⟨rfl, HB.out⟩
 ·have h1 : ¬ (E = 0) := h0
  rw [HR.out h0, show hld4 none E = .tuple #[.int .i64 0, .int .i64 0, .bool false, .int .i64 E] from rfl]
  go_wp2_with fail
  go_ret2
  exact ⟨by simp [h1], HB.out⟩
end Go.Proofs.YtlbhjikkpbknnaaGreatDoor
end
