import Derived.Test.YtlbhjikkpbknnaaGreatDoorHQ1
/-
  Given contracts of functions of the program, and laws for them, one behind the other.
-/
set_option linter.unusedVariables false
set_option linter.unusedSimpArgs false
set_option linter.unusedSectionVars false
section
namespace Go.Proofs.YtlbhjikkpbknnaaGreatDoor
open Go.RowKit Go.Rel Go.Draw
set_option maxRecDepth 100000
/-! the reference's CheckMould -/
def okI (m : List Sol) (i : Nat) : Prop := ∀ j, j < i → m.getD j 0 ≠ 0 ∧ ∀ k, k < j → meets (m.getD j 0) (m.getD k 0) = false
theorem getD_at {m : List Sol} {i : Nat} (hi : i < m.length) : m.getD i 0 = m[i] := by simp [List.getD, hi]
theorem okI_good (m : List Sol) : okI m m.length ↔ goodM m = true := by
 rw [goodM_iff, List.pairwise_iff_getElem]
 constructor
 ·intro h
  refine ⟨fun s hs => ?_, fun i j hi hj hij => ?_⟩
  ·obtain ⟨i, hi, rfl⟩ := List.getElem_of_mem hs
   have := (h i hi).1
   rwa [getD_at hi] at this
  ·have := (h j hj).2 i hij
   rwa [getD_at hi, getD_at hj] at this
 ·rintro ⟨h1, h2⟩ j hj
  refine ⟨?_, fun k hk => ?_⟩
  ·rw [getD_at hj]; exact h1 _ (List.getElem_mem _)
  ·rw [getD_at hj, getD_at (by omega : k < m.length)]; exact h2 k j (by omega) hj hk
theorem meets_plv (s t : Sol) : meets s t = false ↔ ∀ z, z < 8 → plv s z &&& plv t z = 0 := by
 unfold meets
 rw [bne_eq_false_iff_eq]
 constructor
 ·intro h z _
  rw [← plv_and, h, plv_zero]
 ·intro h
  apply sol_ext
  intro k hk
  rw [plv_and, h k hk, plv_zero]
theorem sol_cellz {w : World} {b off : Nat} {l : List Sol} (h : Cells w b off 8 (l.map solL)) {k : Nat} {x : Sol} (hx : l[k]? = some x) {z : Nat} (hz : z < 8) : w.cell? ⟨b, off + k * 8 + z, none⟩ = some (.int .u64 (pl x z)) := by
 obtain ⟨h0, h1, h2, h3, h4, h5, h6, h7⟩ := sol_cells h hx
 obtain rfl | rfl | rfl | rfl | rfl | rfl | rfl | rfl : z = 0 ∨ z = 1 ∨ z = 2 ∨ z = 3 ∨ z = 4 ∨ z = 5 ∨ z = 6 ∨ z = 7 := by omega
 all_goals assumption
set_option maxHeartbeats 8000000 in
theorem refMould_spec {w : World} {v : Value} {m : List Sol} (H : SlS w v m) : Calls Tryz.prog 60 #[v] w fun e w' => e = .returned (.int .i64 (errM m)) ∧ Below w.heap.size w w' := by
 obtain ⟨ai, nn, c, rfl, hnn, hc, hcm⟩ := H.out
 subst hnn
 have HH := Lib.hid H
 clear H
 by_cases hbig : 12 < m.length
 ·have hE : errM m = 2 := by unfold errM; rw [if_pos hbig]
  rw [hE]
  have hd : decide (12 < m.length) = true := decide_eq_true hbig
  clear hE
  go_enter Tryz.func60, Tryz.ntmps60
  go_wp2_with fail
  go_ret
  exact ⟨rfl, Below.refl _ _⟩
 have hd : decide (12 < m.length) = false := decide_eq_false hbig
 have hE1 : ¬ okI m m.length → errM m = 1 := fun h => by
  unfold errM; rw [if_neg hbig]
  have : ¬ (goodM m = true) := fun h' => h ((okI_good m).2 h')
  rw [if_neg this]
 have hE0 : okI m m.length → errM m = 0 := fun h => by
  unfold errM; rw [if_neg hbig, if_pos ((okI_good m).1 h)]
 have HE := Lib.hid (And.intro hE0 hE1); clear hE0 hE1
 go_enter Tryz.func60, Tryz.ntmps60
 go_wp2_with fail
 go_loopw [3] (fun iv wx => ∃ (k : Nat), k ≤ m.length ∧ iv = .int .i64 k ∧ Hid (okI m k ∧ Below w.heap.size w wx)) (fun iv _ => m.length - (intOf iv).toNat)
 case atStart => exact ⟨0, Nat.zero_le _, rfl, Lib.hid ⟨fun j hj => by omega, Below.refl _ _⟩⟩
 case round =>
  obtain ⟨i, hi, rfl, HI⟩ := hrel
  by_cases hlt : i < m.length
  ·obtain ⟨s, hs⟩ : ∃ x, m[i]? = some x := ⟨_, List.getElem?_eq_getElem hlt⟩
   obtain ⟨b, off, c1, he, _, _, hb, hcs⟩ := sol_at_piece HH.out hs
   obtain ⟨rfl, -, rfl⟩ : ai = some ⟨b, off, none⟩ ∧ True ∧ c = c1 := by
    simp only [Value.slice.injEq] at he; exact ⟨he.1, trivial, he.2.2⟩
   have HCS := Lib.hid (And.intro hcs hs)
   have hcells := sol_cells (hcs.mono HI.out.2 hb) hs
   have lb : b < wr.heap.size := Nat.lt_of_lt_of_le hb HI.out.2.size
   have HG := Lib.hid (show m.getD i 0 = s by simp [List.getD, hs])
   clear he hs hcs
   by_cases hz : s = 0
   ·have ez : (s == 0#512) = true := beq_iff_eq.2 hz
    have HZ := Lib.hid hz; clear hz
    go_wp2_with fail
    go_ret
    refine ⟨?_, HI.out.2⟩
    rw [HE.out.2 (fun h => (h i hlt).1 (by rw [HG.out]; exact HZ.out))]; rfl
   ·have ez : (s == 0#512) = false := by rw [beq_eq_false_iff_ne]; exact hz
    have HZ := Lib.hid hz; clear hz
    go_wp2_with fail
    obtain ⟨wo, hwo⟩ : ∃ wo, wo = wr := ⟨_, rfl⟩
    subst hwo
    clear hcells lb ez
    go_loopw [4] (fun iv wx => ∃ (k : Nat), k ≤ i ∧ iv = .int .i64 k ∧ Hid ((∀ j, j < k → meets s (m.getD j 0) = false) ∧ Below w.heap.size w wx)) (fun iv _ => i - (intOf iv).toNat)
    case atStart => exact ⟨0, Nat.zero_le _, rfl, Lib.hid ⟨fun j hj => by omega, HI.out.2⟩⟩
    case round =>
     obtain ⟨k, hk, rfl, HK⟩ := hrel
     by_cases hki : k < i
     ·obtain ⟨t, ht⟩ : ∃ x, m[k]? = some x := ⟨_, List.getElem?_eq_getElem (by omega)⟩
      have HT := Lib.hid (And.intro ht (show m.getD k 0 = t by simp [List.getD, ht]))
      clear ht
      have hkm : (k : Int) < (m.length : Int) := by omega
      have him : (i : Int) < (m.length : Int) := by omega
      go_wp2_with fail
      obtain ⟨wp, hwp⟩ : ∃ wo, wo = wr := ⟨_, rfl⟩
      subst hwp
      go_loopw [5] (fun iv wx => ∃ (z : Nat), z ≤ 8 ∧ iv = .int .i64 z ∧ Hid ((∀ j, j < z → plv s j &&& plv t j = 0) ∧ Below w.heap.size w wx)) (fun iv _ => 8 - (intOf iv).toNat)
      case atStart => exact ⟨0, Nat.zero_le _, rfl, Lib.hid ⟨fun j hj => by omega, HK.out.2⟩⟩
      case round =>
       obtain ⟨z, hz8, rfl, HZZ⟩ := hrel
       by_cases hz : z < 8
       ·have hdz : decide ((z : Int) < 8) = true := decide_eq_true (by omega)
        have hzI : (z : Int) < 8 := by omega
        have cs := HCS.out.1.mono HZZ.out.2 hb
        have ci := sol_cellz cs HCS.out.2 hz
        have ck := sol_cellz cs HT.out.1 hz
        rw [pl_uI] at ci ck
        have lb : b < wr.heap.size := Nat.lt_of_lt_of_le hb HZZ.out.2.size
        have eb := bits_and_u (plv s z) (plv t z)
        clear cs
        by_cases hu : plv s z &&& plv t z = 0
        ·have hu2 : uI (plv s z &&& plv t z) = 0 := by rw [hu, uI_zero]
         have HU := Lib.hid hu; clear hu
         go_wp2_with fail
         refine Go.Rel.region_still_tail 13 (by kernel_rfl) (by kernel_rfl) ?_
         simp only [List.take_succ_cons, List.take_zero, List.drop_succ_cons, List.drop_zero]
         iterate 13 (with_reducible refine wpStill_yes (by kernel_rfl) (fun K hK => ?_); go_simp; refine hK _ ?_; clear hK K)
         refine wpStill_nil ?_
         go_wp2_with fail
         refine ⟨⟨z + 1, by omega, by simp, Lib.hid ⟨fun j hj => ?_, bel_drew HZZ.out.2⟩⟩, by simp [intOf]; omega⟩
         rcases Nat.lt_succ_iff_lt_or_eq.1 hj with h | rfl
         ·exact HZZ.out.1 j h
         ·exact HU.out
        ·have hu2 : ¬ (uI (plv s z &&& plv t z) = 0) := fun e => hu (uI_inj.1 (e.trans uI_zero.symm))
         have HU := Lib.hid hu; clear hu
         go_wp2_with fail
         refine Go.Rel.region_still_tail 13 (by kernel_rfl) (by kernel_rfl) ?_
         simp only [List.take_succ_cons, List.take_zero, List.drop_succ_cons, List.drop_zero]
         iterate 13 (with_reducible refine wpStill_yes (by kernel_rfl) (fun K hK => ?_); go_simp; refine hK _ ?_; clear hK K)
         refine wpStill_nil ?_
         go_wp2_with fail
         go_ret
         refine ⟨?_, bel_drew HZZ.out.2⟩
         rw [HE.out.2 (fun h => ?_)]
         ·rfl
         ·have h2 := (h i hlt).2 k hki
          rw [HG.out, HT.out.2] at h2
          exact HU.out ((meets_plv s t).1 h2 z hz)
       ·have hdz : decide ((z : Int) < 8) = false := decide_eq_false (by omega)
        have HM := Lib.hid (show meets s t = false from (meets_plv s t).2 fun j hj => HZZ.out.1 j (by omega))
        go_wp2_with fail
        refine ⟨⟨k + 1, by omega, by simp, Lib.hid ⟨fun j hj => ?_, HZZ.out.2⟩⟩, by simp [intOf]; omega⟩
        rcases Nat.lt_succ_iff_lt_or_eq.1 hj with h | rfl
        ·exact HK.out.1 j h
        ·rw [HT.out.2]; exact HM.out
     ·obtain rfl : k = i := by omega
      go_wp2_with fail
      refine ⟨⟨k + 1, by omega, by simp, Lib.hid ⟨fun j hj => ?_, HK.out.2⟩⟩, by simp [intOf]; omega⟩
      rcases Nat.lt_succ_iff_lt_or_eq.1 hj with h | rfl
      ·exact HI.out.1 j h
      ·rw [HG.out]; exact ⟨HZ.out, fun q hq => HK.out.1 q hq⟩
  ·obtain rfl : i = m.length := by omega
   go_wp2_with fail
   go_ret
   refine ⟨?_, HI.out.2⟩
   rw [HE.out.1 HI.out.1]; rfl
end Go.Proofs.YtlbhjikkpbknnaaGreatDoor
end
section
namespace Go.Proofs.YtlbhjikkpbknnaaGreatDoor
open Go.RowKit Go.Rel Go.Draw
set_option maxRecDepth 100000
/-! the reference's asked, blocked, InWay, Holds, CheckGo -/
theorem askE_one_eq (m : List Sol) (gone : List Int) (p : Int) : askE m gone [p] = if errM m ≠ 0 then errM m else if (setI m.length gone).isSome && decide (0 ≤ p) && decide (p < m.length) && !gone.contains p then 0 else 1 := by
 unfold askE
 by_cases h0 : errM m = 0
 ·rw [if_neg (by simpa using h0), if_neg (by simpa using h0)]
  have hn12 := (errM_zero.1 h0).1
  cases hs : setI m.length gone with
  | none => rfl
  | some G =>
   have hl := setI_list hn12 hs
   simp only [Option.isSome_some, Bool.true_and, List.any_cons, List.any_nil, Bool.or_false]
   unfold askF
   by_cases hp : 0 ≤ p
   ·obtain ⟨q, rfl⟩ : ∃ q : Nat, p = q := ⟨p.toNat, by omega⟩
    rw [hl, contains_listU, Int.toNat_natCast]
    by_cases hq : (q : Int) < m.length
    ·have e1 : decide ((q : Int) < 0) = false := decide_eq_false (by omega)
     have e2 : decide ((m.length : Int) ≤ (q : Int)) = false := decide_eq_false (by omega)
     rw [e1, e2, decide_eq_true hp, decide_eq_true hq]
     cases G.getLsbD q <;> rfl
    ·have e2 : decide ((m.length : Int) ≤ (q : Int)) = true := decide_eq_true (by omega)
     rw [e2, decide_eq_false hq]
     simp
   ·have e1 : decide (p < 0) = true := decide_eq_true (by omega)
    rw [e1, decide_eq_false hp]
    simp
 ·rw [if_pos h0, if_pos h0]
set_option maxHeartbeats 8000000 in
theorem refAsked_spec {w : World} {v gv : Value} {m : List Sol} {gone : List Int} (p : Int) (H : SlS w v m) (HG : SlI w gv gone) : Calls Tryz.prog 75 #[v, gv, .int .i64 p] w fun e w' => e = .returned (.int .i64 (askE m gone [p])) ∧ Below w.heap.size w w' := by
 obtain ⟨A, hA⟩ : ∃ A, A = askE m gone [p] := ⟨_, rfl⟩
 rw [← hA]
 rw [askE_one_eq] at hA
 obtain ⟨ai, nn, c, rfl, hnn, hc, hcm⟩ := H.out
 subst hnn
 have HH := Lib.hid (And.intro H HG)
 have H1 := Lib.hid (refMould_spec H)
 clear H HG
 obtain ⟨E, hE⟩ : ∃ E, E = errM m := ⟨_, rfl⟩
 rw [← hE] at H1 hA
 have HE := Lib.hid hE; have HA := Lib.hid hA; clear hE hA
 go_enter Tryz.func75, Tryz.ntmps75
 go_wp2_with fail
 refine H1.out.mono ?_
 rintro e w2 ⟨rfl, hb2⟩
 have HB := Lib.hid hb2; clear hb2
 by_cases h0 : E = 0
 ·subst h0
  have hn12 := (errM_zero.1 HE.out.symm).1
  have H2 := Lib.hid (IsSet_spec (HH.out.2.mono HB.out) hn12)
  have H3 := Lib.hid fun W (h : Below w2.heap.size w2 W) => In_spec p (HH.out.2.mono (HB.out.trans (h.mono HB.out.size)))
  go_wp2_with fail
  refine H2.out.mono ?_
  rintro e w3 ⟨rfl, hb3⟩
  have HB3 := Lib.hid hb3; clear hb3
  cases hs : (setI m.length gone).isSome
  ·have HS := Lib.hid hs; clear hs
   go_wp2_with fail
   go_ret
   exact ⟨by rw [HA.out, HS.out]; simp, HB.out.trans (HB3.out.mono HB.out.size)⟩
  ·have HS := Lib.hid hs; clear hs
   by_cases hp : 0 ≤ p ∧ p < m.length
   ·have d1 : decide (p < 0) = false := decide_eq_false (by omega)
    have d2 : decide ((m.length : Int) ≤ p) = false := decide_eq_false (by omega)
    have HP := Lib.hid hp; clear hp
    go_wp2_with fail
    refine (H3.out _ HB3.out).mono ?_
    rintro e w5 ⟨rfl, hw5⟩
    have hw6 := hw5.symm
    subst hw6
    clear hw5
    cases hct : gone.contains p
    ·have HC := Lib.hid hct; clear hct
     go_wp2_with fail
     go_ret
     exact ⟨by rw [HA.out, HS.out, HC.out]; simp [HP.out.1, HP.out.2], HB.out.trans (HB3.out.mono HB.out.size)⟩
    ·have HC := Lib.hid hct; clear hct
     go_wp2_with fail
     go_ret
     exact ⟨by rw [HA.out, HS.out, HC.out]; simp, HB.out.trans (HB3.out.mono HB.out.size)⟩
   ·have HP := Lib.hid hp; clear hp
    go_wp2_with fail
    all_goals first
     | (exfalso; exact HP.out (by omega))
     | (go_ret; refine ⟨?_, HB.out.trans (HB3.out.mono HB.out.size)⟩; rw [HA.out, if_neg (by simp), if_neg (by have := HP.out; rw [HS.out]; simp; intro h1 h2; exact absurd ⟨h1, h2⟩ this)]; rfl)
 ·have h1 : ¬ (E = 0) := h0
  go_wp2_with fail
  go_ret
  refine ⟨?_, HB.out⟩
  rw [HA.out, if_pos h1]; rfl
end Go.Proofs.YtlbhjikkpbknnaaGreatDoor
end
section
namespace Go.Proofs.YtlbhjikkpbknnaaGreatDoor
open Go.RowKit Go.Rel Go.Draw
set_option maxRecDepth 100000
/-! the reference's blocked -/
def blkF (m : List Sol) (x : Mv) (k : Nat) : List Nat := (List.range k).filter fun i => i != x.1 && (standM m (intsL (restL m.length i x.1)) x).isSome
theorem blkF_succ (m : List Sol) (x : Mv) (k : Nat) : blkF m x (k + 1) = blkF m x k ++ (if k != x.1 && (standM m (intsL (restL m.length k x.1)) x).isSome then [k] else []) := by
 unfold blkF
 rw [List.range_succ, List.filter_append]
 congr 1
 cases h : (k != x.1 && (standM m (intsL (restL m.length k x.1)) x).isSome) <;> simp only [List.filter_cons, List.filter_nil, h] <;> rfl
theorem blkF_len (m : List Sol) (x : Mv) (k : Nat) : (blkF m x k).length ≤ k := by
 unfold blkF
 have := List.length_filter_le (fun i => i != x.1 && (standM m (intsL (restL m.length i x.1)) x).isSome) (List.range k)
 simpa using this
def restF (i p k : Nat) : List Nat := (List.range k).filter fun j => j != i && j != p
theorem restF_succ (i p k : Nat) : restF i p (k + 1) = restF i p k ++ (if k != i && k != p then [k] else []) := by
 unfold restF
 rw [List.range_succ, List.filter_append]
 congr 1
 cases h : (k != i && k != p) <;> simp only [List.filter_cons, List.filter_nil, h] <;> rfl
theorem restF_len (i p k : Nat) : (restF i p k).length ≤ k := by
 unfold restF
 have := List.length_filter_le (fun j => j != i && j != p) (List.range k)
 simpa using this
set_option maxHeartbeats 1000000 in
theorem blocked_spec {w : World} {v : Value} {m : List Sol} (H : SlS w v m) (hm : m.length ≤ 12) {x : Mv} (hx : x.1 < m.length) (hs4 : x.2.1 ≤ 4) (hf7 : x.2.2 ≤ 7) : Calls Tryz.prog 72 #[v, mvV x] w fun e w' => Below w.heap.size w w' ∧ ∃ u, e = .returned (.tuple #[u, .bool (blockedM m x).isSome]) ∧ (blockedM m x = none → u = .slice none 0 0) ∧ ∀ L, blockedM m x = some L → OwnI w' w.heap.size u (intsL L) := by
 obtain ⟨i0, hi, hz0, hz1, hz2⟩ := info_parts infoInt
 have HI0 := Lib.hid (And.intro hi (And.intro hz0 (And.intro hz1 hz2))); clear hi hz0 hz1 hz2
 obtain ⟨B, hB⟩ : ∃ B, B = blockedM m x := ⟨_, rfl⟩
 rw [← hB]
 have hB1 : (standM m (intsL (othersL m.length x.1)) x).isSome = true → B = none := fun h => by rw [hB]; unfold blockedM; rw [if_pos h]
 have hB2 : ¬ (standM m (intsL (othersL m.length x.1)) x).isSome = true → B = some (blkF m x m.length) := fun h => by rw [hB]; unfold blockedM; rw [if_neg h]; rfl
 have HBB := Lib.hid (And.intro hB1 hB2)
 clear hB hB1 hB2
 obtain ⟨ai, nn, c, rfl, hnn, hc, hcm⟩ := H.out
 subst hnn
 have hSt := fun W (h : Below w.heap.size w W) gv g (hg : SlI W gv g) => Stand_spec (H.mono h) hg hx hs4 hf7
 have hOt := fun W => others_spec (w := W) ai m.length c x.1 (by omega)
 rw [othersI_nat] at hOt
 have HS := Lib.hid (And.intro hSt hOt)
 have hxI : (x.1 : Int) < (m.length : Int) := by omega
 clear hSt hOt H
 obtain ⟨p, sd, fr⟩ := x
 simp only at hx hs4 hf7 hxI HBB HS
 obtain ⟨n, hn⟩ : ∃ n, n = m.length := ⟨_, rfl⟩
 rw [← hn] at HBB HS hxI hc hx hm ⊢
 have HNN := Lib.hid hn
 clear hn
 go_enter Tryz.func72, Tryz.ntmps72
 go_wp2_with fail
 obtain ⟨wb, hwb⟩ : ∃ wb, wb = w.alloc (.cells #[.int .i64 (p : Int), .int .i64 (sd : Int), .int .i64 (fr : Int)] 25) := ⟨_, rfl⟩
 rw [← hwb]
 have H1 := Lib.hid (show Blk wb w.heap.size #[.int .i64 (p : Int), .int .i64 (sd : Int), .int .i64 (fr : Int)] 25 ∧ Below w.heap.size w wb by subst hwb; exact ⟨Blk.new _ _ _, (by repeat (first | with_reducible exact bel_refl _ | with_reducible assumption | with_reducible refine bel_drewN ?_ _ | with_reducible refine bel_drew ?_ | with_reducible refine bel_alloc ?_ _ | with_reducible refine bel_row ?_ ?_ _ | with_reducible refine bel_set ?_ ?_ _ | refine bel_trans ?_ (by with_reducible assumption) | (simp; done) | (simp; omega)))⟩)
 clear hwb
 obtain ⟨N0, hN0⟩ : ∃ N0, N0 = w.heap.size := ⟨_, rfl⟩
 have HN0 := Lib.hid hN0
 rw [← hN0] at H1 ⊢
 clear hN0
 have c0 := H1.out.1.cell 0
 have c1 := H1.out.1.cell 1
 have c2 := H1.out.1.cell 2
 simp only [List.getElem?_toArray, List.getElem?_cons_zero, List.getElem?_cons_succ] at c0 c1 c2
 have l1 := H1.out.1.lt
 have HBX : Hid (∀ W, Grows wb W → Below w.heap.size w W) := Lib.hid fun W h => (show Below w.heap.size w wb from HN0.out ▸ H1.out.2).trans (h.mono (show w.heap.size ≤ wb.heap.size from H1.out.2.size))
 obtain ⟨R, hR⟩ : ∃ R, R = standM m (intsL (othersL n p)) (p, sd, fr) := ⟨_, rfl⟩
 have HR := Lib.hid hR; clear hR
 cases R with
 | none =>
  refine wp_region_val Grows (fun _ _ _ => True) [Is (.slice ai n c), Is (.slice ai n c), Is (.pointer (some ⟨N0, 0, none⟩)), Is (.int .i64 (p : Int)), (fun u W => SlI W u (intsL (othersL n p))), Is (.agg #[.int .i64 (p : Int), .int .i64 (sd : Int), .int .i64 (fr : Int)]), Is (.tuple #[.int .i64 0, .int .i64 0, .bool false]), Is (.tuple #[.int .i64 0, .int .i64 0, .bool false]), Is (.int .i64 0), Is (.int .i64 0), Is (.bool false), Is (.int .i64 0), Is (.int .i64 0), Is (.bool false)] (by kernel_rfl) (by kernel_rfl) rfl Grows.refl (fun _ _ _ => Grows.trans) (stable_mem ⟨fun _ _ _ h _ => h, fun _ _ _ h _ => h, fun _ _ _ h _ => h, fun _ _ _ h _ => h, (fun _ _ _ h g => h.mono g), fun _ _ _ h _ => h, fun _ _ _ h _ => h, fun _ _ _ h _ => h, fun _ _ _ h _ => h, fun _ _ _ h _ => h, fun _ _ _ h _ => h, fun _ _ _ h _ => h, fun _ _ _ h _ => h, fun _ _ _ h _ => h, trivial⟩) wb (Below.drew (Below.refl _ _)) trivial ?_
  refine val_cons ?_ (fun v0 => ?_)
  ·intro L vs w1 hvs hat hb hI hF; try simp [factsI, Region.binds, Is] at hF
   have hc := (Grows.cells hb).1
   clear hI
   go_simp
   try simp [upd]
   try first | exact Grows.refl _ | exact trivial | exact ⟨Grows.refl _, trivial⟩
  refine val_cons ?_ (fun v1 => ?_)
  ·intro L vs w1 hvs hat hb hI hF; try simp [factsI, Region.binds, Is] at hF
   have hc := (Grows.cells hb).1
   clear hI
   go_simp
   try simp [upd]
   try first | exact Grows.refl _ | exact trivial | exact ⟨Grows.refl _, trivial⟩
  refine val_cons ?_ (fun v2 => ?_)
  ·intro L vs w1 hvs hat hb hI hF; try simp [factsI, Region.binds, Is] at hF
   have hc := (Grows.cells hb).1
   clear hI
   go_simp
   try simp [upd]
   try first | exact Grows.refl _ | exact trivial | exact ⟨Grows.refl _, trivial⟩
  refine val_cons ?_ (fun v3 => ?_)
  ·intro L vs w1 hvs hat hb hI hF; try simp [factsI, Region.binds, Is] at hF
   have hc := (Grows.cells hb).1
   clear hI
   go_simp
   try simp [upd]
   try first | exact Grows.refl _ | exact trivial | exact ⟨Grows.refl _, trivial⟩
  refine val_cons ?_ (fun v4 => ?_)
  ·intro L vs w1 hvs hat hb hI hF; try simp [factsI, Region.binds, Is] at hF
   go_simp
   refine (HS.out.2 _).mono ?_
   rintro e w2 ⟨hb2, o, rfl, ho⟩
   exact ⟨o, rfl, hb2, ho.sl⟩
  refine val_cons ?_ (fun v5 => ?_)
  ·intro L vs w1 hvs hat hb hI hF; try simp [factsI, Region.binds, Is] at hF
   have hc := (Grows.cells hb).1
   clear hI
   go_simp
   try simp [upd]
   try first | exact Grows.refl _ | exact trivial | exact ⟨Grows.refl _, trivial⟩
  refine val_cons ?_ (fun v6 => ?_)
  ·intro L vs w1 hvs hat hb hI hF; try simp [factsI, Region.binds, Is] at hF
   go_simp
   refine (HS.out.1 _ (HBX.out _ hb) _ _ hF.2.1).mono ?_
   rintro e w2 ⟨rfl, hb2⟩
   rw [← HR.out]
   exact ⟨rfl, hb2⟩
  refine val_cons ?_ (fun v7 => ?_)
  ·intro L vs w1 hvs hat hb hI hF; try simp [factsI, Region.binds, Is] at hF
   have hc := (Grows.cells hb).1
   clear hI
   go_simp
   try simp [upd]
   try first | exact Grows.refl _ | exact trivial | exact ⟨Grows.refl _, trivial⟩
  refine val_cons ?_ (fun v8 => ?_)
  ·intro L vs w1 hvs hat hb hI hF; try simp [factsI, Region.binds, Is] at hF
   have hc := (Grows.cells hb).1
   clear hI
   go_simp
   try simp [upd]
   try first | exact Grows.refl _ | exact trivial | exact ⟨Grows.refl _, trivial⟩
  refine val_cons ?_ (fun v9 => ?_)
  ·intro L vs w1 hvs hat hb hI hF; try simp [factsI, Region.binds, Is] at hF
   have hc := (Grows.cells hb).1
   clear hI
   go_simp
   try simp [upd]
   try first | exact Grows.refl _ | exact trivial | exact ⟨Grows.refl _, trivial⟩
  refine val_cons ?_ (fun v10 => ?_)
  ·intro L vs w1 hvs hat hb hI hF; try simp [factsI, Region.binds, Is] at hF
   have hc := (Grows.cells hb).1
   clear hI
   go_simp
   try simp [upd]
   try first | exact Grows.refl _ | exact trivial | exact ⟨Grows.refl _, trivial⟩
  refine val_cons ?_ (fun v11 => ?_)
  ·intro L vs w1 hvs hat hb hI hF; try simp [factsI, Region.binds, Is] at hF
   have hc := (Grows.cells hb).1
   clear hI
   go_simp
   try simp [upd]
   try first | exact Grows.refl _ | exact trivial | exact ⟨Grows.refl _, trivial⟩
  refine val_cons ?_ (fun v12 => ?_)
  ·intro L vs w1 hvs hat hb hI hF; try simp [factsI, Region.binds, Is] at hF
   have hc := (Grows.cells hb).1
   clear hI
   go_simp
   try simp [upd]
   try first | exact Grows.refl _ | exact trivial | exact ⟨Grows.refl _, trivial⟩
  refine val_cons ?_ (fun v13 => ?_)
  ·intro L vs w1 hvs hat hb hI hF; try simp [factsI, Region.binds, Is] at hF
   have hc := (Grows.cells hb).1
   clear hI
   go_simp
   try simp [upd]
   try first | exact Grows.refl _ | exact trivial | exact ⟨Grows.refl _, trivial⟩
  refine val_nil ?_
  intro vs w1 hvs hb hI hF
  simp [Is, Nat.forall_lt_succ_right] at hF
  have e0 := hF.1.1.1.1.1.1.1.1.1.1.1.1.1
  have e1 := hF.1.1.1.1.1.1.1.1.1.1.1.1.2
  have e2 := hF.1.1.1.1.1.1.1.1.1.1.1.2
  have e3 := hF.1.1.1.1.1.1.1.1.1.1.2
  have e4 := hF.1.1.1.1.1.1.1.1.1.2
  have e5 := hF.1.1.1.1.1.1.1.1.2
  have e6 := hF.1.1.1.1.1.1.1.2
  have e7 := hF.1.1.1.1.1.1.2
  have e8 := hF.1.1.1.1.1.2
  have e9 := hF.1.1.1.1.2
  have e10 := hF.1.1.1.2
  have e11 := hF.1.1.2
  have e12 := hF.1.2
  have e13 := hF.2
  clear hF
  simp only [Act.put, List.setIfInBounds_toArray, List.set_cons_succ, List.set_cons_zero, e0, e1, e2, e3, e5, e6, e7, e8, e9, e10, e11, e12, e13]
  clear e0 e1 e2 e3 e5 e6 e7 e8 e9 e10 e11 e12 e13
  have HB0 := Lib.hid (HBX.out _ hb)
  have HBB1 := Lib.hid (HBB.out.2 (by rw [← HR.out]; simp))
  have HG0 := Lib.hid hb
  clear e4 hb hI c0 c1 c2 l1
  go_wp2_with fail
  go_loopw [9, 10] (fun ov iv wx => ∃ (k : Nat), k ≤ n ∧ iv = .int .i64 k ∧ Hid (OwnI wx wb.heap.size ov (intsL (blkF m (p, sd, fr) k)) ∧ Grows wb wx)) (fun _ iv _ => n - (intOf iv).toNat)
  case atStart => exact ⟨0, by omega, rfl, Lib.hid ⟨World.ownsRow_nil _ _ _ _, HG0.out⟩⟩
  case round =>
   obtain ⟨k, hk, rfl, HI⟩ := hrel
   by_cases hlt : k < n
   ·have B1 := H1.out.1.grow HI.out.2
    have c0 := B1.cell 0
    have c1 := B1.cell 1
    have c2 := B1.cell 2
    simp only [List.getElem?_toArray, List.getElem?_cons_zero, List.getElem?_cons_succ] at c0 c1 c2
    have l1 := B1.lt
    clear B1
    by_cases hkp : k = p
    ·subst hkp
     have HB2 := Lib.hid (blkF_succ m (k, sd, fr) k)
     go_wp2_with fail
     refine ⟨⟨k + 1, by omega, by simp, Lib.hid ⟨?_, HI.out.2⟩⟩, by simp [intOf]; omega⟩
     rw [HB2.out]
     simpa using HI.out.1
    ·have hkp2 : ¬ ((k : Int) = (p : Int)) := by omega
     have HKP := Lib.hid hkp; clear hkp
     go_wp2_with fail
     obtain ⟨wo, hwo⟩ : ∃ wo, wo = wr := ⟨_, rfl⟩
     subst hwo
     have hx := HI.out.1
     obtain ⟨p9, n9, c9, hu9⟩ := own_shapeN hx
     subst hu9
     clear c0 c1 c2 l1 hx
     rw [show ((k : Int) == (p : Int)) = false from beq_eq_false_iff_ne.2 hkp2]
     go_loopw [11, 12] (fun ov iv wx => ∃ (j : Nat), j ≤ n ∧ iv = .int .i64 j ∧ Hid (OwnI wx wo.heap.size ov (intsL (restF k p j)) ∧ Below wo.heap.size wo wx)) (fun _ iv _ => n - (intOf iv).toNat)
     case atStart => exact ⟨0, by omega, rfl, Lib.hid ⟨World.ownsRow_nil _ _ _ _, Below.refl _ _⟩⟩
     case round =>
      obtain ⟨j, hj, rfl, HJ⟩ := hrel
      have B1 := H1.out.1.grow (Grows.trans HI.out.2 HJ.out.2)
      have c0 := B1.cell 0
      have c1 := B1.cell 1
      have c2 := B1.cell 2
      simp only [List.getElem?_toArray, List.getElem?_cons_zero, List.getElem?_cons_succ] at c0 c1 c2
      have l1 := B1.lt
      clear B1
      by_cases hjl : j < n
      ·have hx := HJ.out.1
       have hbs : wo.heap.size ≤ wr.heap.size := HJ.out.2.size
       obtain ⟨p6, n6, c6, hu6⟩ := own_shapeN hx
       subst hu6
       unfold OwnI at hx
       rw [intsL_length] at hx
       have hlen := restF_len k p j
       have HX := Lib.hid hx; clear hx
       have HS2 := Lib.hid (restF_succ k p j)
       by_cases hjk : (j : Int) = (k : Int)
       ·obtain rfl : k = j := by omega
        go_wp2_with fail
        refine ⟨⟨k + 1, by omega, by simp, Lib.hid ⟨?_, HJ.out.2⟩⟩, by simp [intOf]; omega⟩
        rw [HS2.out]
        simpa using HJ.out.1
       ·by_cases hjp : (j : Int) = (p : Int)
        ·obtain rfl : p = j := by omega
         go_wp2_with fail
         refine ⟨⟨p + 1, by omega, by simp, Lib.hid ⟨?_, HJ.out.2⟩⟩, by simp [intOf]; omega⟩
         rw [HS2.out]
         simpa using HJ.out.1
        ·have HQ := Lib.hid (And.intro hjk hjp)
         have hq1 : ((j : Int) != (k : Int)) = true := by simpa using hjk
         have hq2 : ((j : Int) != (p : Int)) = true := by simpa using hjp
         go_wp2_with (first
          | (at_builtin; refine wpList_append_own _ rfl _ _ 23 rfl wo.heap.size 3 i0 (.int .i64 0) 1 8 Tryz.underlying23 HI0.out.1 HI0.out.2.1 HI0.out.2.2.1 HI0.out.2.2.2 rfl (by decide) _ _ _ rfl (HX.out.alloc _) ⟨wr.heap.size, 0, none⟩ 1 1 [.int .i64 (j : Int)] rfl rfl (cell_one_new _ _ _) (fun x hx => by simp at hx; subst hx; rfl) (by unfold maxLen; omega) (by omega) (by simp; omega) ?_; intro v' w7 hown' hgrow7 hnil7))
         have hb7 : Below wo.heap.size wr w7 := ((bel_alloc (bel_refl wr) (.cells #[.int .i64 (j : Int)] 3)).mono hbs).grown hgrow7 (by simp; omega) (fun j hj => ((HX.out.alloc (.cells #[.int .i64 (j : Int)] 3)).lt j hj).1)
         refine ⟨⟨j + 1, by omega, by simp, Lib.hid ⟨?_, HJ.out.2.trans hb7⟩⟩, by simp [intOf]; omega⟩
         rw [HS2.out, if_pos (by have := HQ.out; simp; omega)]
         unfold OwnI
         rw [intsL_length, List.length_append]
         unfold intsL at *
         rw [List.map_append, List.map_append]
         exact hown'
      ·have HJN := Lib.hid (show j = n by omega)
       have hjf : decide ((j : Int) < (n : Int)) = false := decide_eq_false (by omega)
       have hjf2 : decide (j < n) = false := decide_eq_false (by omega)
       clear hjl
       have hL : SlI wr _ _ := HJ.out.1.sl
       rw [show restF k p j = restL n k p by rw [show j = n from HJN.out]; rfl] at hL
       obtain ⟨p6, n6, c6, hu6⟩ := own_shapeN HJ.out.1
       subst hu6
       have HCall := Lib.hid (HS.out.1 wr (HBX.out _ (Grows.trans HI.out.2 HJ.out.2)) _ _ hL)
       clear hL
       go_wp2_with fail
       refine HCall.out.mono ?_
       rintro e w8 ⟨rfl, hb8⟩
       have hG8 := Grows.trans (Grows.trans HI.out.2 HJ.out.2) hb8
       have hO8 := own_bel HI.out.1 (bel_trans HJ.out.2 hb8)
       have H8 := Lib.hid (And.intro hG8 hO8)
       clear hb8 hG8 hO8 HCall
       obtain ⟨S, hS⟩ : ∃ S, S = standM m (intsL (restL n k p)) (p, sd, fr) := ⟨_, rfl⟩
       rw [← hS]
       have HB2 : Hid (blkF m (p, sd, fr) (k + 1) = blkF m (p, sd, fr) k ++ (if S.isSome then [k] else [])) := Lib.hid (by
        rw [blkF_succ, ← HNN.out, ← hS]
        have : (k != p) = true := by simp; omega
        simp [this])
       clear hS
       cases S with
       | none =>
        rw [show atV none = .tuple #[.int .i64 0, .int .i64 0, .bool false] from rfl]
        go_wp2_with fail
        refine ⟨⟨k + 1, by omega, by simp, Lib.hid ⟨?_, H8.out.1⟩⟩, by simp [intOf]; omega⟩
        rw [HB2.out]
        simpa using H8.out.2
       | some r =>
        obtain ⟨rc, rq⟩ := r
        rw [show atV (some (rc, rq)) = .tuple #[.int .i64 rc, .int .i64 rq, .bool true] from rfl]
        have hx := H8.out.2
        have hbs : wb.heap.size ≤ w8.heap.size := H8.out.1.size
        unfold OwnI at hx
        rw [intsL_length] at hx
        have hlen := blkF_len m (p, sd, fr) k
        have HX := Lib.hid hx; clear hx
        go_wp2_with (first
         | (at_builtin; refine wpList_append_own _ rfl _ _ 23 rfl wb.heap.size 3 i0 (.int .i64 0) 1 8 Tryz.underlying23 HI0.out.1 HI0.out.2.1 HI0.out.2.2.1 HI0.out.2.2.2 rfl (by decide) _ _ _ rfl (HX.out.alloc _) ⟨w8.heap.size, 0, none⟩ 1 1 [.int .i64 (k : Int)] rfl rfl (cell_one_new _ _ _) (fun x hx => by simp at hx; subst hx; rfl) (by unfold maxLen; omega) (by omega) (by simp; omega) ?_; intro v' w7 hown' hgrow7 hnil7))
        have hb7 : Below wb.heap.size w8 w7 := ((bel_alloc (bel_refl w8) (.cells #[.int .i64 (k : Int)] 3)).mono hbs).grown hgrow7 (by simp; omega) (fun j hj => ((HX.out.alloc (.cells #[.int .i64 (k : Int)] 3)).lt j hj).1)
        refine ⟨⟨k + 1, by omega, by simp, Lib.hid ⟨?_, Below.trans H8.out.1 hb7⟩⟩, by simp [intOf]; omega⟩
        rw [HB2.out, Option.isSome_some, if_pos rfl]
        unfold OwnI
        rw [intsL_length, List.length_append]
        unfold intsL at *
        rw [List.map_append, List.map_append]
        exact hown'
   ·obtain rfl : k = n := by omega
    go_wp2_with fail
    go_ret2
    rw [HBB1.out]
    exact ⟨HBX.out _ HI.out.2, _, rfl, fun h => by (cases h), fun L h => by cases h; exact own_weak HI.out.1 (show w.heap.size ≤ wb.heap.size from H1.out.2.size)⟩
 | some r =>
  obtain ⟨rc, rq⟩ := r
  refine wp_region_val Grows (fun _ _ _ => True) [Is (.slice ai n c), Is (.slice ai n c), Is (.pointer (some ⟨N0, 0, none⟩)), Is (.int .i64 (p : Int)), (fun u W => SlI W u (intsL (othersL n p))), Is (.agg #[.int .i64 (p : Int), .int .i64 (sd : Int), .int .i64 (fr : Int)]), Is (.tuple #[.int .i64 rc, .int .i64 rq, .bool true]), Is (.tuple #[.int .i64 rc, .int .i64 rq, .bool true]), Is (.int .i64 rc), Is (.int .i64 rq), Is (.bool true), Is (.int .i64 rc), Is (.int .i64 rq), Is (.bool true)] (by kernel_rfl) (by kernel_rfl) rfl Grows.refl (fun _ _ _ => Grows.trans) (stable_mem ⟨fun _ _ _ h _ => h, fun _ _ _ h _ => h, fun _ _ _ h _ => h, fun _ _ _ h _ => h, (fun _ _ _ h g => h.mono g), fun _ _ _ h _ => h, fun _ _ _ h _ => h, fun _ _ _ h _ => h, fun _ _ _ h _ => h, fun _ _ _ h _ => h, fun _ _ _ h _ => h, fun _ _ _ h _ => h, fun _ _ _ h _ => h, fun _ _ _ h _ => h, trivial⟩) wb (Below.drew (Below.refl _ _)) trivial ?_
  refine val_cons ?_ (fun v0 => ?_)
  ·intro L vs w1 hvs hat hb hI hF; try simp [factsI, Region.binds, Is] at hF
   have hc := (Grows.cells hb).1
   clear hI
   go_simp
   try simp [upd]
   try first | exact Grows.refl _ | exact trivial | exact ⟨Grows.refl _, trivial⟩
  refine val_cons ?_ (fun v1 => ?_)
  ·intro L vs w1 hvs hat hb hI hF; try simp [factsI, Region.binds, Is] at hF
   have hc := (Grows.cells hb).1
   clear hI
   go_simp
   try simp [upd]
   try first | exact Grows.refl _ | exact trivial | exact ⟨Grows.refl _, trivial⟩
  refine val_cons ?_ (fun v2 => ?_)
  ·intro L vs w1 hvs hat hb hI hF; try simp [factsI, Region.binds, Is] at hF
   have hc := (Grows.cells hb).1
   clear hI
   go_simp
   try simp [upd]
   try first | exact Grows.refl _ | exact trivial | exact ⟨Grows.refl _, trivial⟩
  refine val_cons ?_ (fun v3 => ?_)
  ·intro L vs w1 hvs hat hb hI hF; try simp [factsI, Region.binds, Is] at hF
   have hc := (Grows.cells hb).1
   clear hI
   go_simp
   try simp [upd]
   try first | exact Grows.refl _ | exact trivial | exact ⟨Grows.refl _, trivial⟩
  refine val_cons ?_ (fun v4 => ?_)
  ·intro L vs w1 hvs hat hb hI hF; try simp [factsI, Region.binds, Is] at hF
   go_simp
   refine (HS.out.2 _).mono ?_
   rintro e w2 ⟨hb2, o, rfl, ho⟩
   exact ⟨o, rfl, hb2, ho.sl⟩
  refine val_cons ?_ (fun v5 => ?_)
  ·intro L vs w1 hvs hat hb hI hF; try simp [factsI, Region.binds, Is] at hF
   have hc := (Grows.cells hb).1
   clear hI
   go_simp
   try simp [upd]
   try first | exact Grows.refl _ | exact trivial | exact ⟨Grows.refl _, trivial⟩
  refine val_cons ?_ (fun v6 => ?_)
  ·intro L vs w1 hvs hat hb hI hF; try simp [factsI, Region.binds, Is] at hF
   go_simp
   refine (HS.out.1 _ (HBX.out _ hb) _ _ hF.2.1).mono ?_
   rintro e w2 ⟨rfl, hb2⟩
   rw [← HR.out]
   exact ⟨rfl, hb2⟩
  refine val_cons ?_ (fun v7 => ?_)
  ·intro L vs w1 hvs hat hb hI hF; try simp [factsI, Region.binds, Is] at hF
   have hc := (Grows.cells hb).1
   clear hI
   go_simp
   try simp [upd]
   try first | exact Grows.refl _ | exact trivial | exact ⟨Grows.refl _, trivial⟩
  refine val_cons ?_ (fun v8 => ?_)
  ·intro L vs w1 hvs hat hb hI hF; try simp [factsI, Region.binds, Is] at hF
   have hc := (Grows.cells hb).1
   clear hI
   go_simp
   try simp [upd]
   try first | exact Grows.refl _ | exact trivial | exact ⟨Grows.refl _, trivial⟩
  refine val_cons ?_ (fun v9 => ?_)
  ·intro L vs w1 hvs hat hb hI hF; try simp [factsI, Region.binds, Is] at hF
   have hc := (Grows.cells hb).1
   clear hI
   go_simp
   try simp [upd]
   try first | exact Grows.refl _ | exact trivial | exact ⟨Grows.refl _, trivial⟩
  refine val_cons ?_ (fun v10 => ?_)
  ·intro L vs w1 hvs hat hb hI hF; try simp [factsI, Region.binds, Is] at hF
   have hc := (Grows.cells hb).1
   clear hI
   go_simp
   try simp [upd]
   try first | exact Grows.refl _ | exact trivial | exact ⟨Grows.refl _, trivial⟩
  refine val_cons ?_ (fun v11 => ?_)
  ·intro L vs w1 hvs hat hb hI hF; try simp [factsI, Region.binds, Is] at hF
   have hc := (Grows.cells hb).1
   clear hI
   go_simp
   try simp [upd]
   try first | exact Grows.refl _ | exact trivial | exact ⟨Grows.refl _, trivial⟩
  refine val_cons ?_ (fun v12 => ?_)
  ·intro L vs w1 hvs hat hb hI hF; try simp [factsI, Region.binds, Is] at hF
   have hc := (Grows.cells hb).1
   clear hI
   go_simp
   try simp [upd]
   try first | exact Grows.refl _ | exact trivial | exact ⟨Grows.refl _, trivial⟩
  refine val_cons ?_ (fun v13 => ?_)
  ·intro L vs w1 hvs hat hb hI hF; try simp [factsI, Region.binds, Is] at hF
   have hc := (Grows.cells hb).1
   clear hI
   go_simp
   try simp [upd]
   try first | exact Grows.refl _ | exact trivial | exact ⟨Grows.refl _, trivial⟩
  refine val_nil ?_
  intro vs w1 hvs hb hI hF
  simp [Is, Nat.forall_lt_succ_right] at hF
  have e0 := hF.1.1.1.1.1.1.1.1.1.1.1.1.1
  have e1 := hF.1.1.1.1.1.1.1.1.1.1.1.1.2
  have e2 := hF.1.1.1.1.1.1.1.1.1.1.1.2
  have e3 := hF.1.1.1.1.1.1.1.1.1.1.2
  have e4 := hF.1.1.1.1.1.1.1.1.1.2
  have e5 := hF.1.1.1.1.1.1.1.1.2
  have e6 := hF.1.1.1.1.1.1.1.2
  have e7 := hF.1.1.1.1.1.1.2
  have e8 := hF.1.1.1.1.1.2
  have e9 := hF.1.1.1.1.2
  have e10 := hF.1.1.1.2
  have e11 := hF.1.1.2
  have e12 := hF.1.2
  have e13 := hF.2
  clear hF
  simp only [Act.put, List.setIfInBounds_toArray, List.set_cons_succ, List.set_cons_zero, e0, e1, e2, e3, e5, e6, e7, e8, e9, e10, e11, e12, e13]
  clear e0 e1 e2 e3 e5 e6 e7 e8 e9 e10 e11 e12 e13
  have HB0 := Lib.hid (HBX.out _ hb)
  have HBB1 := Lib.hid (HBB.out.1 (by rw [← HR.out]; rfl))
  clear e4 hb hI c0 c1 c2 l1
  go_wp2_with fail
  go_ret2
  rw [HBB1.out]
  exact ⟨HB0.out, _, rfl, fun _ => rfl, fun L h => by cases h⟩
end Go.Proofs.YtlbhjikkpbknnaaGreatDoor
end
