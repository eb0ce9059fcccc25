import Derived.Test.YtkfimbonmnoglaaGreatDoorRSets29
import Derived.Deep.Cut
/-
  Given contracts of functions of the program, and laws for them, one behind the other.
-/
set_option linter.unusedVariables false
set_option linter.unusedSimpArgs false
set_option linter.unusedSectionVars false
section
namespace Go.Proofs.YtkfimbonmnoglaaGreatDoor
open Go.RowKit Go.Rel Go.Draw Go.Solid
set_option maxRecDepth 100000
def ofM (l : List Cl) : Sol × Int := if 1000 < l.length then (0, 2) else if l.all inG then (addL 0 l, 0) else (0, 1)
theorem addL_take {L : List Cl} {i : Nat} {c : Cl} (h : L[i]? = some c) : withS (addL 0 (L.take i)) c = addL 0 (L.take (i + 1)) := by
 unfold addL
 rw [List.take_add_one, h, List.foldl_append]; rfl
attribute [local irreducible] addL
set_option maxHeartbeats 8000000 in
theorem refOf_n {w : World} {base : Nat} {a : Option Addr} {c : Nat} {l : List Cl} (h : ClO base w a l) : Calls Tryz.prog 78 #[.slice a l.length c] w fun e w' => e = .returned (.tuple #[solV (ofM l).1, .int .i64 (ofM l).2]) ∧ Below w.heap.size w w' := by
 have HZ := Lib.hid zero_sols
 have HZV := Lib.hid zero_solV
 have HIn := Lib.hid fun c W => inGrid_spec c W
 have hM : ofM l = if 1000 < l.length then (0, 2) else if l.all inG then (addL 0 l, 0) else (0, 1) := rfl
 obtain ⟨R, hR⟩ : ∃ R, R = ofM l := ⟨_, rfl⟩
 rw [← hR] at hM ⊢
 obtain ⟨n, hn⟩ : ∃ n, n = l.length := ⟨_, rfl⟩
 rw [← hn] at hM ⊢
 have HN := Lib.hid hn
 have HCl := Lib.hid h
 have h0 : addL 0 (l.take 0) = 0 := by unfold addL; rfl
 have hE : addL 0 (l.take n) = addL 0 l := by rw [hn, List.take_length]
 have hst : ∀ i c, l[i]? = some c → withS (addL 0 (l.take i)) c = addL 0 (l.take (i + 1)) := fun i c h => addL_take h
 obtain ⟨A, hA⟩ : ∃ A : Nat → Sol, A = fun i => addL 0 (l.take i) := ⟨_, rfl⟩
 have H0 : Hid (A 0 = 0) := Lib.hid (by rw [hA]; exact h0)
 have HE : Hid (A n = addL 0 l) := Lib.hid (by rw [hA]; exact hE)
 have HST : Hid (∀ i c, l[i]? = some c → withS (A i) c = A (i + 1)) := Lib.hid (by rw [hA]; exact hst)
 clear h0 hE hst hA h hR hn
 by_cases hbig : 1000 < n
 ·rw [if_pos hbig] at hM
  have HR := Lib.hid hM
  have hbig2 : (1000 : Int) < n := by omega
  clear hM hbig
  go_enter Tryz.func78, Tryz.ntmps78
  go_upto_region 1 with fail
  obtain ⟨W0, hW0⟩ : ∃ W0, W0 = w.alloc (.cells #[.int .u64 0, .int .u64 0, .int .u64 0, .int .u64 0, .int .u64 0, .int .u64 0, .int .u64 0, .int .u64 0] 26) := ⟨_, rfl⟩
  have b1 : Blk W0 w.heap.size #[.int .u64 0, .int .u64 0, .int .u64 0, .int .u64 0, .int .u64 0, .int .u64 0, .int .u64 0, .int .u64 0] 26 := by rw [hW0]; exact Blk.new _ _ _
  have hbw : Below w.heap.size w W0 := by rw [hW0]; exact bel_alloc (bel_refl w) _
  rw [← hW0]
  clear hW0
  have r1 := b1.row; have l1 := b1.lt
  have cF := (b1.rowS #[.int .u64 0, .int .u64 0, .int .u64 0, .int .u64 0, .int .u64 0, .int .u64 0, .int .u64 0, .int .u64 0]).cell
  have hb5 := bel_row hbw (g := w.heap.size) (by omega) #[.int .u64 0, .int .u64 0, .int .u64 0, .int .u64 0, .int .u64 0, .int .u64 0, .int .u64 0, .int .u64 0]
  rw [← b1.rw]
  clear b1 hbw
  go_wp2_with fail
  exact bodyPost_ret (v := .tuple #[solV 0, .int .i64 2]) (by rw [HZV.out]; simp [results, Tryz.results78, go_sem, cF]) rfl ⟨by rw [HR.out], hb5⟩
 ·rw [if_neg hbig] at hM
  have HR := Lib.hid hM
  have hbig2 : ¬ ((1000 : Int) < n) := by omega
  have hlen : n ≤ 1000 := by omega
  clear hM hbig
  go_enter Tryz.func78, Tryz.ntmps78
  go_upto_region 4 with fail
  obtain ⟨W0, hW0⟩ : ∃ W0, W0 = (w.alloc (.cells #[.int .u64 0, .int .u64 0, .int .u64 0, .int .u64 0, .int .u64 0, .int .u64 0, .int .u64 0, .int .u64 0] 26)).alloc (.cells #[.int .u64 0, .int .u64 0, .int .u64 0, .int .u64 0, .int .u64 0, .int .u64 0, .int .u64 0, .int .u64 0] 26) := ⟨_, rfl⟩
  have b0 : Blk W0 (w.heap.size + 1) #[.int .u64 (pl (A 0) 0), .int .u64 (pl (A 0) 1), .int .u64 (pl (A 0) 2), .int .u64 (pl (A 0) 3), .int .u64 (pl (A 0) 4), .int .u64 (pl (A 0) 5), .int .u64 (pl (A 0) 6), .int .u64 (pl (A 0) 7)] 26 ∧ Blk W0 w.heap.size #[.int .u64 0, .int .u64 0, .int .u64 0, .int .u64 0, .int .u64 0, .int .u64 0, .int .u64 0, .int .u64 0] 26 ∧ Below w.heap.size w W0 ∧ ClO base W0 a l := by
   rw [hW0, H0.out, HZ.out]
   exact ⟨Blk.at _ _ (by simp), (by repeat (first | with_reducible assumption | (refine Blk.at _ _ ?_; (simp; done)) | with_reducible refine Blk.alloc ?_ _ | with_reducible refine Blk.drew ?_ | with_reducible refine Blk.rowS ?_ _ | with_reducible refine Blk.rowO ?_ _ (by simp))), (by repeat (first | with_reducible exact bel_refl _ | with_reducible assumption | with_reducible refine bel_drewN ?_ _ | with_reducible refine bel_drew ?_ | with_reducible refine bel_alloc ?_ _ | with_reducible refine bel_row ?_ ?_ _ | with_reducible refine bel_set ?_ ?_ _ | refine bel_trans ?_ (by with_reducible assumption) | (simp; done) | (simp; omega))), HCl.out.mono (by repeat (first | with_reducible exact bel_refl _ | with_reducible assumption | with_reducible refine bel_drewN ?_ _ | with_reducible refine bel_drew ?_ | with_reducible refine bel_alloc ?_ _ | with_reducible refine bel_row ?_ ?_ _ | with_reducible refine bel_set ?_ ?_ _ | refine bel_trans ?_ (by with_reducible assumption) | (simp; done) | (simp; omega)))⟩
  have hal : ∀ b off, a = some ⟨b, off, none⟩ → l ≠ [] → b < w.heap.size := fun b off h hl => by
   rcases HCl.out with h2 | ⟨b', off', h1, h2, _⟩
   ·exact absurd h2 hl
   ·rw [h1] at h; cases h; exact h2.1
  have HAl := Lib.hid hal
  rw [← hW0]
  clear hW0 hal
  have HB1 := Lib.hid b0
  clear b0 hbig2
  obtain ⟨ga, hga⟩ : ∃ g, g = w.heap.size + 1 := ⟨_, rfl⟩
  rw [← hga] at HB1 ⊢
  have HO := Lib.hid hga
  clear hga
  go_wp2_with fail
  go_loopw [5] (fun iv wx => ∃ i : Nat, i ≤ n ∧ iv = .int .i64 i ∧ Hid ((∀ j c, j < i → l[j]? = some c → inG c = true) ∧ Blk wx ga #[.int .u64 (pl (A i) 0), .int .u64 (pl (A i) 1), .int .u64 (pl (A i) 2), .int .u64 (pl (A i) 3), .int .u64 (pl (A i) 4), .int .u64 (pl (A i) 5), .int .u64 (pl (A i) 6), .int .u64 (pl (A i) 7)] 26 ∧ Blk wx w.heap.size #[.int .u64 0, .int .u64 0, .int .u64 0, .int .u64 0, .int .u64 0, .int .u64 0, .int .u64 0, .int .u64 0] 26 ∧ Below w.heap.size w wx ∧ ClO base wx a l)) (fun iv _ => n - (intOf iv).toNat)
  case atStart => exact ⟨0, by omega, rfl, Lib.hid ⟨fun j c h => by omega, HB1.out⟩⟩
  case round =>
   clear HB1
   obtain ⟨i, hi, rfl, HM⟩ := hrel
   by_cases hin : i < n
   ·have hx : ∃ x, l[i]? = some x := ⟨l[i]'(by rw [← HN.out]; exact hin), by simp [← HN.out, hin]⟩
    obtain ⟨x, hx⟩ := hx
    have h1 := HST.out i x hx
    obtain ⟨P, hP⟩ : ∃ P, P = A i := ⟨_, rfl⟩
    obtain ⟨Q, hQ⟩ : ∃ P, P = A (i + 1) := ⟨_, rfl⟩
    rw [← hP] at HM h1
    rw [← hQ] at h1
    have HI1 := Lib.hid fun W => HIn.out x W
    have HQ := Lib.hid hQ
    have HX := Lib.hid hx
    obtain ⟨b, off, rfl, hcs, hNb⟩ := HM.out.2.2.2.2.at hx
    obtain ⟨z0, z1, z2⟩ := cl_cells hcs hx
    have lz := hcs.1
    cases hg : inG x with
    | false =>
     rw [hg] at HI1
     have hR := HR.out
     have hall : l.all inG = false := by
      cases e : l.all inG with
      | false => rfl
      | true =>
       have := List.all_eq_true.1 e x (List.mem_of_getElem? hx)
       rw [hg] at this; cases this
     rw [hall] at hR
     have HR2 : Hid (R = (0, 1)) := Lib.hid hR
     clear h1 hP hQ hx hNb hg hcs hR hall
     go_wp2_with fail
     refine (HI1.out _).mono ?_
     rintro e w4 ⟨rfl, hb⟩
     have hb4 := Lib.hid (bel_trans HM.out.2.2.2.1 hb)
     have k2 := HM.out.2.2.1.grow hb
     have r2 := k2.row; have l2 := k2.lt
     have cF := (k2.rowS #[.int .u64 0, .int .u64 0, .int .u64 0, .int .u64 0, .int .u64 0, .int .u64 0, .int .u64 0, .int .u64 0]).cell
     have hb5 := Lib.hid (bel_row hb4.out (g := w.heap.size) (by omega) #[.int .u64 0, .int .u64 0, .int .u64 0, .int .u64 0, .int .u64 0, .int .u64 0, .int .u64 0, .int .u64 0])
     rw [← k2.rw]
     clear k2 hb z0 z1 z2 lz
     go_wp2_with fail
     exact bodyPost_ret (v := .tuple #[solV 0, .int .i64 1]) (by rw [HZV.out]; simp [results, Tryz.results78, go_sem, cF]) rfl ⟨by rw [HR2.out], hb5.out⟩
    | true =>
     rw [hg] at HI1
     have HW1 := Lib.hid fun W => refWith_spec P x hg W
     rw [h1] at HW1
     have HYG := Lib.hid hg
     clear h1 hP hQ hx hNb hg hcs
     go_wp2_with fail
     refine (HI1.out _).mono ?_
     rintro e w4 ⟨rfl, hb⟩
     have HM4 := Lib.hid (And.intro (HM.out.2.1.grow hb) (And.intro (HM.out.2.2.1.grow hb) (And.intro (bel_trans HM.out.2.2.2.1 hb) (HM.out.2.2.2.2.mono hb))))
     clear hb z0 z1 z2 lz
     obtain ⟨wR, hwR⟩ : ∃ x, x = w4 := ⟨_, rfl⟩
     rw [← hwR] at HM4 ⊢
     clear hwR
     go_wp2_with fail
     refine wp_region_grow 6 [Is (solV P), Is (.slice (some ⟨b, off, none⟩) n c), Is (.int .i64 (i : Nat)), Is (.pointer (some ⟨b, off + i * 3, none⟩)), Is (clV x), Is (solV Q)] (by kernel_rfl) (by kernel_rfl) rfl ⟨fun _ _ _ h _ => h, fun _ _ _ h _ => h, fun _ _ _ h _ => h, fun _ _ _ h _ => h, fun _ _ _ h _ => h, fun _ _ _ h _ => h, trivial⟩ ?_
     simp only [List.take_succ_cons, List.take_zero, List.drop_succ_cons, List.drop_zero]
     refine rel_cons ?_ (fun v0 => ?_)
     ·intro w1 hb hF; have hc := (Grows.cells hb).1; have hf := (Grows.cells hb).2; try simp [facts, Is] at hF
      have D := HM4.out.1.grow (show Below _ _ _ from hb); have cD := D.cell; have lD := D.lt; clear D
      go_simp
      first | exact Grows.refl _ | exact ⟨Grows.refl _, trivial⟩
     iterate 3 (refine rel_cons ?_ (fun _ => ?_); · intro w1 hb hF; have hc := (Grows.cells hb).1; have hf := (Grows.cells hb).2; (try simp [facts, Is] at hF); go_simp; exact Grows.refl _)
     refine rel_cons ?_ (fun v4 => ?_)
     ·intro w1 hb hF; have hc := (Grows.cells hb).1; have hf := (Grows.cells hb).2; try simp [facts, Is] at hF
      obtain ⟨b', off', h1, hCs, _⟩ := (HM4.out.2.2.2.mono (show Below _ _ _ from hb)).at HX.out
      cases h1
      obtain ⟨z0, z1, z2⟩ := cl_cells hCs HX.out
      have lz := hCs.1
      clear hCs
      go_simp
      first | exact Grows.refl _ | exact ⟨Grows.refl _, trivial⟩
     refine rel_cons ?_ (fun v5 => ?_)
     ·intro w1 hb hF; have hc := (Grows.cells hb).1; have hf := (Grows.cells hb).2; try simp [facts, Is] at hF
      go_simp
      refine (HW1.out _).mono ?_
      rintro e w2 ⟨rfl, hb2⟩
      first | exact ⟨rfl, hb2⟩ | exact ⟨_, rfl, hb2, trivial, rfl⟩
     refine rel_nil ?_
     intro w1 hb hF
     simp [Is, Nat.forall_lt_succ_right] at hF
     simp only [Act.put, List.setIfInBounds_toArray, List.set_cons_succ, List.set_cons_zero, hF]
     clear hF
     have hb5 : Below wR.heap.size wR w1 := hb
     have hM1 := HM4.out.1.grow hb5
     have ho := HO.out
     have HE9 : Hid (Blk (w1.setRow ga #[.int .u64 (pl Q 0), .int .u64 (pl Q 1), .int .u64 (pl Q 2), .int .u64 (pl Q 3), .int .u64 (pl Q 4), .int .u64 (pl Q 5), .int .u64 (pl Q 6), .int .u64 (pl Q 7)]) ga #[.int .u64 (pl Q 0), .int .u64 (pl Q 1), .int .u64 (pl Q 2), .int .u64 (pl Q 3), .int .u64 (pl Q 4), .int .u64 (pl Q 5), .int .u64 (pl Q 6), .int .u64 (pl Q 7)] 26 ∧ Blk (w1.setRow ga #[.int .u64 (pl Q 0), .int .u64 (pl Q 1), .int .u64 (pl Q 2), .int .u64 (pl Q 3), .int .u64 (pl Q 4), .int .u64 (pl Q 5), .int .u64 (pl Q 6), .int .u64 (pl Q 7)]) w.heap.size #[.int .u64 0, .int .u64 0, .int .u64 0, .int .u64 0, .int .u64 0, .int .u64 0, .int .u64 0, .int .u64 0] 26 ∧ Below w.heap.size w (w1.setRow ga #[.int .u64 (pl Q 0), .int .u64 (pl Q 1), .int .u64 (pl Q 2), .int .u64 (pl Q 3), .int .u64 (pl Q 4), .int .u64 (pl Q 5), .int .u64 (pl Q 6), .int .u64 (pl Q 7)]) ∧ ClO base (w1.setRow ga #[.int .u64 (pl Q 0), .int .u64 (pl Q 1), .int .u64 (pl Q 2), .int .u64 (pl Q 3), .int .u64 (pl Q 4), .int .u64 (pl Q 5), .int .u64 (pl Q 6), .int .u64 (pl Q 7)]) (some ⟨b, off, none⟩) l) := Lib.hid ⟨hM1.rowS _, (HM4.out.2.1.grow hb5).rowO _ (by omega), bel_row (bel_trans HM4.out.2.2.1 hb5) (by omega) _, (HM4.out.2.2.2.mono hb5).rowN (fun b' off' h1 h2 => by have := HAl.out b' off' h1 h2; omega) _⟩
     have rg := hM1.row; have lg2 := hM1.lt
     rw [← hM1.rw]
     clear hM1 ho hb hb5
     go_wp2_with fail
     go_roundw
     case rel =>
      refine ⟨i + 1, by omega, by go_num, Lib.hid ⟨fun j c hj hc => ?_, ?_⟩⟩
      ·by_cases hji : j = i
       ·subst hji
        have := HX.out
        rw [this] at hc; cases hc
        exact HYG.out
       ·exact HM.out.1 j c (by omega) hc
      ·rw [← HQ.out]
       exact HE9.out
     case measure => simp [intOf]; omega
   ·obtain rfl : i = n := by omega
    have hall : l.all inG = true := List.all_eq_true.2 fun c hc => by
     obtain ⟨j, hj⟩ := List.mem_iff_getElem?.1 hc
     exact HM.out.1 j c (by rw [HN.out]; exact (List.getElem?_eq_some_iff.1 hj).1) hj
    have hR := HR.out
    rw [hall] at hR
    have hM := HM.out.2
    rw [HE.out] at hM
    obtain ⟨P, hP⟩ : ∃ P, P = addL 0 l := ⟨_, rfl⟩
    have hR2 : R = (P, 0) := by rw [hP]; exact hR
    rw [← hP] at hM
    have HR2 := Lib.hid hR2
    obtain ⟨k1, k2, k3, _⟩ := hM
    have ho := HO.out
    have c1 := (k1.rowO (g := w.heap.size) #[.int .u64 0, .int .u64 0, .int .u64 0, .int .u64 0, .int .u64 0, .int .u64 0, .int .u64 0, .int .u64 0] (by omega)).cell
    have l1 := k1.lt
    have r2 := k2.row; have l2 := k2.lt
    have cF := (k2.rowS #[.int .u64 (pl P 0), .int .u64 (pl P 1), .int .u64 (pl P 2), .int .u64 (pl P 3), .int .u64 (pl P 4), .int .u64 (pl P 5), .int .u64 (pl P 6), .int .u64 (pl P 7)]).cell
    have hb5 := bel_row k3 (g := w.heap.size) (by omega) #[.int .u64 (pl P 0), .int .u64 (pl P 1), .int .u64 (pl P 2), .int .u64 (pl P 3), .int .u64 (pl P 4), .int .u64 (pl P 5), .int .u64 (pl P 6), .int .u64 (pl P 7)]
    rw [← k2.rw]
    clear k1 k2 k3 HM ho hR hP hR2 hall
    go_wp2_with fail
    exact bodyPost_ret (v := .tuple #[solV P, .int .i64 0]) (by simp [results, Tryz.results78, go_sem, cF]) rfl ⟨by rw [HR2.out], hb5⟩
end Go.Proofs.YtkfimbonmnoglaaGreatDoor
end
section
namespace Go.Proofs.YtkfimbonmnoglaaGreatDoor
open Go.RowKit Go.Rel Go.Draw Go.Solid
set_option maxRecDepth 100000
attribute [local irreducible] addL
set_option maxHeartbeats 8000000 in
theorem of_n {w : World} {base : Nat} {a : Option Addr} {c : Nat} {l : List Cl} (h : ClO base w a l) : Calls Tryz.prog 77 #[.slice a l.length c] w fun e w' => e = .returned (.tuple #[solV (ofM l).1, .int .i64 (ofM l).2]) ∧ Below w.heap.size w w' := by
 have HZ := Lib.hid zero_sols
 have HZV := Lib.hid zero_solV
 have HIn := Lib.hid fun c W => inside_spec c W
 have hM : ofM l = if 1000 < l.length then (0, 2) else if l.all inG then (addL 0 l, 0) else (0, 1) := rfl
 obtain ⟨R, hR⟩ : ∃ R, R = ofM l := ⟨_, rfl⟩
 rw [← hR] at hM ⊢
 obtain ⟨n, hn⟩ : ∃ n, n = l.length := ⟨_, rfl⟩
 rw [← hn] at hM ⊢
 have HN := Lib.hid hn
 have HCl := Lib.hid h
 have h0 : addL 0 (l.take 0) = 0 := by unfold addL; rfl
 have hE : addL 0 (l.take n) = addL 0 l := by rw [hn, List.take_length]
 have hst : ∀ i c, l[i]? = some c → withS (addL 0 (l.take i)) c = addL 0 (l.take (i + 1)) := fun i c h => addL_take h
 obtain ⟨A, hA⟩ : ∃ A : Nat → Sol, A = fun i => addL 0 (l.take i) := ⟨_, rfl⟩
 have H0 : Hid (A 0 = 0) := Lib.hid (by rw [hA]; exact h0)
 have HE : Hid (A n = addL 0 l) := Lib.hid (by rw [hA]; exact hE)
 have HST : Hid (∀ i c, l[i]? = some c → withS (A i) c = A (i + 1)) := Lib.hid (by rw [hA]; exact hst)
 clear h0 hE hst hA h hR hn
 by_cases hbig : 1000 < n
 ·rw [if_pos hbig] at hM
  have HR := Lib.hid hM
  have hbig2 : (1000 : Int) < n := by omega
  clear hM hbig
  go_enter Tryz.func77, Tryz.ntmps77
  go_upto_region 1 with fail
  obtain ⟨W0, hW0⟩ : ∃ W0, W0 = w.alloc (.cells #[.int .u64 0, .int .u64 0, .int .u64 0, .int .u64 0, .int .u64 0, .int .u64 0, .int .u64 0, .int .u64 0] 26) := ⟨_, rfl⟩
  have b1 : Blk W0 w.heap.size #[.int .u64 0, .int .u64 0, .int .u64 0, .int .u64 0, .int .u64 0, .int .u64 0, .int .u64 0, .int .u64 0] 26 := by rw [hW0]; exact Blk.new _ _ _
  have hbw : Below w.heap.size w W0 := by rw [hW0]; exact bel_alloc (bel_refl w) _
  rw [← hW0]
  clear hW0
  have r1 := b1.row; have l1 := b1.lt
  have cF := (b1.rowS #[.int .u64 0, .int .u64 0, .int .u64 0, .int .u64 0, .int .u64 0, .int .u64 0, .int .u64 0, .int .u64 0]).cell
  have hb5 := bel_row hbw (g := w.heap.size) (by omega) #[.int .u64 0, .int .u64 0, .int .u64 0, .int .u64 0, .int .u64 0, .int .u64 0, .int .u64 0, .int .u64 0]
  rw [← b1.rw]
  clear b1 hbw
  go_wp2_with fail
  exact bodyPost_ret (v := .tuple #[solV 0, .int .i64 2]) (by rw [HZV.out]; simp [results, Tryz.results77, go_sem, cF]) rfl ⟨by rw [HR.out], hb5⟩
 ·rw [if_neg hbig] at hM
  have HR := Lib.hid hM
  have hbig2 : ¬ ((1000 : Int) < n) := by omega
  have hlen : n ≤ 1000 := by omega
  clear hM hbig
  go_enter Tryz.func77, Tryz.ntmps77
  go_upto_region 4 with fail
  obtain ⟨W0, hW0⟩ : ∃ W0, W0 = (w.alloc (.cells #[.int .u64 0, .int .u64 0, .int .u64 0, .int .u64 0, .int .u64 0, .int .u64 0, .int .u64 0, .int .u64 0] 26)).alloc (.cells #[.int .u64 0, .int .u64 0, .int .u64 0, .int .u64 0, .int .u64 0, .int .u64 0, .int .u64 0, .int .u64 0] 26) := ⟨_, rfl⟩
  have b0 : Blk W0 (w.heap.size + 1) #[.int .u64 (pl (A 0) 0), .int .u64 (pl (A 0) 1), .int .u64 (pl (A 0) 2), .int .u64 (pl (A 0) 3), .int .u64 (pl (A 0) 4), .int .u64 (pl (A 0) 5), .int .u64 (pl (A 0) 6), .int .u64 (pl (A 0) 7)] 26 ∧ Blk W0 w.heap.size #[.int .u64 0, .int .u64 0, .int .u64 0, .int .u64 0, .int .u64 0, .int .u64 0, .int .u64 0, .int .u64 0] 26 ∧ Below w.heap.size w W0 ∧ ClO base W0 a l := by
   rw [hW0, H0.out, HZ.out]
   exact ⟨Blk.at _ _ (by simp), (by repeat (first | with_reducible assumption | (refine Blk.at _ _ ?_; (simp; done)) | with_reducible refine Blk.alloc ?_ _ | with_reducible refine Blk.drew ?_ | with_reducible refine Blk.rowS ?_ _ | with_reducible refine Blk.rowO ?_ _ (by simp))), (by repeat (first | with_reducible exact bel_refl _ | with_reducible assumption | with_reducible refine bel_drewN ?_ _ | with_reducible refine bel_drew ?_ | with_reducible refine bel_alloc ?_ _ | with_reducible refine bel_row ?_ ?_ _ | with_reducible refine bel_set ?_ ?_ _ | refine bel_trans ?_ (by with_reducible assumption) | (simp; done) | (simp; omega))), HCl.out.mono (by repeat (first | with_reducible exact bel_refl _ | with_reducible assumption | with_reducible refine bel_drewN ?_ _ | with_reducible refine bel_drew ?_ | with_reducible refine bel_alloc ?_ _ | with_reducible refine bel_row ?_ ?_ _ | with_reducible refine bel_set ?_ ?_ _ | refine bel_trans ?_ (by with_reducible assumption) | (simp; done) | (simp; omega)))⟩
  have hal : ∀ b off, a = some ⟨b, off, none⟩ → l ≠ [] → b < w.heap.size := fun b off h hl => by
   rcases HCl.out with h2 | ⟨b', off', h1, h2, _⟩
   ·exact absurd h2 hl
   ·rw [h1] at h; cases h; exact h2.1
  have HAl := Lib.hid hal
  rw [← hW0]
  clear hW0 hal
  have HB1 := Lib.hid b0
  clear b0 hbig2
  obtain ⟨ga, hga⟩ : ∃ g, g = w.heap.size + 1 := ⟨_, rfl⟩
  rw [← hga] at HB1 ⊢
  have HO := Lib.hid hga
  clear hga
  go_wp2_with fail
  go_loopw [13] (fun iv wx => ∃ i : Nat, i ≤ n ∧ iv = .int .i64 i ∧ Hid ((∀ j c, j < i → l[j]? = some c → inG c = true) ∧ Blk wx ga #[.int .u64 (pl (A i) 0), .int .u64 (pl (A i) 1), .int .u64 (pl (A i) 2), .int .u64 (pl (A i) 3), .int .u64 (pl (A i) 4), .int .u64 (pl (A i) 5), .int .u64 (pl (A i) 6), .int .u64 (pl (A i) 7)] 26 ∧ Blk wx w.heap.size #[.int .u64 0, .int .u64 0, .int .u64 0, .int .u64 0, .int .u64 0, .int .u64 0, .int .u64 0, .int .u64 0] 26 ∧ Below w.heap.size w wx ∧ ClO base wx a l)) (fun iv _ => n - (intOf iv).toNat)
  case atStart => exact ⟨0, by omega, rfl, Lib.hid ⟨fun j c h => by omega, HB1.out⟩⟩
  case round =>
   clear HB1
   obtain ⟨i, hi, rfl, HM⟩ := hrel
   by_cases hin : i < n
   ·have hx : ∃ x, l[i]? = some x := ⟨l[i]'(by rw [← HN.out]; exact hin), by simp [← HN.out, hin]⟩
    obtain ⟨x, hx⟩ := hx
    have h1 := HST.out i x hx
    obtain ⟨P, hP⟩ : ∃ P, P = A i := ⟨_, rfl⟩
    obtain ⟨Q, hQ⟩ : ∃ P, P = A (i + 1) := ⟨_, rfl⟩
    rw [← hP] at HM h1
    rw [← hQ] at h1
    have HI1 := Lib.hid fun W => HIn.out x W
    have HQ := Lib.hid hQ
    have HX := Lib.hid hx
    obtain ⟨b, off, rfl, hcs, hNb⟩ := HM.out.2.2.2.2.at hx
    obtain ⟨z0, z1, z2⟩ := cl_cells hcs hx
    have lz := hcs.1
    obtain ⟨x, y, z⟩ := x
    go_upto_region 7 with fail
    obtain ⟨gc, hgc⟩ : ∃ g, g = wr.heap.size := ⟨_, rfl⟩
    obtain ⟨wc, hwc⟩ : ∃ W, W = wr.alloc (.cells #[.int .i64 x, .int .i64 y, .int .i64 z] 60) := ⟨_, rfl⟩
    have HM2 : Hid (Blk wc gc #[.int .i64 x, .int .i64 y, .int .i64 z] 60 ∧ Blk wc ga #[.int .u64 (pl P 0), .int .u64 (pl P 1), .int .u64 (pl P 2), .int .u64 (pl P 3), .int .u64 (pl P 4), .int .u64 (pl P 5), .int .u64 (pl P 6), .int .u64 (pl P 7)] 26 ∧ Blk wc w.heap.size #[.int .u64 0, .int .u64 0, .int .u64 0, .int .u64 0, .int .u64 0, .int .u64 0, .int .u64 0, .int .u64 0] 26 ∧ Below w.heap.size w wc ∧ ClO base wc (some ⟨b, off, none⟩) l ∧ ga < gc) := Lib.hid (by
     rw [hwc, hgc]
     exact ⟨Blk.new _ _ _, HM.out.2.1.alloc _, HM.out.2.2.1.alloc _, bel_alloc HM.out.2.2.2.1 _, HM.out.2.2.2.2.mono (by repeat (first | with_reducible exact bel_refl _ | with_reducible assumption | with_reducible refine bel_drewN ?_ _ | with_reducible refine bel_drew ?_ | with_reducible refine bel_alloc ?_ _ | with_reducible refine bel_row ?_ ?_ _ | with_reducible refine bel_set ?_ ?_ _ | refine bel_trans ?_ (by with_reducible assumption) | (simp; done) | (simp; omega))), HM.out.2.1.lt⟩)
    have HL := Lib.hid HM.out.1
    rw [← hwc, ← hgc]
    clear hwc hgc HM z0 z1 z2 lz hcs
    have ccl := HM2.out.1.cell; have lcl := HM2.out.1.lt
    cases hg : inG (x, y, z) with
    | false =>
     rw [hg] at HI1
     have hR := HR.out
     have hall : l.all inG = false := by
      cases e : l.all inG with
      | false => rfl
      | true =>
       have := List.all_eq_true.1 e (x, y, z) (List.mem_of_getElem? hx)
       rw [hg] at this; cases this
     rw [hall] at hR
     have HR2 : Hid (R = (0, 1)) := Lib.hid hR
     clear h1 hP hQ hx hNb hg hR hall
     go_wp2_with fail
     refine (HI1.out _).mono ?_
     rintro e w4 ⟨rfl, hb⟩
     have hb4 := Lib.hid (bel_trans HM2.out.2.2.2.1 hb)
     have k2 := HM2.out.2.2.1.grow hb
     have r2 := k2.row; have l2 := k2.lt
     have cF := (k2.rowS #[.int .u64 0, .int .u64 0, .int .u64 0, .int .u64 0, .int .u64 0, .int .u64 0, .int .u64 0, .int .u64 0]).cell
     have hb5 := Lib.hid (bel_row hb4.out (g := w.heap.size) (by omega) #[.int .u64 0, .int .u64 0, .int .u64 0, .int .u64 0, .int .u64 0, .int .u64 0, .int .u64 0, .int .u64 0])
     rw [← k2.rw]
     clear k2 hb ccl lcl
     go_wp2_with fail
     exact bodyPost_ret (v := .tuple #[solV 0, .int .i64 1]) (by rw [HZV.out]; simp [results, Tryz.results77, go_sem, cF]) rfl ⟨by rw [HR2.out], hb5.out⟩
    | true =>
     rw [hg] at HI1
     have hgz := inG_iff.1 hg
     simp only at hgz
     obtain ⟨Z, rfl, hZ8, hz9⟩ := z_nat hgz.2.2
     have HW := Lib.hid fun W => bit_spec hg W
     have eo := or_cell P hg (Z := Z) rfl
     have hcs := cell_set P hg (Z := Z) rfl
     have hQ2 : P ||| Go.Solid.one (bitN (x, y, (Z : Int))) = Q := h1
     rw [hQ2] at eo hcs
     obtain ⟨bp, hbp2⟩ : ∃ b, b = bitP (x, y, (Z : Int)) := ⟨_, rfl⟩
     rw [← hbp2] at HW eo
     have HEO := Lib.hid eo
     have HCS := Lib.hid hcs
     have HYG := Lib.hid hg
     have hgz0 : -9 ≤ x ∧ x ≤ 9 := by omega
     clear h1 hP hQ hQ2 hx hNb hg hcs eo hbp2 hgz hgz0
     go_wp2_with fail
     refine (HI1.out _).mono ?_
     rintro e w4 ⟨rfl, hb⟩
     have HM4 := Lib.hid (And.intro (HM2.out.1.grow hb) (And.intro (HM2.out.2.1.grow hb) (And.intro (HM2.out.2.2.1.grow hb) (And.intro (bel_trans HM2.out.2.2.2.1 hb) (And.intro (HM2.out.2.2.2.2.1.mono hb) HM2.out.2.2.2.2.2)))))
     clear hb ccl lcl HM2
     obtain ⟨wR, hwR⟩ : ∃ x, x = w4 := ⟨_, rfl⟩
     rw [← hwR] at HM4 ⊢
     clear hwR
     have cz0 : wR.cell? ⟨ga, Z, none⟩ = some (.int .u64 (pl P Z)) := by rw [HM4.out.2.1.cell]; exact getZ P hZ8
     have HCZ := Lib.hid cz0
     clear cz0
     go_wp2_with fail
     refine wp_region_grow 8 [Is (.pointer (some ⟨gc, 2, none⟩)), Is (.int .i64 (Z : Int)), Is (.pointer (some ⟨ga, Z, none⟩)), Is (.int .u64 (pl P Z)), Is (.agg #[.int .i64 x, .int .i64 y, .int .i64 (Z : Int)]), Is (.int .u64 (uI bp)), Is (.int .u64 (pl Q Z)), Is (.pointer (some ⟨ga, Z, none⟩))] (by kernel_rfl) (by kernel_rfl) rfl ⟨fun _ _ _ h _ => h, fun _ _ _ h _ => h, fun _ _ _ h _ => h, fun _ _ _ h _ => h, fun _ _ _ h _ => h, fun _ _ _ h _ => h, fun _ _ _ h _ => h, fun _ _ _ h _ => h, trivial⟩ ?_
     simp only [List.take_succ_cons, List.take_zero, List.drop_succ_cons, List.drop_zero]
     refine rel_cons ?_ (fun v0 => ?_)
     ·intro w1 hb hF; have hc := (Grows.cells hb).1; have hf := (Grows.cells hb).2; try simp [facts, Is] at hF
      go_simp
      exact Grows.refl _
     refine rel_cons ?_ (fun v1 => ?_)
     ·intro w1 hb hF; have hc := (Grows.cells hb).1; have hf := (Grows.cells hb).2; try simp [facts, Is] at hF
      have D := HM4.out.1.grow (show Below _ _ _ from hb); have cD := D.cell; have lD := D.lt; clear D
      go_simp
      first | exact Grows.refl _ | exact ⟨Grows.refl _, trivial⟩
     refine rel_cons ?_ (fun v2 => ?_)
     ·intro w1 hb hF; have hc := (Grows.cells hb).1; have hf := (Grows.cells hb).2; try simp [facts, Is] at hF
      have hz8 := hZ8
      have hz10 := hz9
      go_simp
      first | exact Grows.refl _ | exact ⟨Grows.refl _, trivial⟩
     refine rel_cons ?_ (fun v3 => ?_)
     ·intro w1 hb hF; have hc := (Grows.cells hb).1; have hf := (Grows.cells hb).2; try simp [facts, Is] at hF
      have D := HM4.out.2.1.grow (show Below _ _ _ from hb)
      have cz : _ = _ := (D.cell Z).trans (getZ P hZ8)
      have lD := D.lt; clear D
      go_simp
      first | exact Grows.refl _ | exact ⟨Grows.refl _, trivial⟩
     refine rel_cons ?_ (fun v4 => ?_)
     ·intro w1 hb hF; have hc := (Grows.cells hb).1; have hf := (Grows.cells hb).2; try simp [facts, Is] at hF
      have D := HM4.out.1.grow (show Below _ _ _ from hb); have cD := D.cell; have lD := D.lt; clear D
      go_simp
      first | exact Grows.refl _ | exact ⟨Grows.refl _, trivial⟩
     refine rel_cons ?_ (fun v5 => ?_)
     ·intro w1 hb hF; have hc := (Grows.cells hb).1; have hf := (Grows.cells hb).2; try simp [facts, Is] at hF
      go_simp
      refine (HW.out _).mono ?_
      rintro e w2 ⟨rfl, hb2⟩
      first | exact ⟨rfl, hb2⟩ | exact ⟨_, rfl, hb2, trivial, rfl⟩
     refine rel_cons ?_ (fun v6 => ?_)
     ·intro w1 hb hF; have hc := (Grows.cells hb).1; have hf := (Grows.cells hb).2; try simp [facts, Is] at hF
      have eo := HEO.out
      go_simp
      first | exact Grows.refl _ | exact ⟨Grows.refl _, trivial⟩ | exact ⟨Grows.refl _, eo⟩
     refine rel_cons ?_ (fun v7 => ?_)
     ·intro w1 hb hF; have hc := (Grows.cells hb).1; have hf := (Grows.cells hb).2; try simp [facts, Is] at hF
      have hz8 := hZ8
      have hz10 := hz9
      go_simp
      first | exact Grows.refl _ | exact ⟨Grows.refl _, trivial⟩
     refine rel_nil ?_
     intro w1 hb hF
     simp [Is, Nat.forall_lt_succ_right] at hF
     simp only [Act.put, List.setIfInBounds_toArray, List.set_cons_succ, List.set_cons_zero, hF]
     clear hF
     have hb5 : Below wR.heap.size wR w1 := hb
     have hM1 := HM4.out.2.1.grow hb5
     have ho := HO.out
     have HE9 : Hid (Blk (w1.setRow ga #[.int .u64 (pl Q 0), .int .u64 (pl Q 1), .int .u64 (pl Q 2), .int .u64 (pl Q 3), .int .u64 (pl Q 4), .int .u64 (pl Q 5), .int .u64 (pl Q 6), .int .u64 (pl Q 7)]) ga #[.int .u64 (pl Q 0), .int .u64 (pl Q 1), .int .u64 (pl Q 2), .int .u64 (pl Q 3), .int .u64 (pl Q 4), .int .u64 (pl Q 5), .int .u64 (pl Q 6), .int .u64 (pl Q 7)] 26 ∧ Blk (w1.setRow ga #[.int .u64 (pl Q 0), .int .u64 (pl Q 1), .int .u64 (pl Q 2), .int .u64 (pl Q 3), .int .u64 (pl Q 4), .int .u64 (pl Q 5), .int .u64 (pl Q 6), .int .u64 (pl Q 7)]) w.heap.size #[.int .u64 0, .int .u64 0, .int .u64 0, .int .u64 0, .int .u64 0, .int .u64 0, .int .u64 0, .int .u64 0] 26 ∧ Below w.heap.size w (w1.setRow ga #[.int .u64 (pl Q 0), .int .u64 (pl Q 1), .int .u64 (pl Q 2), .int .u64 (pl Q 3), .int .u64 (pl Q 4), .int .u64 (pl Q 5), .int .u64 (pl Q 6), .int .u64 (pl Q 7)]) ∧ ClO base (w1.setRow ga #[.int .u64 (pl Q 0), .int .u64 (pl Q 1), .int .u64 (pl Q 2), .int .u64 (pl Q 3), .int .u64 (pl Q 4), .int .u64 (pl Q 5), .int .u64 (pl Q 6), .int .u64 (pl Q 7)]) (some ⟨b, off, none⟩) l) := Lib.hid ⟨hM1.rowS _, (HM4.out.2.2.1.grow hb5).rowO _ (by omega), bel_row (bel_trans HM4.out.2.2.2.1 hb5) (by omega) _, (HM4.out.2.2.2.2.1.mono hb5).rowN (fun b' off' h1 h2 => by have := HAl.out b' off' h1 h2; omega) _⟩
     have hset : (#[.int .u64 (pl P 0), .int .u64 (pl P 1), .int .u64 (pl P 2), .int .u64 (pl P 3), .int .u64 (pl P 4), .int .u64 (pl P 5), .int .u64 (pl P 6), .int .u64 (pl P 7)] : Array Value).setIfInBounds Z (.int .u64 (pl Q Z)) = #[.int .u64 (pl Q 0), .int .u64 (pl Q 1), .int .u64 (pl Q 2), .int .u64 (pl Q 3), .int .u64 (pl Q 4), .int .u64 (pl Q 5), .int .u64 (pl Q 6), .int .u64 (pl Q 7)] := HCS.out
     have rg := hM1.row; have lg2 := hM1.lt
     have fA := hM1.free Z
     have cA := hM1.cell Z
     rw [← hM1.rw]
     clear hM1 ho hb hb5
     go_wp2_with fail
     go_roundw
     case rel =>
      refine ⟨i + 1, by omega, by go_num, Lib.hid ⟨fun j c hj hc => ?_, ?_⟩⟩
      ·by_cases hji : j = i
       ·subst hji
        have := HX.out
        rw [this] at hc; cases hc
        exact HYG.out
       ·exact HL.out j c (by omega) hc
      ·rw [← HQ.out]
       exact HE9.out
     case measure => simp [intOf]; omega
   ·obtain rfl : i = n := by omega
    have hall : l.all inG = true := List.all_eq_true.2 fun c hc => by
     obtain ⟨j, hj⟩ := List.mem_iff_getElem?.1 hc
     exact HM.out.1 j c (by rw [HN.out]; exact (List.getElem?_eq_some_iff.1 hj).1) hj
    have hR := HR.out
    rw [hall] at hR
    have hM := HM.out.2
    rw [HE.out] at hM
    obtain ⟨P, hP⟩ : ∃ P, P = addL 0 l := ⟨_, rfl⟩
    have hR2 : R = (P, 0) := by rw [hP]; exact hR
    rw [← hP] at hM
    have HR2 := Lib.hid hR2
    obtain ⟨k1, k2, k3, _⟩ := hM
    have ho := HO.out
    have c1 := (k1.rowO (g := w.heap.size) #[.int .u64 0, .int .u64 0, .int .u64 0, .int .u64 0, .int .u64 0, .int .u64 0, .int .u64 0, .int .u64 0] (by omega)).cell
    have l1 := k1.lt
    have r2 := k2.row; have l2 := k2.lt
    have cF := (k2.rowS #[.int .u64 (pl P 0), .int .u64 (pl P 1), .int .u64 (pl P 2), .int .u64 (pl P 3), .int .u64 (pl P 4), .int .u64 (pl P 5), .int .u64 (pl P 6), .int .u64 (pl P 7)]).cell
    have hb5 := bel_row k3 (g := w.heap.size) (by omega) #[.int .u64 (pl P 0), .int .u64 (pl P 1), .int .u64 (pl P 2), .int .u64 (pl P 3), .int .u64 (pl P 4), .int .u64 (pl P 5), .int .u64 (pl P 6), .int .u64 (pl P 7)]
    rw [← k2.rw]
    clear k1 k2 k3 HM ho hR hP hR2 hall
    go_wp2_with fail
    exact bodyPost_ret (v := .tuple #[solV P, .int .i64 0]) (by simp [results, Tryz.results77, go_sem, cF]) rfl ⟨by rw [HR2.out], hb5⟩
end Go.Proofs.YtkfimbonmnoglaaGreatDoor
end
section
namespace Go.Proofs.YtkfimbonmnoglaaGreatDoor
open Go.RowKit Go.Rel Go.Draw Go.Solid
set_option maxRecDepth 100000
attribute [local go_sem] Oper.semAt_some
theorem dropc_ne {a b : List Cl} {k : Nat} {x y : Cl} (ha : a[k]? = some x) (hb : b[k]? = some y) (h : x ≠ y) : a ≠ b := fun e => by
 rw [e, hb] at ha
 exact h (Option.some.inj ha).symm
set_option maxHeartbeats 4000000 in
theorem same_lenc_no {la lb : List Cl} (w : World) {pa pb : Option Addr} {ca cb : Nat} (hn : la.length ≠ lb.length) :
  Calls Tryz.prog 81 #[.slice pa la.length ca, .slice pb lb.length cb] w fun e w' => e = .returned (.bool false) ∧ Below w.heap.size w w' := by
 have hd : (((la.length : Nat) : Int) != ((lb.length : Nat) : Int)) = true := by rw [bne_iff_ne]; omega
 clear hn
 go_enter Tryz.func81, Tryz.ntmps81
 go_wp2_with fail
 go_ret
 exact ⟨rfl, (by repeat (first | with_reducible exact bel_refl _ | with_reducible assumption | with_reducible refine bel_drewN ?_ _ | with_reducible refine bel_drew ?_ | with_reducible refine bel_alloc ?_ _ | with_reducible refine bel_row ?_ ?_ _ | with_reducible refine bel_set ?_ ?_ _ | refine bel_trans ?_ (by with_reducible assumption) | (simp; done) | (simp; omega)))⟩
set_option maxHeartbeats 4000000 in
theorem same_cells {la lb : List Cl} {w : World} {ba bb : Nat} {pa pb : Option Addr} {ca cb : Nat} (hoa : ClO ba w pa la) (hob : ClO bb w pb lb) (hsz : la.length ≤ 1000000) :
  Calls Tryz.prog 81 #[.slice pa la.length ca, .slice pb lb.length cb] w fun e w' => e = .returned (.bool (decide (la = lb))) ∧ Below w.heap.size w w' := by
 by_cases hn : la.length = lb.length
 ·have hd : (((la.length : Nat) : Int) != ((lb.length : Nat) : Int)) = false := by rw [bne_eq_false_iff_eq]; omega
  have HO := Lib.hid (And.intro hoa (And.intro hob hn))
  obtain ⟨R, hR⟩ : ∃ R, R = decide (la = lb) := ⟨_, rfl⟩
  rw [← hR]
  have HR := Lib.hid hR
  clear hoa hob hR
  obtain ⟨m, hm⟩ : ∃ m, m = lb.length := ⟨_, rfl⟩
  rw [← hm] at HO hd ⊢
  have HM := Lib.hid hm
  clear hm
  go_enter Tryz.func81, Tryz.ntmps81
  go_wp2_with fail
  go_loopw [5] (fun iv wx => ∃ i : Nat, i ≤ la.length ∧ iv = .int .i64 i ∧ Hid (la.take i = lb.take i ∧ Below w.heap.size w wx)) (fun iv _ => la.length - (intOf iv).toNat)
  case atStart => exact ⟨0, Nat.zero_le _, rfl, Lib.hid ⟨rfl, Below.refl _ _⟩⟩
  case round =>
   obtain ⟨i, hi, rfl, HI⟩ := hrel
   by_cases hlt : i < la.length
   ·have hd0 : decide ((i : Int) < (la.length : Int)) = true := decide_eq_true (by omega)
    have hi9 : (i : Int) < (la.length : Int) := by omega
    have hn0 := HO.out.2.2
    have hj9 : (i : Int) < (m : Int) := by omega
    have hlm := HM.out
    obtain ⟨x, hx⟩ : ∃ x, la[i]? = some x := ⟨la[i], by simp [hlt]⟩
    obtain ⟨y, hy⟩ : ∃ y, lb[i]? = some y := ⟨lb[i]'(by omega), List.getElem?_eq_getElem _⟩
    obtain ⟨b1, o1, rfl, hC1, -⟩ := HO.out.1.at hx
    obtain ⟨b2, o2, rfl, hC2, -⟩ := HO.out.2.1.at hy
    have hCa := hC1.mono HI.out.2 hC1.1
    have hCb := hC2.mono HI.out.2 hC2.1
    have HCC := Lib.hid (And.intro (cl_cells hCa hx) (And.intro (cl_cells hCb hy) (And.intro hCa.1 hCb.1)))
    have HXY := Lib.hid (And.intro hx hy)
    obtain ⟨wB, hwB⟩ : ∃ wB, wB = wr := ⟨_, rfl⟩
    rw [← hwB] at HI HCC ⊢
    clear hCa hCb hx hy hwB hlm
    go_wp2_with fail
    obtain ⟨x0, x1, x2⟩ := x
    obtain ⟨y0, y1, y2⟩ := y
    obtain ⟨Q, hQ⟩ : ∃ Q, Q = !decide ((x0, x1, x2) = (y0, y1, y2)) := ⟨_, rfl⟩
    have HQ := Lib.hid hQ
    clear hQ
    refine wp_region_val Grows (fun _ _ _ => True) [Is (.slice (some ⟨b1, o1, none⟩) la.length ca), Is (.int .i64 (i : Int)), Is (.pointer (some ⟨b1, o1 + i * 3, none⟩)), Is (clV (x0, x1, x2)), Is (.slice (some ⟨b2, o2, none⟩) m cb), Is (.int .i64 (i : Int)), Is (.pointer (some ⟨b2, o2 + i * 3, none⟩)), Is (clV (y0, y1, y2)), Is (.bool Q)] (by kernel_rfl) (by kernel_rfl) rfl Grows.refl (fun _ _ _ => Grows.trans) (stable_mem ⟨fun _ _ _ h _ => h, fun _ _ _ h _ => h, fun _ _ _ h _ => h, fun _ _ _ h _ => h, fun _ _ _ h _ => h, fun _ _ _ h _ => h, fun _ _ _ h _ => h, fun _ _ _ h _ => h, fun _ _ _ h _ => h, trivial⟩) wB (Below.drew (Below.refl _ _)) trivial ?_
    refine val_cons ?_ (fun v0 => ?_)
    ·intro L vs w1 hvs hat hb hI hF; try simp [factsI, Region.binds, Is] at hF
     have hc := (Grows.cells hb).1
     clear hI
     go_simp
     try simp [upd]
     try first | exact Grows.refl _ | exact trivial | exact ⟨Grows.refl _, trivial⟩
    refine val_cons ?_ (fun v1 => ?_)
    ·intro L vs w1 hvs hat hb hI hF; try simp [factsI, Region.binds, Is] at hF
     have hc := (Grows.cells hb).1
     clear hI
     go_simp
     try simp [upd]
     try first | exact Grows.refl _ | exact trivial | exact ⟨Grows.refl _, trivial⟩
    refine val_cons ?_ (fun v2 => ?_)
    ·intro L vs w1 hvs hat hb hI hF; try simp [factsI, Region.binds, Is] at hF
     have hc := (Grows.cells hb).1
     clear hI
     go_simp
     try simp [upd]
     try first | exact Grows.refl _ | exact trivial | exact ⟨Grows.refl _, trivial⟩
    refine val_cons ?_ (fun v3 => ?_)
    ·intro L vs w1 hvs hat hb hI hF; try simp [factsI, Region.binds, Is] at hF
     have hl := HCC.out.2.2.1
     have hb' : Below wB.heap.size wB w1 := hb
     obtain ⟨q0, q1, q2⟩ := HCC.out.1
     have z0 := (hb'.cell (p := ⟨b1, o1 + i * 3, none⟩) hl).trans q0
     have z1 := (hb'.cell (p := ⟨b1, o1 + i * 3 + 1, none⟩) hl).trans q1
     have z2 := (hb'.cell (p := ⟨b1, o1 + i * 3 + 2, none⟩) hl).trans q2
     have hl2 : b1 < w1.heap.size := Nat.lt_of_lt_of_le hl hb'.size
     clear q0 q1 q2
     go_simp
     first | exact Grows.refl _ | exact ⟨Grows.refl _, trivial⟩
    refine val_cons ?_ (fun v4 => ?_)
    ·intro L vs w1 hvs hat hb hI hF; try simp [factsI, Region.binds, Is] at hF
     have hc := (Grows.cells hb).1
     clear hI
     go_simp
     try simp [upd]
     try first | exact Grows.refl _ | exact trivial | exact ⟨Grows.refl _, trivial⟩
    refine val_cons ?_ (fun v5 => ?_)
    ·intro L vs w1 hvs hat hb hI hF; try simp [factsI, Region.binds, Is] at hF
     have hc := (Grows.cells hb).1
     clear hI
     go_simp
     try simp [upd]
     try first | exact Grows.refl _ | exact trivial | exact ⟨Grows.refl _, trivial⟩
    refine val_cons ?_ (fun v6 => ?_)
    ·intro L vs w1 hvs hat hb hI hF; try simp [factsI, Region.binds, Is] at hF
     have hc := (Grows.cells hb).1
     clear hI
     go_simp
     try simp [upd]
     try first | exact Grows.refl _ | exact trivial | exact ⟨Grows.refl _, trivial⟩
    refine val_cons ?_ (fun v7 => ?_)
    ·intro L vs w1 hvs hat hb hI hF; try simp [factsI, Region.binds, Is] at hF
     have hl := HCC.out.2.2.2
     have hb' : Below wB.heap.size wB w1 := hb
     obtain ⟨q0, q1, q2⟩ := HCC.out.2.1
     have z0 := (hb'.cell (p := ⟨b2, o2 + i * 3, none⟩) hl).trans q0
     have z1 := (hb'.cell (p := ⟨b2, o2 + i * 3 + 1, none⟩) hl).trans q1
     have z2 := (hb'.cell (p := ⟨b2, o2 + i * 3 + 2, none⟩) hl).trans q2
     have hl2 : b2 < w1.heap.size := Nat.lt_of_lt_of_le hl hb'.size
     clear q0 q1 q2
     go_simp
     first | exact Grows.refl _ | exact ⟨Grows.refl _, trivial⟩
    refine val_cons ?_ (fun v8 => ?_)
    ·intro L vs w1 hvs hat hb hI hF; try simp [factsI, Region.binds, Is] at hF
     go_simp
     have hq := HQ.out
     by_cases e0 : x0 = y0 <;> by_cases e1 : x1 = y1 <;> by_cases e2 : x2 = y2 <;> simp only [e0, e1, e2, Prod.mk.injEq, and_self, and_true, true_and, and_false, false_and, decide_true, decide_false, Bool.not_true, Bool.not_false, if_true, if_false] at hq ⊢ <;> subst hq <;> first | exact Grows.refl _ | exact ⟨Grows.refl _, trivial⟩ | exact ⟨Grows.refl _, rfl⟩ | exact ⟨Grows.refl _, rfl, trivial⟩ | exact ⟨_, rfl, Grows.refl _, rfl⟩
    refine val_nil ?_
    intro vs w1 hvs hb hI hF
    simp [Is, Nat.forall_lt_succ_right] at hF
    simp only [Act.put, List.setIfInBounds_toArray, List.set_cons_succ, List.set_cons_zero, hF]
    clear hF
    have hbB := Lib.hid (show Below wB.heap.size wB w1 from hb)
    clear hb hvs
    cases hq : Q with
    | true =>
     have hRf : R = false := by rw [HR.out]; exact decide_eq_false (dropc_ne HXY.out.1 HXY.out.2 (by have h1 := HQ.out; rw [hq] at h1; intro e; rw [e] at h1; simp at h1))
     have HRf := Lib.hid hRf
     clear hRf
     go_wp2_with fail
     go_ret
     exact ⟨by rw [HRf.out]; rfl, HI.out.2.trans (hbB.out.mono HI.out.2.size)⟩
    | false =>
     have he : (x0, x1, x2) = (y0, y1, y2) := by
      have h1 := HQ.out
      rw [hq] at h1
      by_cases e : (x0, x1, x2) = (y0, y1, y2)
      ·exact e
      ·rw [decide_eq_false e] at h1; cases h1
     have HT := Lib.hid (show la.take (i + 1) = lb.take (i + 1) by rw [List.take_add_one, List.take_add_one, HXY.out.1, HXY.out.2, HI.out.1, he])
     clear he
     go_wp2_with fail
     go_roundw
     case rel => exact ⟨i + 1, by omega, by go_num, Lib.hid ⟨HT.out, HI.out.2.trans (hbB.out.mono HI.out.2.size)⟩⟩
     case measure => simp [intOf]; omega
   ·have hd0 : decide ((i : Int) < (la.length : Int)) = false := decide_eq_false (by omega)
    have hi9 : ¬ (i : Int) < (la.length : Int) := by omega
    have hRt : R = true := by
     rw [HR.out]
     have h1 := HI.out.1
     rw [List.take_of_length_le (by omega), List.take_of_length_le (by have := HO.out.2.2; have := HM.out; omega)] at h1
     exact decide_eq_true h1
    have HRt := Lib.hid hRt
    clear hRt
    go_wp2_with fail
    go_ret
    exact ⟨by rw [HRt.out]; rfl, HI.out.2⟩
 ·have : decide (la = lb) = false := decide_eq_false fun e => hn (by rw [e])
  rw [this]
  exact same_lenc_no w hn
end Go.Proofs.YtkfimbonmnoglaaGreatDoor
end
