import Derived.Test.YtkfimbonmnoglaaGreatDoorRThen31
import Derived.Deep.Cut
/-
  Given contracts of functions of the program, and laws for them, one behind the other.
-/
set_option linter.unusedVariables false
set_option linter.unusedSimpArgs false
set_option linter.unusedSectionVars false
section
namespace Go.Proofs.YtkfimbonmnoglaaGreatDoor
open Go.RowKit Go.Rel Go.Draw Go.Solid
set_option maxRecDepth 100000
attribute [local irreducible] turnC movC subC ofB carC mulT movT invT
set_option maxHeartbeats 8000000 in
theorem refBack_n (m : Go.Solid.Mo) (w : World) : Calls Tryz.prog 23 #[motV m.1 m.2] w fun e w' => e = .returned (.tuple #[motV (backM m).1.1 (backM m).1.2, .int .i64 (backM m).2]) ∧ Below w.heap.size w w' := by
 obtain ⟨tt, d⟩ := m
 cases hr : rightB tt d with
 | true =>
  have hrr := (rightB_iff.1 hr).1
  obtain ⟨t, rfl⟩ : ∃ t : Nat, tt = t := ⟨tt.toNat, by omega⟩
  have hM : backM ((t : Int), d) = ((((invT t : Nat) : Int), negC (movT (invT t) d)), 0) := by
   unfold backM
   rw [if_pos hr]
   simp
  rw [hM]
  exact refBack_yes t d hr w
 | false =>
  have hM : backM (tt, d) = ((0, (0, 0, 0)), 1) := by
   unfold backM
   rw [if_neg (by simp [hr])]
  rw [hM]
  have HM := Lib.hid fun W => refMotion_spec tt d W
  rw [hr] at HM
  clear hM hr
  go_enter Tryz.func23, Tryz.ntmps23
  go_wp2_with fail
  obtain ⟨W0, hW0⟩ : ∃ W0, W0 = (w.alloc (.cells #[.int .i64 tt, .int .i64 d.1, .int .i64 d.2.1, .int .i64 d.2.2] 23)).alloc (.cells #[.int .i64 0, .int .i64 0, .int .i64 0, .int .i64 0] 23) := ⟨_, rfl⟩
  have b0 : Blk W0 (w.heap.size) #[.int .i64 tt, .int .i64 d.1, .int .i64 d.2.1, .int .i64 d.2.2] 23 ∧ Blk W0 (w.heap.size + 1) #[.int .i64 0, .int .i64 0, .int .i64 0, .int .i64 0] 23 ∧ Below w.heap.size w W0 := by
   rw [hW0]
   exact ⟨(by repeat (first | with_reducible assumption | (refine Blk.at _ _ ?_; (simp; done)) | with_reducible refine Blk.alloc ?_ _ | with_reducible refine Blk.drew ?_ | with_reducible refine Blk.rowS ?_ _ | with_reducible refine Blk.rowO ?_ _ (by simp))), Blk.at _ _ (by simp), (by repeat (first | with_reducible exact bel_refl _ | with_reducible assumption | with_reducible refine bel_drewN ?_ _ | with_reducible refine bel_drew ?_ | with_reducible refine bel_alloc ?_ _ | with_reducible refine bel_row ?_ ?_ _ | with_reducible refine bel_set ?_ ?_ _ | refine bel_trans ?_ (by with_reducible assumption) | (simp; done) | (simp; omega)))⟩
  rw [← hW0]
  clear hW0
  have HB0 := Lib.hid b0
  clear b0
  refine (HM.out _).mono ?_
  rintro e w1 ⟨rfl, hb⟩
  have HB1 := Lib.hid (And.intro (HB0.out.1.grow hb) (And.intro (HB0.out.2.1.grow hb) (bel_trans HB0.out.2.2 hb)))
  clear hb HB0
  have k2 := HB1.out.2.1
  have r2 := k2.row; have l2 := k2.lt
  have cF := (k2.rowS #[.int .i64 0, .int .i64 0, .int .i64 0, .int .i64 0]).cell
  have hb5 := bel_row HB1.out.2.2 (g := w.heap.size + 1) (by omega) #[.int .i64 0, .int .i64 0, .int .i64 0, .int .i64 0]
  rw [← k2.rw]
  clear k2
  go_wp2_with fail
  exact bodyPost_ret (v := .tuple #[motV 0 (0, 0, 0), .int .i64 1]) (by simp [results, Tryz.results23, go_sem, cF]) rfl ⟨rfl, hb5⟩
set_option maxHeartbeats 16000000 in
theorem refThen_yes (tm tn : Nat) (dm dn : Cl) (hrm : rightB (tm : Nat) dm = true) (hrn : rightB (tn : Nat) dn = true) (w : World) : Calls Tryz.prog 21 #[motV (tm : Nat) dm, motV (tn : Nat) dn] w fun e w' => e = .returned (if rightB ((mulT tm tn : Nat) : Int) (addC (movT tn dm) dn) then .tuple #[motV ((mulT tm tn : Nat) : Int) (addC (movT tn dm) dn), .int .i64 0] else .tuple #[motV 0 (0, 0, 0), .int .i64 20]) ∧ Below w.heap.size w w' := by
 have hm1 := rightB_iff.1 hrm
 have hn1 := rightB_iff.1 hrn
 have htm : tm < 24 := by omega
 have htn : tn < 24 := by omega
 have hm := then_ref (m := ((tm : Nat), dm)) (n := ((tn : Nat), dn)) hrm hrn
 have e1 : ((((tm : Nat) : Int), dm) : Go.Solid.Mo).1.toNat = tm := by simp
 have e2 : ((((tn : Nat) : Int), dn) : Go.Solid.Mo).1.toNat = tn := by simp
 rw [e1, e2] at hm
 have hcm : ∀ c, carC (((tm : Nat) : Int), dm) c = movC dm (turnC tm c) := fun c => by unfold carC; rw [e1]
 have hcn : ∀ c, carC (((tn : Nat) : Int), dn) c = movC dn (turnC tn c) := fun c => by unfold carC; rw [e2]
 rw [hcm, hcm, hcm, hcm, hcn, hcn, hcn, hcn] at hm
 obtain ⟨k, hk⟩ : ∃ k, k = mulT tm tn := ⟨_, rfl⟩
 rw [← hk] at hm ⊢
 obtain ⟨hk24, hy, hn⟩ := find_min hm.1
 have HM := Lib.hid fun W => refMotion_spec (tm : Nat) dm W
 have HN := Lib.hid fun W => refMotion_spec (tn : Nat) dn W
 rw [hrm] at HM
 rw [hrn] at HN
 have hz : ∀ c, inG c = true → near14 (movC dm (turnC tm c)) := fun c hc => car_near hc hm1.2
 have HC := Lib.hid fun c (hc : inG c = true) W => carried_spec tm htm dm (short_small hm1.2) c (near14_in hc) W
 have HD := Lib.hid fun c (hc : near14 c) W => carried_spec tn htn dn (short_small hn1.2) c hc W
 have HC0 := Lib.hid fun W => HC.out (0, 0, 0) (by decide) W
 have HD0 := Lib.hid fun W => HD.out (movC dm (turnC tm (0, 0, 0))) (hz _ (by decide)) W
 have HC1 := Lib.hid fun W => HC.out (1, 0, 0) (by decide) W
 have HD1 := Lib.hid fun W => HD.out (movC dm (turnC tm (1, 0, 0))) (hz _ (by decide)) W
 have HC2 := Lib.hid fun W => HC.out (0, 1, 0) (by decide) W
 have HD2 := Lib.hid fun W => HD.out (movC dm (turnC tm (0, 1, 0))) (hz _ (by decide)) W
 have HC3 := Lib.hid fun W => HC.out (0, 0, 1) (by decide) W
 have HD3 := Lib.hid fun W => HD.out (movC dm (turnC tm (0, 0, 1))) (hz _ (by decide)) W
 obtain ⟨x0, hx0⟩ : ∃ g, g = movC dm (turnC tm (0, 0, 0)) := ⟨_, rfl⟩
 obtain ⟨g0, hg0⟩ : ∃ g, g = movC dn (turnC tn x0) := ⟨_, rfl⟩
 obtain ⟨x1, hx1⟩ : ∃ g, g = movC dm (turnC tm (1, 0, 0)) := ⟨_, rfl⟩
 obtain ⟨g1, hg1⟩ : ∃ g, g = movC dn (turnC tn x1) := ⟨_, rfl⟩
 obtain ⟨x2, hx2⟩ : ∃ g, g = movC dm (turnC tm (0, 1, 0)) := ⟨_, rfl⟩
 obtain ⟨g2, hg2⟩ : ∃ g, g = movC dn (turnC tn x2) := ⟨_, rfl⟩
 obtain ⟨x3, hx3⟩ : ∃ g, g = movC dm (turnC tm (0, 0, 1)) := ⟨_, rfl⟩
 obtain ⟨g3, hg3⟩ : ∃ g, g = movC dn (turnC tn x3) := ⟨_, rfl⟩
 have hsm : smallC 100 g0 := by rw [hg0, hx0]; exact car_small (hz _ (by decide)) hn1.2
 have hres := hm.2
 rw [← hx0, ← hx1, ← hx2, ← hx3] at hy hn
 rw [← hg0, ← hg1, ← hg2, ← hg3] at hy hn
 rw [← hx0, ← hg0] at hres
 rw [← hx0] at HC0 HD0; rw [← hx1] at HC1 HD1; rw [← hx2] at HC2 HD2; rw [← hx3] at HC3 HD3
 rw [← hg0] at HD0; rw [← hg1] at HD1; rw [← hg2] at HD2; rw [← hg3] at HD3
 have HOf := Lib.hid fun W => of_spec (0, 0, 0) (1, 0, 0) (0, 1, 0) (0, 0, 1) g0 g1 g2 g3 k hk24 (near14_in (by decide)) (near14_in (by decide)) (near14_in (by decide)) (near14_in (by decide)) hsm hy hn W
 rw [hres] at HOf
 obtain ⟨r, hrr2⟩ : ∃ r, r = addC (movT tn dm) dn := ⟨_, rfl⟩
 rw [← hrr2] at HOf ⊢
 have HK := Lib.hid fun W => refMotion_spec (k : Nat) r W
 obtain ⟨q, hq⟩ : ∃ q, q = rightB ((k : Nat) : Int) r := ⟨_, rfl⟩
 rw [← hq] at HK ⊢
 have HCo := Lib.hid fun W => corners_spec W
 clear hm1 hn1 htm htn hm e1 e2 hcm hcn hk hk24 hy hn hrm hrn hx0 hx1 hx2 hx3 hg0 hg1 hg2 hg3 hres hrr2 HC HD hsm hz hq
 go_enter Tryz.func21, Tryz.ntmps21
 go_wp2_with fail
 obtain ⟨W0, hW0⟩ : ∃ W0, W0 = ((w.alloc (.cells #[.int .i64 (tm : Nat), .int .i64 dm.1, .int .i64 dm.2.1, .int .i64 dm.2.2] 23)).alloc (.cells #[.int .i64 (tn : Nat), .int .i64 dn.1, .int .i64 dn.2.1, .int .i64 dn.2.2] 23)).alloc (.cells #[.int .i64 0, .int .i64 0, .int .i64 0, .int .i64 0] 23) := ⟨_, rfl⟩
 have b0 : Blk W0 w.heap.size #[.int .i64 (tm : Nat), .int .i64 dm.1, .int .i64 dm.2.1, .int .i64 dm.2.2] 23 ∧ Blk W0 (w.heap.size + 1) #[.int .i64 (tn : Nat), .int .i64 dn.1, .int .i64 dn.2.1, .int .i64 dn.2.2] 23 ∧ Blk W0 (w.heap.size + 1 + 1) #[.int .i64 0, .int .i64 0, .int .i64 0, .int .i64 0] 23 ∧ Below w.heap.size w W0 := by
  rw [hW0]
  exact ⟨(by repeat (first | with_reducible assumption | (refine Blk.at _ _ ?_; (simp; done)) | with_reducible refine Blk.alloc ?_ _ | with_reducible refine Blk.drew ?_ | with_reducible refine Blk.rowS ?_ _ | with_reducible refine Blk.rowO ?_ _ (by simp))), (by repeat (first | with_reducible assumption | (refine Blk.at _ _ ?_; (simp; done)) | with_reducible refine Blk.alloc ?_ _ | with_reducible refine Blk.drew ?_ | with_reducible refine Blk.rowS ?_ _ | with_reducible refine Blk.rowO ?_ _ (by simp))), Blk.at _ _ (by simp), (by repeat (first | with_reducible exact bel_refl _ | with_reducible assumption | with_reducible refine bel_drewN ?_ _ | with_reducible refine bel_drew ?_ | with_reducible refine bel_alloc ?_ _ | with_reducible refine bel_row ?_ ?_ _ | with_reducible refine bel_set ?_ ?_ _ | refine bel_trans ?_ (by with_reducible assumption) | (simp; done) | (simp; omega)))⟩
 rw [← hW0]
 clear hW0
 have HB := Lib.hid b0
 clear b0
 refine (HM.out _).mono ?_
 rintro e w1 ⟨rfl, hb⟩
 have HB1 := Lib.hid (And.intro (HB.out.1.grow hb) (And.intro (HB.out.2.1.grow hb) (And.intro (HB.out.2.2.1.grow hb) (bel_trans HB.out.2.2.2 hb))))
 clear hb HB
 have cx := HB1.out.2.1.cell; have lx := HB1.out.2.1.lt
 go_wp2_with fail
 clear cx lx
 refine (HN.out _).mono ?_
 rintro e w1' ⟨rfl, hb⟩
 have HB2 := Lib.hid (And.intro (HB1.out.1.grow hb) (And.intro (HB1.out.2.1.grow hb) (And.intro (HB1.out.2.2.1.grow hb) (bel_trans HB1.out.2.2.2 hb))))
 clear hb HB1
 go_wp2_with fail
 refine (HCo.out _).mono ?_
 rintro e w2 ⟨rfl, hb⟩
 obtain ⟨wA, hwA⟩ : ∃ x, x = w2.alloc (.cells #[.int .i64 0, .int .i64 0, .int .i64 0, .int .i64 1, .int .i64 0, .int .i64 0, .int .i64 0, .int .i64 1, .int .i64 0, .int .i64 0, .int .i64 0, .int .i64 1] 83) := ⟨_, rfl⟩
 obtain ⟨ga, hga⟩ : ∃ x, x = w2.heap.size := ⟨_, rfl⟩
 have HA : Hid (Blk wA ga #[.int .i64 0, .int .i64 0, .int .i64 0, .int .i64 1, .int .i64 0, .int .i64 0, .int .i64 0, .int .i64 1, .int .i64 0, .int .i64 0, .int .i64 0, .int .i64 1] 83 ∧ Blk wA w.heap.size #[.int .i64 (tm : Nat), .int .i64 dm.1, .int .i64 dm.2.1, .int .i64 dm.2.2] 23 ∧ Blk wA (w.heap.size + 1) #[.int .i64 (tn : Nat), .int .i64 dn.1, .int .i64 dn.2.1, .int .i64 dn.2.2] 23 ∧ Blk wA (w.heap.size + 1 + 1) #[.int .i64 0, .int .i64 0, .int .i64 0, .int .i64 0] 23 ∧ Below w.heap.size w wA) := Lib.hid (by
  rw [hwA, hga]
  exact ⟨Blk.new _ _ _, (HB2.out.1.grow hb).alloc _, (HB2.out.2.1.grow hb).alloc _, (HB2.out.2.2.1.grow hb).alloc _, bel_alloc (bel_trans HB2.out.2.2.2 hb) _⟩)
 have ho1 : Hid (w.heap.size + 1 + 1 < ga) := Lib.hid (by rw [hga]; exact (HB2.out.2.2.1.grow hb).lt)
 go_upto_region 4 with fail
 rw [← hwA, ← hga]
 clear hwA hga hb HB2
 go_wp2_with fail
 refine (HCo.out _).mono ?_
 rintro e w3 ⟨rfl, hb⟩
 obtain ⟨wB, hwB⟩ : ∃ x, x = w3.alloc (.cells #[.int .i64 0, .int .i64 0, .int .i64 0, .int .i64 1, .int .i64 0, .int .i64 0, .int .i64 0, .int .i64 1, .int .i64 0, .int .i64 0, .int .i64 0, .int .i64 1] 83) := ⟨_, rfl⟩
 obtain ⟨gb, hgb⟩ : ∃ x, x = w3.heap.size := ⟨_, rfl⟩
 have HB2 : Hid (Blk wB gb #[.int .i64 0, .int .i64 0, .int .i64 0, .int .i64 1, .int .i64 0, .int .i64 0, .int .i64 0, .int .i64 1, .int .i64 0, .int .i64 0, .int .i64 0, .int .i64 1] 83 ∧ Blk wB ga #[.int .i64 0, .int .i64 0, .int .i64 0, .int .i64 1, .int .i64 0, .int .i64 0, .int .i64 0, .int .i64 1, .int .i64 0, .int .i64 0, .int .i64 0, .int .i64 1] 83 ∧ Blk wB w.heap.size #[.int .i64 (tm : Nat), .int .i64 dm.1, .int .i64 dm.2.1, .int .i64 dm.2.2] 23 ∧ Blk wB (w.heap.size + 1) #[.int .i64 (tn : Nat), .int .i64 dn.1, .int .i64 dn.2.1, .int .i64 dn.2.2] 23 ∧ Blk wB (w.heap.size + 1 + 1) #[.int .i64 0, .int .i64 0, .int .i64 0, .int .i64 0] 23 ∧ Below w.heap.size w wB) := Lib.hid (by
  rw [hwB, hgb]
  exact ⟨Blk.new _ _ _, (HA.out.1.grow hb).alloc _, (HA.out.2.1.grow hb).alloc _, (HA.out.2.2.1.grow hb).alloc _, (HA.out.2.2.2.1.grow hb).alloc _, bel_alloc (bel_trans HA.out.2.2.2.2 hb) _⟩)
 have ho2 : Hid (ga < gb) := Lib.hid (by rw [hgb]; exact (HA.out.1.grow hb).lt)
 go_upto_region 5 with fail
 rw [← hwB, ← hgb]
 clear hwB hgb hb HA
 have HO : Hid (w.heap.size + 1 + 1 < ga ∧ ga < gb) := Lib.hid ⟨ho1.out, ho2.out⟩
 clear ho1 ho2
 obtain ⟨arr, ha0, ha1, ha2, ha3, ha4⟩ : ∃ f : Nat → Array Value, f 0 = #[.int .i64 0, .int .i64 0, .int .i64 0, .int .i64 1, .int .i64 0, .int .i64 0, .int .i64 0, .int .i64 1, .int .i64 0, .int .i64 0, .int .i64 0, .int .i64 1] ∧ f 1 = #[.int .i64 g0.1, .int .i64 g0.2.1, .int .i64 g0.2.2, .int .i64 1, .int .i64 0, .int .i64 0, .int .i64 0, .int .i64 1, .int .i64 0, .int .i64 0, .int .i64 0, .int .i64 1] ∧ f 2 = #[.int .i64 g0.1, .int .i64 g0.2.1, .int .i64 g0.2.2, .int .i64 g1.1, .int .i64 g1.2.1, .int .i64 g1.2.2, .int .i64 0, .int .i64 1, .int .i64 0, .int .i64 0, .int .i64 0, .int .i64 1] ∧ f 3 = #[.int .i64 g0.1, .int .i64 g0.2.1, .int .i64 g0.2.2, .int .i64 g1.1, .int .i64 g1.2.1, .int .i64 g1.2.2, .int .i64 g2.1, .int .i64 g2.2.1, .int .i64 g2.2.2, .int .i64 0, .int .i64 0, .int .i64 1] ∧ f 4 = #[.int .i64 g0.1, .int .i64 g0.2.1, .int .i64 g0.2.2, .int .i64 g1.1, .int .i64 g1.2.1, .int .i64 g1.2.2, .int .i64 g2.1, .int .i64 g2.2.1, .int .i64 g2.2.2, .int .i64 g3.1, .int .i64 g3.2.1, .int .i64 g3.2.2] := ⟨fun i => match i with | 0 => #[.int .i64 0, .int .i64 0, .int .i64 0, .int .i64 1, .int .i64 0, .int .i64 0, .int .i64 0, .int .i64 1, .int .i64 0, .int .i64 0, .int .i64 0, .int .i64 1] | 1 => #[.int .i64 g0.1, .int .i64 g0.2.1, .int .i64 g0.2.2, .int .i64 1, .int .i64 0, .int .i64 0, .int .i64 0, .int .i64 1, .int .i64 0, .int .i64 0, .int .i64 0, .int .i64 1] | 2 => #[.int .i64 g0.1, .int .i64 g0.2.1, .int .i64 g0.2.2, .int .i64 g1.1, .int .i64 g1.2.1, .int .i64 g1.2.2, .int .i64 0, .int .i64 1, .int .i64 0, .int .i64 0, .int .i64 0, .int .i64 1] | 3 => #[.int .i64 g0.1, .int .i64 g0.2.1, .int .i64 g0.2.2, .int .i64 g1.1, .int .i64 g1.2.1, .int .i64 g1.2.2, .int .i64 g2.1, .int .i64 g2.2.1, .int .i64 g2.2.2, .int .i64 0, .int .i64 0, .int .i64 1] | _ + 4 => #[.int .i64 g0.1, .int .i64 g0.2.1, .int .i64 g0.2.2, .int .i64 g1.1, .int .i64 g1.2.1, .int .i64 g1.2.2, .int .i64 g2.1, .int .i64 g2.2.1, .int .i64 g2.2.2, .int .i64 g3.1, .int .i64 g3.2.1, .int .i64 g3.2.2], rfl, rfl, rfl, rfl, rfl⟩
 have HAr := Lib.hid (And.intro ha0 (And.intro ha1 (And.intro ha2 (And.intro ha3 ha4))))
 have HS0 : Hid (Blk wB gb (arr 0) 83 ∧ Blk wB ga #[.int .i64 0, .int .i64 0, .int .i64 0, .int .i64 1, .int .i64 0, .int .i64 0, .int .i64 0, .int .i64 1, .int .i64 0, .int .i64 0, .int .i64 0, .int .i64 1] 83 ∧ Blk wB w.heap.size #[.int .i64 (tm : Nat), .int .i64 dm.1, .int .i64 dm.2.1, .int .i64 dm.2.2] 23 ∧ Blk wB (w.heap.size + 1) #[.int .i64 (tn : Nat), .int .i64 dn.1, .int .i64 dn.2.1, .int .i64 dn.2.2] 23 ∧ Blk wB (w.heap.size + 1 + 1) #[.int .i64 0, .int .i64 0, .int .i64 0, .int .i64 0] 23 ∧ Below w.heap.size w wB) := Lib.hid (by rw [ha0]; exact HB2.out)
 clear ha0 ha1 ha2 ha3 ha4 HB2
 go_wp2_with fail
 go_loopw [8] (fun iv wx => ∃ i : Nat, i ≤ 4 ∧ iv = .int .i64 i ∧ Hid (Blk wx gb (arr i) 83 ∧ Blk wx ga #[.int .i64 0, .int .i64 0, .int .i64 0, .int .i64 1, .int .i64 0, .int .i64 0, .int .i64 0, .int .i64 1, .int .i64 0, .int .i64 0, .int .i64 0, .int .i64 1] 83 ∧ Blk wx w.heap.size #[.int .i64 (tm : Nat), .int .i64 dm.1, .int .i64 dm.2.1, .int .i64 dm.2.2] 23 ∧ Blk wx (w.heap.size + 1) #[.int .i64 (tn : Nat), .int .i64 dn.1, .int .i64 dn.2.1, .int .i64 dn.2.2] 23 ∧ Blk wx (w.heap.size + 1 + 1) #[.int .i64 0, .int .i64 0, .int .i64 0, .int .i64 0] 23 ∧ Below w.heap.size w wx)) (fun iv _ => 4 - (intOf iv).toNat)
 case atStart => exact ⟨0, by omega, rfl, HS0⟩
 case round =>
  clear HS0
  obtain ⟨i, hi, rfl, HM1⟩ := hrel
  obtain hi5 | hi5 : i < 4 ∨ i = 4 := by omega
  ·obtain hi4 | hi4 | hi4 | hi4 : i = 0 ∨ i = 1 ∨ i = 2 ∨ i = 3 := by omega
   ·subst hi4
    have hM := HM1.out
    rw [HAr.out.1] at hM
    have HQ := Lib.hid hM
    clear hM HM1 hi hi5
    have ca := HQ.out.2.1.cell; have la := HQ.out.2.1.lt
    have cm := HQ.out.2.2.1.cell; have lm := HQ.out.2.2.1.lt
    have cn := HQ.out.2.2.2.1.cell; have ln := HQ.out.2.2.2.1.lt
    go_wp2_with fail
    refine wp_region_grow 9 [Is (.int .i64 0), Is (.int .i64 0), Is (.pointer (some ⟨ga, 0, none⟩)), Is (.agg #[.int .i64 0, .int .i64 0, .int .i64 0]), Is (motV (tm : Nat) dm), Is (clV x0), Is (motV (tn : Nat) dn), Is (clV g0), Is (.pointer (some ⟨gb, 0, none⟩))] (by kernel_rfl) (by kernel_rfl) rfl ⟨fun _ _ _ h _ => h, fun _ _ _ h _ => h, fun _ _ _ h _ => h, fun _ _ _ h _ => h, fun _ _ _ h _ => h, fun _ _ _ h _ => h, fun _ _ _ h _ => h, fun _ _ _ h _ => h, fun _ _ _ h _ => h, trivial⟩ ?_
    simp only [List.take_succ_cons, List.take_zero, List.drop_succ_cons, List.drop_zero]
    iterate 5 (refine rel_cons ?_ (fun _ => ?_); · intro w1 hb hF; have hc := (Grows.cells hb).1; have hf := (Grows.cells hb).2; (try simp [facts, Is] at hF); go_simp; exact Grows.refl _)
    refine rel_cons ?_ (fun v5 => ?_)
    ·intro w1 hb hF; have hc := (Grows.cells hb).1; have hf := (Grows.cells hb).2; try simp [facts, Is] at hF
     go_simp
     refine (HC0.out _).mono ?_
     rintro e w2 ⟨rfl, hb2⟩
     first | exact ⟨rfl, hb2⟩ | exact ⟨_, rfl, hb2, trivial, rfl⟩
    refine rel_cons ?_ (fun v6 => ?_)
    ·intro w1 hb hF; have hc := (Grows.cells hb).1; have hf := (Grows.cells hb).2; try simp [facts, Is] at hF
     go_simp
     exact Grows.refl _
    refine rel_cons ?_ (fun v7 => ?_)
    ·intro w1 hb hF; have hc := (Grows.cells hb).1; have hf := (Grows.cells hb).2; try simp [facts, Is] at hF
     go_simp
     refine (HD0.out _).mono ?_
     rintro e w2 ⟨rfl, hb2⟩
     first | exact ⟨rfl, hb2⟩ | exact ⟨_, rfl, hb2, trivial, rfl⟩
    refine rel_cons ?_ (fun v8 => ?_)
    ·intro w1 hb hF; have hc := (Grows.cells hb).1; have hf := (Grows.cells hb).2; try simp [facts, Is] at hF
     go_simp
     exact Grows.refl _
    refine rel_nil ?_
    intro w1 hb hF
    simp [Is, Nat.forall_lt_succ_right] at hF
    simp only [Act.put, List.setIfInBounds_toArray, List.set_cons_succ, List.set_cons_zero, hF]
    clear hF
    have hbw : Below wr.heap.size wr w1 := hb
    have kB := HQ.out.1.grow hbw
    have ho := HO.out
    have HE := Lib.hid (And.intro (kB.rowS #[.int .i64 g0.1, .int .i64 g0.2.1, .int .i64 g0.2.2, .int .i64 1, .int .i64 0, .int .i64 0, .int .i64 0, .int .i64 1, .int .i64 0, .int .i64 0, .int .i64 0, .int .i64 1]) (And.intro ((HQ.out.2.1.grow hbw).rowO (g := gb) #[.int .i64 g0.1, .int .i64 g0.2.1, .int .i64 g0.2.2, .int .i64 1, .int .i64 0, .int .i64 0, .int .i64 0, .int .i64 1, .int .i64 0, .int .i64 0, .int .i64 0, .int .i64 1] (by omega)) (And.intro ((HQ.out.2.2.1.grow hbw).rowO (g := gb) #[.int .i64 g0.1, .int .i64 g0.2.1, .int .i64 g0.2.2, .int .i64 1, .int .i64 0, .int .i64 0, .int .i64 0, .int .i64 1, .int .i64 0, .int .i64 0, .int .i64 0, .int .i64 1] (by omega)) (And.intro ((HQ.out.2.2.2.1.grow hbw).rowO (g := gb) #[.int .i64 g0.1, .int .i64 g0.2.1, .int .i64 g0.2.2, .int .i64 1, .int .i64 0, .int .i64 0, .int .i64 0, .int .i64 1, .int .i64 0, .int .i64 0, .int .i64 0, .int .i64 1] (by omega)) (And.intro ((HQ.out.2.2.2.2.1.grow hbw).rowO (g := gb) #[.int .i64 g0.1, .int .i64 g0.2.1, .int .i64 g0.2.2, .int .i64 1, .int .i64 0, .int .i64 0, .int .i64 0, .int .i64 1, .int .i64 0, .int .i64 0, .int .i64 0, .int .i64 1] (by omega)) (bel_row (bel_trans HQ.out.2.2.2.2.2 hbw) (g := gb) (by omega) #[.int .i64 g0.1, .int .i64 g0.2.1, .int .i64 g0.2.2, .int .i64 1, .int .i64 0, .int .i64 0, .int .i64 0, .int .i64 1, .int .i64 0, .int .i64 0, .int .i64 0, .int .i64 1]))))))
    have rb := kB.row; have lb := kB.lt
    rw [← kB.rw]
    clear kB ho hb hbw HQ ca la cm lm cn ln
    go_wp2_with fail
    go_roundw
    case rel =>
     refine ⟨1, by omega, by first | rfl | go_num, Lib.hid ?_⟩
     rw [HAr.out.2.1]
     exact HE.out
    case measure => simp [intOf]
   ·subst hi4
    have hM := HM1.out
    rw [HAr.out.2.1] at hM
    have HQ := Lib.hid hM
    clear hM HM1 hi hi5
    have ca := HQ.out.2.1.cell; have la := HQ.out.2.1.lt
    have cm := HQ.out.2.2.1.cell; have lm := HQ.out.2.2.1.lt
    have cn := HQ.out.2.2.2.1.cell; have ln := HQ.out.2.2.2.1.lt
    go_wp2_with fail
    refine wp_region_grow 9 [Is (.int .i64 1), Is (.int .i64 1), Is (.pointer (some ⟨ga, 3, none⟩)), Is (.agg #[.int .i64 1, .int .i64 0, .int .i64 0]), Is (motV (tm : Nat) dm), Is (clV x1), Is (motV (tn : Nat) dn), Is (clV g1), Is (.pointer (some ⟨gb, 3, none⟩))] (by kernel_rfl) (by kernel_rfl) rfl ⟨fun _ _ _ h _ => h, fun _ _ _ h _ => h, fun _ _ _ h _ => h, fun _ _ _ h _ => h, fun _ _ _ h _ => h, fun _ _ _ h _ => h, fun _ _ _ h _ => h, fun _ _ _ h _ => h, fun _ _ _ h _ => h, trivial⟩ ?_
    simp only [List.take_succ_cons, List.take_zero, List.drop_succ_cons, List.drop_zero]
    iterate 5 (refine rel_cons ?_ (fun _ => ?_); · intro w1 hb hF; have hc := (Grows.cells hb).1; have hf := (Grows.cells hb).2; (try simp [facts, Is] at hF); go_simp; exact Grows.refl _)
    refine rel_cons ?_ (fun v5 => ?_)
    ·intro w1 hb hF; have hc := (Grows.cells hb).1; have hf := (Grows.cells hb).2; try simp [facts, Is] at hF
     go_simp
     refine (HC1.out _).mono ?_
     rintro e w2 ⟨rfl, hb2⟩
     first | exact ⟨rfl, hb2⟩ | exact ⟨_, rfl, hb2, trivial, rfl⟩
    refine rel_cons ?_ (fun v6 => ?_)
    ·intro w1 hb hF; have hc := (Grows.cells hb).1; have hf := (Grows.cells hb).2; try simp [facts, Is] at hF
     go_simp
     exact Grows.refl _
    refine rel_cons ?_ (fun v7 => ?_)
    ·intro w1 hb hF; have hc := (Grows.cells hb).1; have hf := (Grows.cells hb).2; try simp [facts, Is] at hF
     go_simp
     refine (HD1.out _).mono ?_
     rintro e w2 ⟨rfl, hb2⟩
     first | exact ⟨rfl, hb2⟩ | exact ⟨_, rfl, hb2, trivial, rfl⟩
    refine rel_cons ?_ (fun v8 => ?_)
    ·intro w1 hb hF; have hc := (Grows.cells hb).1; have hf := (Grows.cells hb).2; try simp [facts, Is] at hF
     go_simp
     exact Grows.refl _
    refine rel_nil ?_
    intro w1 hb hF
    simp [Is, Nat.forall_lt_succ_right] at hF
    simp only [Act.put, List.setIfInBounds_toArray, List.set_cons_succ, List.set_cons_zero, hF]
    clear hF
    have hbw : Below wr.heap.size wr w1 := hb
    have kB := HQ.out.1.grow hbw
    have ho := HO.out
    have HE := Lib.hid (And.intro (kB.rowS #[.int .i64 g0.1, .int .i64 g0.2.1, .int .i64 g0.2.2, .int .i64 g1.1, .int .i64 g1.2.1, .int .i64 g1.2.2, .int .i64 0, .int .i64 1, .int .i64 0, .int .i64 0, .int .i64 0, .int .i64 1]) (And.intro ((HQ.out.2.1.grow hbw).rowO (g := gb) #[.int .i64 g0.1, .int .i64 g0.2.1, .int .i64 g0.2.2, .int .i64 g1.1, .int .i64 g1.2.1, .int .i64 g1.2.2, .int .i64 0, .int .i64 1, .int .i64 0, .int .i64 0, .int .i64 0, .int .i64 1] (by omega)) (And.intro ((HQ.out.2.2.1.grow hbw).rowO (g := gb) #[.int .i64 g0.1, .int .i64 g0.2.1, .int .i64 g0.2.2, .int .i64 g1.1, .int .i64 g1.2.1, .int .i64 g1.2.2, .int .i64 0, .int .i64 1, .int .i64 0, .int .i64 0, .int .i64 0, .int .i64 1] (by omega)) (And.intro ((HQ.out.2.2.2.1.grow hbw).rowO (g := gb) #[.int .i64 g0.1, .int .i64 g0.2.1, .int .i64 g0.2.2, .int .i64 g1.1, .int .i64 g1.2.1, .int .i64 g1.2.2, .int .i64 0, .int .i64 1, .int .i64 0, .int .i64 0, .int .i64 0, .int .i64 1] (by omega)) (And.intro ((HQ.out.2.2.2.2.1.grow hbw).rowO (g := gb) #[.int .i64 g0.1, .int .i64 g0.2.1, .int .i64 g0.2.2, .int .i64 g1.1, .int .i64 g1.2.1, .int .i64 g1.2.2, .int .i64 0, .int .i64 1, .int .i64 0, .int .i64 0, .int .i64 0, .int .i64 1] (by omega)) (bel_row (bel_trans HQ.out.2.2.2.2.2 hbw) (g := gb) (by omega) #[.int .i64 g0.1, .int .i64 g0.2.1, .int .i64 g0.2.2, .int .i64 g1.1, .int .i64 g1.2.1, .int .i64 g1.2.2, .int .i64 0, .int .i64 1, .int .i64 0, .int .i64 0, .int .i64 0, .int .i64 1]))))))
    have rb := kB.row; have lb := kB.lt
    rw [← kB.rw]
    clear kB ho hb hbw HQ ca la cm lm cn ln
    go_wp2_with fail
    go_roundw
    case rel =>
     refine ⟨2, by omega, by first | rfl | go_num, Lib.hid ?_⟩
     rw [HAr.out.2.2.1]
     exact HE.out
    case measure => simp [intOf]
   ·subst hi4
    have hM := HM1.out
    rw [HAr.out.2.2.1] at hM
    have HQ := Lib.hid hM
    clear hM HM1 hi hi5
    have ca := HQ.out.2.1.cell; have la := HQ.out.2.1.lt
    have cm := HQ.out.2.2.1.cell; have lm := HQ.out.2.2.1.lt
    have cn := HQ.out.2.2.2.1.cell; have ln := HQ.out.2.2.2.1.lt
    go_wp2_with fail
    refine wp_region_grow 9 [Is (.int .i64 2), Is (.int .i64 2), Is (.pointer (some ⟨ga, 6, none⟩)), Is (.agg #[.int .i64 0, .int .i64 1, .int .i64 0]), Is (motV (tm : Nat) dm), Is (clV x2), Is (motV (tn : Nat) dn), Is (clV g2), Is (.pointer (some ⟨gb, 6, none⟩))] (by kernel_rfl) (by kernel_rfl) rfl ⟨fun _ _ _ h _ => h, fun _ _ _ h _ => h, fun _ _ _ h _ => h, fun _ _ _ h _ => h, fun _ _ _ h _ => h, fun _ _ _ h _ => h, fun _ _ _ h _ => h, fun _ _ _ h _ => h, fun _ _ _ h _ => h, trivial⟩ ?_
    simp only [List.take_succ_cons, List.take_zero, List.drop_succ_cons, List.drop_zero]
    iterate 5 (refine rel_cons ?_ (fun _ => ?_); · intro w1 hb hF; have hc := (Grows.cells hb).1; have hf := (Grows.cells hb).2; (try simp [facts, Is] at hF); go_simp; exact Grows.refl _)
    refine rel_cons ?_ (fun v5 => ?_)
    ·intro w1 hb hF; have hc := (Grows.cells hb).1; have hf := (Grows.cells hb).2; try simp [facts, Is] at hF
     go_simp
     refine (HC2.out _).mono ?_
     rintro e w2 ⟨rfl, hb2⟩
     first | exact ⟨rfl, hb2⟩ | exact ⟨_, rfl, hb2, trivial, rfl⟩
    refine rel_cons ?_ (fun v6 => ?_)
    ·intro w1 hb hF; have hc := (Grows.cells hb).1; have hf := (Grows.cells hb).2; try simp [facts, Is] at hF
     go_simp
     exact Grows.refl _
    refine rel_cons ?_ (fun v7 => ?_)
    ·intro w1 hb hF; have hc := (Grows.cells hb).1; have hf := (Grows.cells hb).2; try simp [facts, Is] at hF
     go_simp
     refine (HD2.out _).mono ?_
     rintro e w2 ⟨rfl, hb2⟩
     first | exact ⟨rfl, hb2⟩ | exact ⟨_, rfl, hb2, trivial, rfl⟩
    refine rel_cons ?_ (fun v8 => ?_)
    ·intro w1 hb hF; have hc := (Grows.cells hb).1; have hf := (Grows.cells hb).2; try simp [facts, Is] at hF
     go_simp
     exact Grows.refl _
    refine rel_nil ?_
    intro w1 hb hF
    simp [Is, Nat.forall_lt_succ_right] at hF
    simp only [Act.put, List.setIfInBounds_toArray, List.set_cons_succ, List.set_cons_zero, hF]
    clear hF
    have hbw : Below wr.heap.size wr w1 := hb
    have kB := HQ.out.1.grow hbw
    have ho := HO.out
    have HE := Lib.hid (And.intro (kB.rowS #[.int .i64 g0.1, .int .i64 g0.2.1, .int .i64 g0.2.2, .int .i64 g1.1, .int .i64 g1.2.1, .int .i64 g1.2.2, .int .i64 g2.1, .int .i64 g2.2.1, .int .i64 g2.2.2, .int .i64 0, .int .i64 0, .int .i64 1]) (And.intro ((HQ.out.2.1.grow hbw).rowO (g := gb) #[.int .i64 g0.1, .int .i64 g0.2.1, .int .i64 g0.2.2, .int .i64 g1.1, .int .i64 g1.2.1, .int .i64 g1.2.2, .int .i64 g2.1, .int .i64 g2.2.1, .int .i64 g2.2.2, .int .i64 0, .int .i64 0, .int .i64 1] (by omega)) (And.intro ((HQ.out.2.2.1.grow hbw).rowO (g := gb) #[.int .i64 g0.1, .int .i64 g0.2.1, .int .i64 g0.2.2, .int .i64 g1.1, .int .i64 g1.2.1, .int .i64 g1.2.2, .int .i64 g2.1, .int .i64 g2.2.1, .int .i64 g2.2.2, .int .i64 0, .int .i64 0, .int .i64 1] (by omega)) (And.intro ((HQ.out.2.2.2.1.grow hbw).rowO (g := gb) #[.int .i64 g0.1, .int .i64 g0.2.1, .int .i64 g0.2.2, .int .i64 g1.1, .int .i64 g1.2.1, .int .i64 g1.2.2, .int .i64 g2.1, .int .i64 g2.2.1, .int .i64 g2.2.2, .int .i64 0, .int .i64 0, .int .i64 1] (by omega)) (And.intro ((HQ.out.2.2.2.2.1.grow hbw).rowO (g := gb) #[.int .i64 g0.1, .int .i64 g0.2.1, .int .i64 g0.2.2, .int .i64 g1.1, .int .i64 g1.2.1, .int .i64 g1.2.2, .int .i64 g2.1, .int .i64 g2.2.1, .int .i64 g2.2.2, .int .i64 0, .int .i64 0, .int .i64 1] (by omega)) (bel_row (bel_trans HQ.out.2.2.2.2.2 hbw) (g := gb) (by omega) #[.int .i64 g0.1, .int .i64 g0.2.1, .int .i64 g0.2.2, .int .i64 g1.1, .int .i64 g1.2.1, .int .i64 g1.2.2, .int .i64 g2.1, .int .i64 g2.2.1, .int .i64 g2.2.2, .int .i64 0, .int .i64 0, .int .i64 1]))))))
    have rb := kB.row; have lb := kB.lt
    rw [← kB.rw]
    clear kB ho hb hbw HQ ca la cm lm cn ln
    go_wp2_with fail
    go_roundw
    case rel =>
     refine ⟨3, by omega, by first | rfl | go_num, Lib.hid ?_⟩
     rw [HAr.out.2.2.2.1]
     exact HE.out
    case measure => simp [intOf]
   ·subst hi4
    have hM := HM1.out
    rw [HAr.out.2.2.2.1] at hM
    have HQ := Lib.hid hM
    clear hM HM1 hi hi5
    have ca := HQ.out.2.1.cell; have la := HQ.out.2.1.lt
    have cm := HQ.out.2.2.1.cell; have lm := HQ.out.2.2.1.lt
    have cn := HQ.out.2.2.2.1.cell; have ln := HQ.out.2.2.2.1.lt
    go_wp2_with fail
    refine wp_region_grow 9 [Is (.int .i64 3), Is (.int .i64 3), Is (.pointer (some ⟨ga, 9, none⟩)), Is (.agg #[.int .i64 0, .int .i64 0, .int .i64 1]), Is (motV (tm : Nat) dm), Is (clV x3), Is (motV (tn : Nat) dn), Is (clV g3), Is (.pointer (some ⟨gb, 9, none⟩))] (by kernel_rfl) (by kernel_rfl) rfl ⟨fun _ _ _ h _ => h, fun _ _ _ h _ => h, fun _ _ _ h _ => h, fun _ _ _ h _ => h, fun _ _ _ h _ => h, fun _ _ _ h _ => h, fun _ _ _ h _ => h, fun _ _ _ h _ => h, fun _ _ _ h _ => h, trivial⟩ ?_
    simp only [List.take_succ_cons, List.take_zero, List.drop_succ_cons, List.drop_zero]
    iterate 5 (refine rel_cons ?_ (fun _ => ?_); · intro w1 hb hF; have hc := (Grows.cells hb).1; have hf := (Grows.cells hb).2; (try simp [facts, Is] at hF); go_simp; exact Grows.refl _)
    refine rel_cons ?_ (fun v5 => ?_)
    ·intro w1 hb hF; have hc := (Grows.cells hb).1; have hf := (Grows.cells hb).2; try simp [facts, Is] at hF
     go_simp
     refine (HC3.out _).mono ?_
     rintro e w2 ⟨rfl, hb2⟩
     first | exact ⟨rfl, hb2⟩ | exact ⟨_, rfl, hb2, trivial, rfl⟩
    refine rel_cons ?_ (fun v6 => ?_)
    ·intro w1 hb hF; have hc := (Grows.cells hb).1; have hf := (Grows.cells hb).2; try simp [facts, Is] at hF
     go_simp
     exact Grows.refl _
    refine rel_cons ?_ (fun v7 => ?_)
    ·intro w1 hb hF; have hc := (Grows.cells hb).1; have hf := (Grows.cells hb).2; try simp [facts, Is] at hF
     go_simp
     refine (HD3.out _).mono ?_
     rintro e w2 ⟨rfl, hb2⟩
     first | exact ⟨rfl, hb2⟩ | exact ⟨_, rfl, hb2, trivial, rfl⟩
    refine rel_cons ?_ (fun v8 => ?_)
    ·intro w1 hb hF; have hc := (Grows.cells hb).1; have hf := (Grows.cells hb).2; try simp [facts, Is] at hF
     go_simp
     exact Grows.refl _
    refine rel_nil ?_
    intro w1 hb hF
    simp [Is, Nat.forall_lt_succ_right] at hF
    simp only [Act.put, List.setIfInBounds_toArray, List.set_cons_succ, List.set_cons_zero, hF]
    clear hF
    have hbw : Below wr.heap.size wr w1 := hb
    have kB := HQ.out.1.grow hbw
    have ho := HO.out
    have HE := Lib.hid (And.intro (kB.rowS #[.int .i64 g0.1, .int .i64 g0.2.1, .int .i64 g0.2.2, .int .i64 g1.1, .int .i64 g1.2.1, .int .i64 g1.2.2, .int .i64 g2.1, .int .i64 g2.2.1, .int .i64 g2.2.2, .int .i64 g3.1, .int .i64 g3.2.1, .int .i64 g3.2.2]) (And.intro ((HQ.out.2.1.grow hbw).rowO (g := gb) #[.int .i64 g0.1, .int .i64 g0.2.1, .int .i64 g0.2.2, .int .i64 g1.1, .int .i64 g1.2.1, .int .i64 g1.2.2, .int .i64 g2.1, .int .i64 g2.2.1, .int .i64 g2.2.2, .int .i64 g3.1, .int .i64 g3.2.1, .int .i64 g3.2.2] (by omega)) (And.intro ((HQ.out.2.2.1.grow hbw).rowO (g := gb) #[.int .i64 g0.1, .int .i64 g0.2.1, .int .i64 g0.2.2, .int .i64 g1.1, .int .i64 g1.2.1, .int .i64 g1.2.2, .int .i64 g2.1, .int .i64 g2.2.1, .int .i64 g2.2.2, .int .i64 g3.1, .int .i64 g3.2.1, .int .i64 g3.2.2] (by omega)) (And.intro ((HQ.out.2.2.2.1.grow hbw).rowO (g := gb) #[.int .i64 g0.1, .int .i64 g0.2.1, .int .i64 g0.2.2, .int .i64 g1.1, .int .i64 g1.2.1, .int .i64 g1.2.2, .int .i64 g2.1, .int .i64 g2.2.1, .int .i64 g2.2.2, .int .i64 g3.1, .int .i64 g3.2.1, .int .i64 g3.2.2] (by omega)) (And.intro ((HQ.out.2.2.2.2.1.grow hbw).rowO (g := gb) #[.int .i64 g0.1, .int .i64 g0.2.1, .int .i64 g0.2.2, .int .i64 g1.1, .int .i64 g1.2.1, .int .i64 g1.2.2, .int .i64 g2.1, .int .i64 g2.2.1, .int .i64 g2.2.2, .int .i64 g3.1, .int .i64 g3.2.1, .int .i64 g3.2.2] (by omega)) (bel_row (bel_trans HQ.out.2.2.2.2.2 hbw) (g := gb) (by omega) #[.int .i64 g0.1, .int .i64 g0.2.1, .int .i64 g0.2.2, .int .i64 g1.1, .int .i64 g1.2.1, .int .i64 g1.2.2, .int .i64 g2.1, .int .i64 g2.2.1, .int .i64 g2.2.2, .int .i64 g3.1, .int .i64 g3.2.1, .int .i64 g3.2.2]))))))
    have rb := kB.row; have lb := kB.lt
    rw [← kB.rw]
    clear kB ho hb hbw HQ ca la cm lm cn ln
    go_wp2_with fail
    go_roundw
    case rel =>
     refine ⟨4, by omega, by first | rfl | go_num, Lib.hid ?_⟩
     rw [HAr.out.2.2.2.2]
     exact HE.out
    case measure => simp [intOf]
  ·subst hi5
   have hM := HM1.out
   rw [HAr.out.2.2.2.2] at hM
   have HQ := Lib.hid hM
   clear hM HM1 hi
   have ca := HQ.out.2.1.cell; have la := HQ.out.2.1.lt
   have cb := HQ.out.1.cell; have lb := HQ.out.1.lt
   go_wp2_with fail
   refine (HOf.out _).mono ?_
   rintro e w5 ⟨rfl, hb⟩
   obtain ⟨wD, hwD⟩ : ∃ x, x = w5.alloc (.cells #[.int .i64 (k : Nat), .int .i64 r.1, .int .i64 r.2.1, .int .i64 r.2.2] 23) := ⟨_, rfl⟩
   obtain ⟨g7, hg7⟩ : ∃ x, x = w5.heap.size := ⟨_, rfl⟩
   have HD9 : Hid (Blk wD g7 #[.int .i64 (k : Nat), .int .i64 r.1, .int .i64 r.2.1, .int .i64 r.2.2] 23 ∧ Blk wD (w.heap.size + 1 + 1) #[.int .i64 0, .int .i64 0, .int .i64 0, .int .i64 0] 23 ∧ Below w.heap.size w wD ∧ w.heap.size + 1 + 1 < g7) := Lib.hid (by
    rw [hwD, hg7]
    exact ⟨Blk.new _ _ _, (HQ.out.2.2.2.2.1.grow hb).alloc _, bel_alloc (bel_trans HQ.out.2.2.2.2.2 hb) _, (HQ.out.2.2.2.2.1.grow hb).lt⟩)
   go_upto_region 10 with fail
   rw [← hwD, ← hg7]
   clear hwD hg7 hb HQ ca la cb lb
   have c7 := HD9.out.1.cell; have l7 := HD9.out.1.lt
   go_wp2_with fail
   clear c7 l7
   refine (HK.out _).mono ?_
   rintro e w6 ⟨rfl, hb⟩
   have HD := Lib.hid (And.intro (HD9.out.1.grow hb) (And.intro (HD9.out.2.1.grow hb) (And.intro (bel_trans HD9.out.2.2.1 hb) HD9.out.2.2.2)))
   clear hb HD9
   have k2 := HD.out.2.1
   have ho := HD.out.2.2.2
   have c7 := (HD.out.1.rowO (g := w.heap.size + 1 + 1) #[.int .i64 0, .int .i64 0, .int .i64 0, .int .i64 0] (by omega)).cell; have l7 := HD.out.1.lt
   have r2 := k2.row; have l2 := k2.lt
   cases q
   ·have cF := (k2.rowS #[.int .i64 0, .int .i64 0, .int .i64 0, .int .i64 0]).cell
    have hb5 := bel_row HD.out.2.2.1 (g := w.heap.size + 1 + 1) (by omega) #[.int .i64 0, .int .i64 0, .int .i64 0, .int .i64 0]
    rw [← k2.rw]
    clear k2 ho
    go_wp2_with fail
    exact bodyPost_ret (v := .tuple #[motV 0 (0, 0, 0), .int .i64 20]) (by simp [results, Tryz.results21, go_sem, cF]) rfl ⟨rfl, hb5⟩
   ·have cF := (k2.rowS #[.int .i64 (k : Nat), .int .i64 r.1, .int .i64 r.2.1, .int .i64 r.2.2]).cell
    have hb5 := bel_row HD.out.2.2.1 (g := w.heap.size + 1 + 1) (by omega) #[.int .i64 (k : Nat), .int .i64 r.1, .int .i64 r.2.1, .int .i64 r.2.2]
    rw [← k2.rw]
    clear k2 ho
    go_wp2_with fail
    exact bodyPost_ret (v := .tuple #[motV (k : Nat) r, .int .i64 0]) (by simp [results, Tryz.results21, go_sem, cF]) rfl ⟨rfl, hb5⟩
set_option maxHeartbeats 8000000 in
theorem refThen_n (m n : Go.Solid.Mo) (w : World) : Calls Tryz.prog 21 #[motV m.1 m.2, motV n.1 n.2] w fun e w' => e = .returned (.tuple #[motV (thenM m n).1.1 (thenM m n).1.2, .int .i64 (thenM m n).2]) ∧ Below w.heap.size w w' := by
 obtain ⟨tt, d⟩ := m
 obtain ⟨uu, f⟩ := n
 cases hr : rightB tt d with
 | true =>
  have hrr := (rightB_iff.1 hr).1
  obtain ⟨t, rfl⟩ : ∃ t : Nat, tt = t := ⟨tt.toNat, by omega⟩
  cases hs : rightB uu f with
  | true =>
   have hss := (rightB_iff.1 hs).1
   obtain ⟨u, rfl⟩ : ∃ t : Nat, uu = t := ⟨uu.toNat, by omega⟩
   have hM : thenM ((t : Int), d) ((u : Int), f) = if rightB ((mulT t u : Nat) : Int) (addC (movT u d) f) then ((((mulT t u : Nat) : Int), addC (movT u d) f), 0) else ((0, (0, 0, 0)), 20) := by
    unfold thenM
    rw [if_pos (by simp [hr, hs])]
    simp
   rw [hM]
   have h := refThen_yes t u d f hr hs w
   revert h
   cases rightB ((mulT t u : Nat) : Int) (addC (movT u d) f) <;> exact fun h => h
  | false =>
   have hM : thenM ((t : Int), d) (uu, f) = ((0, (0, 0, 0)), 1) := by
    unfold thenM
    rw [if_neg (by simp [hs])]
   rw [hM]
   have HM := Lib.hid fun W => refMotion_spec (t : Nat) d W
   have HN := Lib.hid fun W => refMotion_spec uu f W
   rw [hr] at HM
   rw [hs] at HN
   clear hM hr hs hrr
   go_enter Tryz.func21, Tryz.ntmps21
   go_wp2_with fail
   obtain ⟨W0, hW0⟩ : ∃ W0, W0 = ((w.alloc (.cells #[.int .i64 (t : Nat), .int .i64 d.1, .int .i64 d.2.1, .int .i64 d.2.2] 23)).alloc (.cells #[.int .i64 uu, .int .i64 f.1, .int .i64 f.2.1, .int .i64 f.2.2] 23)).alloc (.cells #[.int .i64 0, .int .i64 0, .int .i64 0, .int .i64 0] 23) := ⟨_, rfl⟩
   have b0 : Blk W0 (w.heap.size) #[.int .i64 (t : Nat), .int .i64 d.1, .int .i64 d.2.1, .int .i64 d.2.2] 23 ∧ Blk W0 (w.heap.size + 1) #[.int .i64 uu, .int .i64 f.1, .int .i64 f.2.1, .int .i64 f.2.2] 23 ∧ Blk W0 (w.heap.size + 1 + 1) #[.int .i64 0, .int .i64 0, .int .i64 0, .int .i64 0] 23 ∧ Below w.heap.size w W0 := by
    rw [hW0]
    exact ⟨(by repeat (first | with_reducible assumption | (refine Blk.at _ _ ?_; (simp; done)) | with_reducible refine Blk.alloc ?_ _ | with_reducible refine Blk.drew ?_ | with_reducible refine Blk.rowS ?_ _ | with_reducible refine Blk.rowO ?_ _ (by simp))), (by repeat (first | with_reducible assumption | (refine Blk.at _ _ ?_; (simp; done)) | with_reducible refine Blk.alloc ?_ _ | with_reducible refine Blk.drew ?_ | with_reducible refine Blk.rowS ?_ _ | with_reducible refine Blk.rowO ?_ _ (by simp))), Blk.at _ _ (by simp), (by repeat (first | with_reducible exact bel_refl _ | with_reducible assumption | with_reducible refine bel_drewN ?_ _ | with_reducible refine bel_drew ?_ | with_reducible refine bel_alloc ?_ _ | with_reducible refine bel_row ?_ ?_ _ | with_reducible refine bel_set ?_ ?_ _ | refine bel_trans ?_ (by with_reducible assumption) | (simp; done) | (simp; omega)))⟩
   rw [← hW0]
   clear hW0
   have HB0 := Lib.hid b0
   clear b0
   refine (HM.out _).mono ?_
   rintro e w1 ⟨rfl, hb⟩
   have HB1 := Lib.hid (And.intro (HB0.out.1.grow hb) (And.intro (HB0.out.2.1.grow hb) (And.intro (HB0.out.2.2.1.grow hb) (bel_trans HB0.out.2.2.2 hb))))
   clear hb HB0
   have cx := HB1.out.2.1.cell; have lx := HB1.out.2.1.lt
   go_wp2_with fail
   clear cx lx
   refine (HN.out _).mono ?_
   rintro e w2 ⟨rfl, hb⟩
   have HB2 := Lib.hid (And.intro (HB1.out.1.grow hb) (And.intro (HB1.out.2.1.grow hb) (And.intro (HB1.out.2.2.1.grow hb) (bel_trans HB1.out.2.2.2 hb))))
   clear hb HB1
   have k2 := HB2.out.2.2.1
   have r2 := k2.row; have l2 := k2.lt
   have cF := (k2.rowS #[.int .i64 0, .int .i64 0, .int .i64 0, .int .i64 0]).cell
   have hb5 := bel_row HB2.out.2.2.2 (g := w.heap.size + 1 + 1) (by omega) #[.int .i64 0, .int .i64 0, .int .i64 0, .int .i64 0]
   rw [← k2.rw]
   clear k2
   go_wp2_with fail
   exact bodyPost_ret (v := .tuple #[motV 0 (0, 0, 0), .int .i64 1]) (by simp [results, Tryz.results21, go_sem, cF]) rfl ⟨rfl, hb5⟩
 | false =>
  have hM : thenM (tt, d) (uu, f) = ((0, (0, 0, 0)), 1) := by
   unfold thenM
   rw [if_neg (by simp [hr])]
  rw [hM]
  have HM := Lib.hid fun W => refMotion_spec tt d W
  rw [hr] at HM
  clear hM hr
  go_enter Tryz.func21, Tryz.ntmps21
  go_wp2_with fail
  obtain ⟨W0, hW0⟩ : ∃ W0, W0 = ((w.alloc (.cells #[.int .i64 tt, .int .i64 d.1, .int .i64 d.2.1, .int .i64 d.2.2] 23)).alloc (.cells #[.int .i64 uu, .int .i64 f.1, .int .i64 f.2.1, .int .i64 f.2.2] 23)).alloc (.cells #[.int .i64 0, .int .i64 0, .int .i64 0, .int .i64 0] 23) := ⟨_, rfl⟩
  have b0 : Blk W0 (w.heap.size) #[.int .i64 tt, .int .i64 d.1, .int .i64 d.2.1, .int .i64 d.2.2] 23 ∧ Blk W0 (w.heap.size + 1) #[.int .i64 uu, .int .i64 f.1, .int .i64 f.2.1, .int .i64 f.2.2] 23 ∧ Blk W0 (w.heap.size + 1 + 1) #[.int .i64 0, .int .i64 0, .int .i64 0, .int .i64 0] 23 ∧ Below w.heap.size w W0 := by
   rw [hW0]
   exact ⟨(by repeat (first | with_reducible assumption | (refine Blk.at _ _ ?_; (simp; done)) | with_reducible refine Blk.alloc ?_ _ | with_reducible refine Blk.drew ?_ | with_reducible refine Blk.rowS ?_ _ | with_reducible refine Blk.rowO ?_ _ (by simp))), (by repeat (first | with_reducible assumption | (refine Blk.at _ _ ?_; (simp; done)) | with_reducible refine Blk.alloc ?_ _ | with_reducible refine Blk.drew ?_ | with_reducible refine Blk.rowS ?_ _ | with_reducible refine Blk.rowO ?_ _ (by simp))), Blk.at _ _ (by simp), (by repeat (first | with_reducible exact bel_refl _ | with_reducible assumption | with_reducible refine bel_drewN ?_ _ | with_reducible refine bel_drew ?_ | with_reducible refine bel_alloc ?_ _ | with_reducible refine bel_row ?_ ?_ _ | with_reducible refine bel_set ?_ ?_ _ | refine bel_trans ?_ (by with_reducible assumption) | (simp; done) | (simp; omega)))⟩
  rw [← hW0]
  clear hW0
  have HB0 := Lib.hid b0
  clear b0
  refine (HM.out _).mono ?_
  rintro e w1 ⟨rfl, hb⟩
  have HB1 := Lib.hid (And.intro (HB0.out.1.grow hb) (And.intro (HB0.out.2.1.grow hb) (And.intro (HB0.out.2.2.1.grow hb) (bel_trans HB0.out.2.2.2 hb))))
  clear hb HB0
  have k2 := HB1.out.2.2.1
  have r2 := k2.row; have l2 := k2.lt
  have cF := (k2.rowS #[.int .i64 0, .int .i64 0, .int .i64 0, .int .i64 0]).cell
  have hb5 := bel_row HB1.out.2.2.2 (g := w.heap.size + 1 + 1) (by omega) #[.int .i64 0, .int .i64 0, .int .i64 0, .int .i64 0]
  rw [← k2.rw]
  clear k2
  go_wp2_with fail
  exact bodyPost_ret (v := .tuple #[motV 0 (0, 0, 0), .int .i64 1]) (by simp [results, Tryz.results21, go_sem, cF]) rfl ⟨rfl, hb5⟩
end Go.Proofs.YtkfimbonmnoglaaGreatDoor
end
