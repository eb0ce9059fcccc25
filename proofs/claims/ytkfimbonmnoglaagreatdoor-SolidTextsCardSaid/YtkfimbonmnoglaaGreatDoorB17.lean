import Derived.Test.YtkfimbonmnoglaaGreatDoorB16
import Derived.Deep.Cut
/-
  Given contracts of functions of the program, and laws for them, one behind the other.
-/
set_option linter.unusedVariables false
set_option linter.unusedSimpArgs false
set_option linter.unusedSectionVars false
section
namespace Go.Proofs.YtkfimbonmnoglaaGreatDoor
open Go.RowKit Go.Rel Go.Draw Go.Solid
set_option maxRecDepth 100000
abbrev zeroM : Value := .agg #[.int .i64 0, .int .i64 0, .int .i64 0, .int .i64 0]
theorem right_is {t : Int} {d : Cl} {r : Bool} (h : rightB t d = r) (W : World) : Calls Tryz.prog 88 #[motV t d] W fun e w' => e = .returned (.bool r) ∧ Below W.heap.size W w' := by
 rw [← h]; exact right_n t d W
set_option maxHeartbeats 4000000 in
theorem then_no {t x y z u x2 y2 z2 : Int} (h : (rightB t (x, y, z) && rightB u (x2, y2, z2)) = false) (w : World) : Calls Tryz.prog 20 #[motV t (x, y, z), motV u (x2, y2, z2)] w fun e w' => e = .returned (.tuple #[zeroM, .int .i64 1]) ∧ Below w.heap.size w w' := by
 by_cases h1 : rightB t (x, y, z) = true
 ·have h2 : rightB u (x2, y2, z2) = false := by rw [h1] at h; exact h
  have H1 := Lib.hid fun W => right_is h1 W
  have H2 := Lib.hid fun W => right_is h2 W
  clear h h1 h2
  go_enter Tryz.func20, Tryz.ntmps20
  go_wp2_with fail
  refine (H1.out _).mono ?_
  rintro e w1 ⟨rfl, hb1⟩
  have hbw : Below w.heap.size w w1 := bel_trans (by repeat (first | with_reducible exact bel_refl _ | with_reducible assumption | with_reducible refine bel_drewN ?_ _ | with_reducible refine bel_drew ?_ | with_reducible refine bel_alloc ?_ _ | with_reducible refine bel_row ?_ ?_ _ | with_reducible refine bel_set ?_ ?_ _ | refine bel_trans ?_ (by with_reducible assumption) | (simp; done) | (simp; omega))) hb1
  have B1 : Blk w1 (w.heap.size + 1) #[.int .i64 (u), .int .i64 x2, .int .i64 y2, .int .i64 z2] 23 := Blk.grow (by repeat (first | with_reducible assumption | (refine Blk.at _ _ ?_; (simp; done)) | with_reducible refine Blk.alloc ?_ _ | with_reducible refine Blk.drew ?_ | with_reducible refine Blk.rowS ?_ _ | with_reducible refine Blk.rowO ?_ _ (by simp))) hb1
  have B2 : Blk w1 (w.heap.size + 1 + 1) #[.int .i64 0, .int .i64 0, .int .i64 0, .int .i64 0] 23 := Blk.grow (by repeat (first | with_reducible assumption | (refine Blk.at _ _ ?_; (simp; done)) | with_reducible refine Blk.alloc ?_ _ | with_reducible refine Blk.drew ?_ | with_reducible refine Blk.rowS ?_ _ | with_reducible refine Blk.rowO ?_ _ (by simp))) hb1
  have c1 := B1.cell; have l1 := B1.lt
  have HB := Lib.hid (And.intro hbw B2)
  clear B1 B2 hbw hb1
  go_wp2_with fail
  refine (H2.out _).mono ?_
  rintro e w2 ⟨rfl, hb2⟩
  have hbw := bel_trans HB.out.1 hb2
  have B2 := HB.out.2.grow hb2
  have r2 := B2.row; have l2 := B2.lt
  have cF := (B2.rowS #[.int .i64 0, .int .i64 0, .int .i64 0, .int .i64 0]).cell
  have hb5 := bel_row hbw (g := w.heap.size + 1 + 1) (by omega) #[.int .i64 0, .int .i64 0, .int .i64 0, .int .i64 0]
  rw [← B2.rw]
  clear B2 hb2 hbw c1 l1
  go_wp2_with fail
  exact bodyPost_ret (v := .tuple #[zeroM, .int .i64 1]) (by simp [results, Tryz.results20, go_sem, cF]) rfl ⟨rfl, hb5⟩
 ·have H1 := Lib.hid fun W => right_is (Bool.eq_false_iff.2 h1) W
  clear h h1
  go_enter Tryz.func20, Tryz.ntmps20
  go_wp2_with fail
  refine (H1.out _).mono ?_
  rintro e w1 ⟨rfl, hb1⟩
  have hbw : Below w.heap.size w w1 := bel_trans (by repeat (first | with_reducible exact bel_refl _ | with_reducible assumption | with_reducible refine bel_drewN ?_ _ | with_reducible refine bel_drew ?_ | with_reducible refine bel_alloc ?_ _ | with_reducible refine bel_row ?_ ?_ _ | with_reducible refine bel_set ?_ ?_ _ | refine bel_trans ?_ (by with_reducible assumption) | (simp; done) | (simp; omega))) hb1
  have B2 : Blk w1 (w.heap.size + 1 + 1) #[.int .i64 0, .int .i64 0, .int .i64 0, .int .i64 0] 23 := Blk.grow (by repeat (first | with_reducible assumption | (refine Blk.at _ _ ?_; (simp; done)) | with_reducible refine Blk.alloc ?_ _ | with_reducible refine Blk.drew ?_ | with_reducible refine Blk.rowS ?_ _ | with_reducible refine Blk.rowO ?_ _ (by simp))) hb1
  have r2 := B2.row; have l2 := B2.lt
  have cF := (B2.rowS #[.int .i64 0, .int .i64 0, .int .i64 0, .int .i64 0]).cell
  have hb5 := bel_row hbw (g := w.heap.size + 1 + 1) (by omega) #[.int .i64 0, .int .i64 0, .int .i64 0, .int .i64 0]
  rw [← B2.rw]
  clear B2 hb1 hbw
  go_wp2_with fail
  exact bodyPost_ret (v := .tuple #[zeroM, .int .i64 1]) (by simp [results, Tryz.results20, go_sem, cF]) rfl ⟨rfl, hb5⟩
attribute [local irreducible] turnC mulT movT rightB
set_option maxHeartbeats 8000000 in
theorem then_yes {t u : Nat} {x y z x2 y2 z2 : Int} (h1 : rightB (t : Int) (x, y, z) = true) (h2 : rightB (u : Int) (x2, y2, z2) = true) (w : World) : Calls Tryz.prog 20 #[motV (t : Int) (x, y, z), motV (u : Int) (x2, y2, z2)] w fun e w' =>
  e = .returned (if rightB ((mulT t u : Nat) : Int) (addC (movT u (x, y, z)) (x2, y2, z2)) then .tuple #[motV ((mulT t u : Nat) : Int) (addC (movT u (x, y, z)) (x2, y2, z2)), .int .i64 0] else .tuple #[zeroM, .int .i64 20]) ∧ Below w.heap.size w w' := by
 have H1 := Lib.hid fun W => right_is h1 W
 have H2 := Lib.hid fun W => right_is h2 W
 obtain ⟨ht, hd⟩ := rightB_iff.1 h1
 obtain ⟨hu, hd2⟩ := rightB_iff.1 h2
 have ht' : t < 24 := by omega
 have hu' : u < 24 := by omega
 have HO := Lib.hid fun W => origin_spec hu' hd W
 have HFo := Lib.hid fun W bm bn (a : Blk W bm #[.int .i64 ((t : Int)), .int .i64 x, .int .i64 y, .int .i64 z] 23) (b : Blk W bn #[.int .i64 ((u : Int)), .int .i64 x2, .int .i64 y2, .int .i64 z2] 23) => found_spec ht' hu' W a b
 have hmd := shortB_iff.1 (movT_short u hd)
 have hnd := shortB_iff.1 hd2
 obtain ⟨P, hP⟩ : ∃ P, P = movT u (x, y, z) := ⟨_, rfl⟩
 obtain ⟨K, hK⟩ : ∃ K, K = mulT t u := ⟨_, rfl⟩
 rw [← hP] at HO hmd
 rw [← hK] at HFo
 rw [← hP, ← hK]
 obtain ⟨p, q, r⟩ := P
 have a0 : -7 ≤ p ∧ p ≤ 7 := hmd 0
 have a1 : -7 ≤ q ∧ q ≤ 7 := hmd 1
 have a2 : -7 ≤ r ∧ r ≤ 7 := hmd 2
 have b0 : -7 ≤ x2 ∧ x2 ≤ 7 := hnd 0
 have b1 : -7 ≤ y2 ∧ y2 ≤ 7 := hnd 1
 have b2 : -7 ≤ z2 ∧ z2 ≤ 7 := hnd 2
 have HR := Lib.hid fun W => right_n (K : Int) (p + x2, q + y2, r + z2) W
 obtain ⟨rb, hrb⟩ : ∃ rb, rb = rightB (K : Int) (p + x2, q + y2, r + z2) := ⟨_, rfl⟩
 obtain ⟨RV, hRV⟩ : ∃ RV : Value, RV = (if rightB (K : Int) (addC (p, q, r) (x2, y2, z2)) then .tuple #[motV (K : Int) (addC (p, q, r) (x2, y2, z2)), .int .i64 0] else .tuple #[zeroM, .int .i64 20]) := ⟨_, rfl⟩
 rw [← hRV]
 have HRV : Hid (RV = if rb then .tuple #[.agg #[.int .i64 ((K : Int)), .int .i64 (p + x2), .int .i64 (q + y2), .int .i64 (r + z2)], .int .i64 0] else .tuple #[zeroM, .int .i64 20]) := Lib.hid (by rw [hRV, hrb]; rfl)
 rw [← hrb] at HR
 clear hRV hrb hP hK hmd hnd h1 h2 hd hd2 ht hu
 go_enter Tryz.func20, Tryz.ntmps20
 go_wp2_with fail
 refine (H1.out _).mono ?_
 rintro e w1 ⟨rfl, hb1⟩
 have hbw : Below w.heap.size w w1 := bel_trans (by repeat (first | with_reducible exact bel_refl _ | with_reducible assumption | with_reducible refine bel_drewN ?_ _ | with_reducible refine bel_drew ?_ | with_reducible refine bel_alloc ?_ _ | with_reducible refine bel_row ?_ ?_ _ | with_reducible refine bel_set ?_ ?_ _ | refine bel_trans ?_ (by with_reducible assumption) | (simp; done) | (simp; omega))) hb1
 have B0 : Blk w1 w.heap.size #[.int .i64 ((t : Int)), .int .i64 x, .int .i64 y, .int .i64 z] 23 := Blk.grow (by repeat (first | with_reducible assumption | (refine Blk.at _ _ ?_; (simp; done)) | with_reducible refine Blk.alloc ?_ _ | with_reducible refine Blk.drew ?_ | with_reducible refine Blk.rowS ?_ _ | with_reducible refine Blk.rowO ?_ _ (by simp))) hb1
 have B1 : Blk w1 (w.heap.size + 1) #[.int .i64 ((u : Int)), .int .i64 x2, .int .i64 y2, .int .i64 z2] 23 := Blk.grow (by repeat (first | with_reducible assumption | (refine Blk.at _ _ ?_; (simp; done)) | with_reducible refine Blk.alloc ?_ _ | with_reducible refine Blk.drew ?_ | with_reducible refine Blk.rowS ?_ _ | with_reducible refine Blk.rowO ?_ _ (by simp))) hb1
 have B2 : Blk w1 (w.heap.size + 1 + 1) #[.int .i64 0, .int .i64 0, .int .i64 0, .int .i64 0] 23 := Blk.grow (by repeat (first | with_reducible assumption | (refine Blk.at _ _ ?_; (simp; done)) | with_reducible refine Blk.alloc ?_ _ | with_reducible refine Blk.drew ?_ | with_reducible refine Blk.rowS ?_ _ | with_reducible refine Blk.rowO ?_ _ (by simp))) hb1
 have c1 := B1.cell; have l1 := B1.lt
 have HB := Lib.hid (And.intro hbw (And.intro B0 (And.intro B1 B2)))
 clear B0 B1 B2 hbw hb1
 go_wp2_with fail
 refine (H2.out _).mono ?_
 rintro e w2 ⟨rfl, hb2⟩
 have HB2 := Lib.hid (And.intro (bel_trans HB.out.1 hb2) (And.intro (HB.out.2.1.grow hb2) (And.intro (HB.out.2.2.1.grow hb2) (HB.out.2.2.2.grow hb2))))
 clear hb2 c1 l1
 have c0 := HB2.out.2.1.cell; have l0 := HB2.out.2.1.lt; have c1 := HB2.out.2.2.1.cell; have l1 := HB2.out.2.2.1.lt
 go_wp2_with fail
 refine (HO.out _).mono ?_
 rintro e w3 ⟨rfl, hb3⟩
 have HB3 := Lib.hid (And.intro (bel_trans HB2.out.1 hb3) (And.intro (HB2.out.2.1.grow hb3) (And.intro (HB2.out.2.2.1.grow hb3) (HB2.out.2.2.2.grow hb3))))
 clear hb3 c0 l0 c1 l1
 have c1 := HB3.out.2.2.1.cell; have l1 := HB3.out.2.2.1.lt; have l0 := HB3.out.2.1.lt
 have hq1 : IntKind.i64.wrap (p + x2) = p + x2 := IntWalk.i64_in _ ⟨by omega, by omega⟩
 have hq2 : IntKind.i64.wrap (q + y2) = q + y2 := IntWalk.i64_in _ ⟨by omega, by omega⟩
 have hq3 : IntKind.i64.wrap (r + z2) = r + z2 := IntWalk.i64_in _ ⟨by omega, by omega⟩
 have hmf' := hmf
 go_wp2_with fail
 refine wp_region_grow 16 [Is (.func (.func 91) #[] #[.pointer (some ⟨w.heap.size, 0, none⟩), .pointer (some ⟨w.heap.size + 1, 0, none⟩)]), Is (.int .i64 (K : Int)), Is (.int .i64 p), Is (.pointer (some ⟨w.heap.size + 1, 1, none⟩)), Is (.int .i64 x2), Is (.int .i64 (p + x2)), Is (.int .i64 q), Is (.pointer (some ⟨w.heap.size + 1, 2, none⟩)), Is (.int .i64 y2), Is (.int .i64 (q + y2)), Is (.int .i64 r), Is (.pointer (some ⟨w.heap.size + 1, 3, none⟩)), Is (.int .i64 z2), Is (.int .i64 (r + z2)), Is (.agg #[.int .i64 ((K : Int)), .int .i64 (p + x2), .int .i64 (q + y2), .int .i64 (r + z2)]), (fun v W => ∃ b, v = .pointer (some ⟨b, 0, none⟩) ∧ w3.heap.size ≤ b ∧ Blk W b #[.int .i64 0, .int .i64 0, .int .i64 0, .int .i64 0] 23)] (by kernel_rfl) (by kernel_rfl) rfl ⟨fun _ _ _ h _ => h, fun _ _ _ h _ => h, fun _ _ _ h _ => h, fun _ _ _ h _ => h, fun _ _ _ h _ => h, fun _ _ _ h _ => h, fun _ _ _ h _ => h, fun _ _ _ h _ => h, fun _ _ _ h _ => h, fun _ _ _ h _ => h, fun _ _ _ h _ => h, fun _ _ _ h _ => h, fun _ _ _ h _ => h, fun _ _ _ h _ => h, fun _ _ _ h _ => h, (fun _ _ _ h g => by obtain ⟨b, e1, e2, e3⟩ := h; exact ⟨b, e1, e2, e3.grow g⟩), trivial⟩ ?_
 simp only [List.take_succ_cons, List.take_zero, List.drop_succ_cons, List.drop_zero]
 refine rel_cons ?_ (fun v0 => ?_)
 ·intro w1 hb hF; have hc := (Grows.cells hb).1; have hf := (Grows.cells hb).2; try simp [facts, Is] at hF
  go_simp
  exact Grows.refl _
 refine rel_cons ?_ (fun v1 => ?_)
 ·intro w1 hb hF; have hc := (Grows.cells hb).1; have hf := (Grows.cells hb).2; try simp [facts, Is] at hF
  have hb0 : Below w3.heap.size w3 w1 := hb
  go_simp
  refine (HFo.out _ _ _ (HB3.out.2.1.grow hb0) (HB3.out.2.2.1.grow hb0)).mono ?_
  rintro e w5 ⟨rfl, hb5⟩
  exact ⟨rfl, hb5⟩
 iterate 13 (refine rel_cons ?_ (fun _ => ?_); · intro w1 hb hF; have hc := (Grows.cells hb).1; have hf := (Grows.cells hb).2; (try simp [facts, Is] at hF); go_simp; exact Grows.refl _)
 refine rel_cons ?_ (fun v15 => ?_)
 ·intro w1 hb hF; have hc := (Grows.cells hb).1; have hf := (Grows.cells hb).2; try simp [facts, Is] at hF
  have hb0 : Below w3.heap.size w3 w1 := hb
  have hs0 := hb0.size
  go_simp
  exact ⟨bel_alloc (bel_refl _) _, Blk.new _ _ _⟩
 refine rel_nil ?_
 intro w1 hb hF
 simp [Is, Nat.forall_lt_succ_right] at hF
 have e0 := hF.1.1.1.1.1.1.1.1.1.1.1.1.1.1.1
 have e1 := hF.1.1.1.1.1.1.1.1.1.1.1.1.1.1.2
 have e2 := hF.1.1.1.1.1.1.1.1.1.1.1.1.1.2
 have e3 := hF.1.1.1.1.1.1.1.1.1.1.1.1.2
 have e4 := hF.1.1.1.1.1.1.1.1.1.1.1.2
 have e5 := hF.1.1.1.1.1.1.1.1.1.1.2
 have e6 := hF.1.1.1.1.1.1.1.1.1.2
 have e7 := hF.1.1.1.1.1.1.1.1.2
 have e8 := hF.1.1.1.1.1.1.1.2
 have e9 := hF.1.1.1.1.1.1.2
 have e10 := hF.1.1.1.1.1.2
 have e11 := hF.1.1.1.1.2
 have e12 := hF.1.1.1.2
 have e13 := hF.1.1.2
 have e14 := hF.1.2
 have e15 := hF.2
 clear hF
 simp only [Act.put, List.setIfInBounds_toArray, List.set_cons_succ, List.set_cons_zero, e0, e1, e2, e3, e4, e5, e6, e7, e8, e9, e10, e11, e12, e13, e14]
 clear e0 e1 e2 e3 e4 e5 e6 e7 e8 e9 e10 e11 e12 e13 e14
 have hb0 : Below w3.heap.size w3 w1 := hb
 refine Veil.out ?_
 obtain ⟨b9, rfl, hb9, B9⟩ := e15
 refine Veil.on ?_
 have HB4 := Lib.hid (And.intro (bel_trans HB3.out.1 hb0) (And.intro (HB3.out.2.2.2.grow hb0) B9))
 have hsz3 := HB3.out.1.size
 have hl2 := HB3.out.2.2.2.lt
 have r9 := B9.row; have l9 := B9.lt
 rw [← B9.rw]
 clear hb hb0 c1 B9
 go_wp2_with fail
 have hbr := bel_row HB4.out.1 (g := b9) (by omega) #[.int .i64 ((K : Int)), .int .i64 (p + x2), .int .i64 (q + y2), .int .i64 (r + z2)]
 refine (HR.out _).mono ?_
 rintro e w6 ⟨rfl, hb6⟩
 have hbw := bel_trans hbr hb6
 have B2 : Blk w6 (w.heap.size + 1 + 1) #[.int .i64 0, .int .i64 0, .int .i64 0, .int .i64 0] 23 := (HB4.out.2.1.rowO (g := b9) #[.int .i64 ((K : Int)), .int .i64 (p + x2), .int .i64 (q + y2), .int .i64 (r + z2)] (by omega)).grow hb6
 have B9 : Blk w6 b9 #[.int .i64 ((K : Int)), .int .i64 (p + x2), .int .i64 (q + y2), .int .i64 (r + z2)] 23 := (HB4.out.2.2.rowS #[.int .i64 ((K : Int)), .int .i64 (p + x2), .int .i64 (q + y2), .int .i64 (r + z2)]).grow hb6
 have r2 := B2.row; have l2 := B2.lt
 have hne : b9 ≠ w.heap.size + 1 + 1 := by omega
 clear hb6 hbr r9 l9
 cases rb with
 | false =>
  have cF := (B2.rowS #[.int .i64 0, .int .i64 0, .int .i64 0, .int .i64 0]).cell
  have hb5 := bel_row hbw (g := w.heap.size + 1 + 1) (by omega) #[.int .i64 0, .int .i64 0, .int .i64 0, .int .i64 0]
  rw [← B2.rw]
  clear B2 B9 hbw
  go_wp2_with fail
  exact bodyPost_ret (v := .tuple #[zeroM, .int .i64 20]) (by simp [results, Tryz.results20, go_sem, cF]) rfl ⟨by rw [HRV.out]; rfl, hb5⟩
 | true =>
  have cF := (B2.rowS #[.int .i64 ((K : Int)), .int .i64 (p + x2), .int .i64 (q + y2), .int .i64 (r + z2)]).cell
  have hb5 := bel_row hbw (g := w.heap.size + 1 + 1) (by omega) #[.int .i64 ((K : Int)), .int .i64 (p + x2), .int .i64 (q + y2), .int .i64 (r + z2)]
  have c9 := (B9.rowO (g := w.heap.size + 1 + 1) #[.int .i64 0, .int .i64 0, .int .i64 0, .int .i64 0] hne).cell
  have l9 := B9.lt
  rw [← B2.rw]
  clear B2 B9 hbw
  go_wp2_with fail
  exact bodyPost_ret (v := .tuple #[.agg #[.int .i64 ((K : Int)), .int .i64 (p + x2), .int .i64 (q + y2), .int .i64 (r + z2)], .int .i64 0]) (by simp [results, Tryz.results20, go_sem, cF]) rfl ⟨by rw [HRV.out]; rfl, hb5⟩
theorem then_n (m n : Go.Solid.Mo) (w : World) : Calls Tryz.prog 20 #[motV m.1 m.2, motV n.1 n.2] w fun e w' => e = .returned (.tuple #[motV (thenM m n).1.1 (thenM m n).1.2, .int .i64 (thenM m n).2]) ∧ Below w.heap.size w w' := by
 obtain ⟨t, x, y, z⟩ := m
 obtain ⟨u, x2, y2, z2⟩ := n
 unfold thenM
 simp only
 by_cases h : (rightB t (x, y, z) && rightB u (x2, y2, z2)) = true
 ·rw [if_pos h]
  rw [Bool.and_eq_true] at h
  have ht := (rightB_iff.1 h.1).1
  have hu := (rightB_iff.1 h.2).1
  obtain ⟨T, rfl⟩ : ∃ T : Nat, t = T := ⟨t.toNat, by omega⟩
  obtain ⟨U, rfl⟩ : ∃ T : Nat, u = T := ⟨u.toNat, by omega⟩
  simp only [Int.toNat_natCast]
  refine (then_yes h.1 h.2 w).mono ?_
  rintro e w' ⟨rfl, hb⟩
  refine ⟨?_, hb⟩
  split <;> rfl
 ·rw [if_neg h]
  exact then_no (Bool.eq_false_iff.2 h) w
end Go.Proofs.YtkfimbonmnoglaaGreatDoor
end
section
namespace Go.Proofs.YtkfimbonmnoglaaGreatDoor
open Go.RowKit Go.Rel Go.Draw Go.Solid
set_option maxRecDepth 100000
set_option maxHeartbeats 4000000 in
theorem back_no {t x y z : Int} (h : rightB t (x, y, z) = false) (w : World) : Calls Tryz.prog 22 #[motV t (x, y, z)] w fun e w' => e = .returned (.tuple #[zeroM, .int .i64 1]) ∧ Below w.heap.size w w' := by
 have H1 := Lib.hid fun W => right_is h W
 clear h
 go_enter Tryz.func22, Tryz.ntmps22
 go_wp2_with fail
 refine (H1.out _).mono ?_
 rintro e w1 ⟨rfl, hb1⟩
 have hbw : Below w.heap.size w w1 := bel_trans (by repeat (first | with_reducible exact bel_refl _ | with_reducible assumption | with_reducible refine bel_drewN ?_ _ | with_reducible refine bel_drew ?_ | with_reducible refine bel_alloc ?_ _ | with_reducible refine bel_row ?_ ?_ _ | with_reducible refine bel_set ?_ ?_ _ | refine bel_trans ?_ (by with_reducible assumption) | (simp; done) | (simp; omega))) hb1
 have B2 : Blk w1 (w.heap.size + 1) #[.int .i64 0, .int .i64 0, .int .i64 0, .int .i64 0] 23 := Blk.grow (by repeat (first | with_reducible assumption | (refine Blk.at _ _ ?_; (simp; done)) | with_reducible refine Blk.alloc ?_ _ | with_reducible refine Blk.drew ?_ | with_reducible refine Blk.rowS ?_ _ | with_reducible refine Blk.rowO ?_ _ (by simp))) hb1
 have r2 := B2.row; have l2 := B2.lt
 have cF := (B2.rowS #[.int .i64 0, .int .i64 0, .int .i64 0, .int .i64 0]).cell
 have hb5 := bel_row hbw (g := w.heap.size + 1) (by omega) #[.int .i64 0, .int .i64 0, .int .i64 0, .int .i64 0]
 rw [← B2.rw]
 clear B2 hb1 hbw
 go_wp2_with fail
 exact bodyPost_ret (v := .tuple #[zeroM, .int .i64 1]) (by simp [results, Tryz.results22, go_sem, cF]) rfl ⟨rfl, hb5⟩
attribute [local irreducible] turnC mulT movT rightB invT
set_option maxHeartbeats 8000000 in
theorem back_yes {t : Nat} {x y z : Int} (h1 : rightB (t : Int) (x, y, z) = true) (w : World) : Calls Tryz.prog 22 #[motV (t : Int) (x, y, z)] w fun e w' =>
  e = .returned (.tuple #[motV (invT t : Nat) (negC (movT (invT t) (x, y, z))), .int .i64 0]) ∧ Below w.heap.size w w' := by
 have H1 := Lib.hid fun W => right_is h1 W
 obtain ⟨ht, hd⟩ := rightB_iff.1 h1
 have ht' : t < 24 := by omega
 have hI := inv_lt ht'
 have HO := Lib.hid fun W => origin_spec hI hd W
 have hmd := shortB_iff.1 (movT_short (invT t) hd)
 have HQ := Lib.hid fun v (hv : v < 24) => back_prog ht' hv
 have hg : inG ((0, 1, 2) : Cl) = true := by decide
 have hg2 : inG (turnC t (0, 1, 2)) = true := by rw [Go.Solid.turn_in]; exact hg
 have HT1 := Lib.hid fun W => turned_spec hg ht' W
 have HT2 := Lib.hid fun v (hv : v < 24) W => turned_spec hg2 hv W
 obtain ⟨P, hP⟩ : ∃ P, P = movT (invT t) (x, y, z) := ⟨_, rfl⟩
 obtain ⟨K, hK⟩ : ∃ K, K = invT t := ⟨_, rfl⟩
 obtain ⟨D, hD⟩ : ∃ D, D = turnC t (0, 1, 2) := ⟨_, rfl⟩
 rw [← hP] at HO hmd
 rw [← hD] at HT1 HT2 HQ
 rw [← hK] at HO hI HQ
 rw [← hP, ← hK]
 obtain ⟨p, q, r⟩ := P
 have a0 : -7 ≤ p ∧ p ≤ 7 := hmd 0
 have a1 : -7 ≤ q ∧ q ≤ 7 := hmd 1
 have a2 : -7 ≤ r ∧ r ≤ 7 := hmd 2
 clear hP hK hD hmd h1 hd ht hg hg2
 go_enter Tryz.func22, Tryz.ntmps22
 go_wp2_with fail
 refine (H1.out _).mono ?_
 rintro e w1 ⟨rfl, hb1⟩
 have hbw : Below w.heap.size w w1 := bel_trans (by repeat (first | with_reducible exact bel_refl _ | with_reducible assumption | with_reducible refine bel_drewN ?_ _ | with_reducible refine bel_drew ?_ | with_reducible refine bel_alloc ?_ _ | with_reducible refine bel_row ?_ ?_ _ | with_reducible refine bel_set ?_ ?_ _ | refine bel_trans ?_ (by with_reducible assumption) | (simp; done) | (simp; omega))) hb1
 have B0 : Blk w1 w.heap.size #[.int .i64 ((t : Int)), .int .i64 x, .int .i64 y, .int .i64 z] 23 := Blk.grow (by repeat (first | with_reducible assumption | (refine Blk.at _ _ ?_; (simp; done)) | with_reducible refine Blk.alloc ?_ _ | with_reducible refine Blk.drew ?_ | with_reducible refine Blk.rowS ?_ _ | with_reducible refine Blk.rowO ?_ _ (by simp))) hb1
 have B1 : Blk w1 (w.heap.size + 1) #[.int .i64 0, .int .i64 0, .int .i64 0, .int .i64 0] 23 := Blk.grow (by repeat (first | with_reducible assumption | (refine Blk.at _ _ ?_; (simp; done)) | with_reducible refine Blk.alloc ?_ _ | with_reducible refine Blk.drew ?_ | with_reducible refine Blk.rowS ?_ _ | with_reducible refine Blk.rowO ?_ _ (by simp))) hb1
 have HB := Lib.hid (And.intro B0 (And.intro B1 hbw))
 clear B0 B1 hbw hb1
 go_wp2_with fail
 go_loopw [4, 14] (fun kv tv wx => ∃ v : Nat, v ≤ 24 ∧ tv = .int .i64 v ∧ kv = .int .i64 ((if K < v then K else 0 : Nat) : Int) ∧ Hid (Blk wx w.heap.size #[.int .i64 ((t : Int)), .int .i64 x, .int .i64 y, .int .i64 z] 23 ∧ Blk wx (w.heap.size + 1) #[.int .i64 0, .int .i64 0, .int .i64 0, .int .i64 0] 23 ∧ Below w.heap.size w wx)) (fun _ tv _ => 24 - (intOf tv).toNat)
 case atStart => exact ⟨0, by omega, rfl, by rw [if_neg (by omega)]; rfl, HB⟩
 case round =>
  clear HB
  obtain ⟨v, hv, rfl, rfl, HI⟩ := hrel
  by_cases hlt : v < 24
  ·have hd : decide ((v : Int) < 24) = true := decide_eq_true (by omega)
   have hq := HQ.out v hlt
   have HU := Lib.hid fun W => HT2.out v hlt W
   obtain ⟨E, hE⟩ : ∃ E, E = turnC v D := ⟨_, rfl⟩
   rw [← hE] at HU hq
   obtain ⟨wb, hwb⟩ : ∃ wb, wb = wr.alloc (.cells #[.int .i64 0, .int .i64 1, .int .i64 2] 60) := ⟨_, rfl⟩
   have HD : Hid (Blk wb w.heap.size #[.int .i64 ((t : Int)), .int .i64 x, .int .i64 y, .int .i64 z] 23 ∧ Blk wb (w.heap.size + 1) #[.int .i64 0, .int .i64 0, .int .i64 0, .int .i64 0] 23 ∧ Below w.heap.size w wb ∧ Blk wb wr.heap.size #[.int .i64 0, .int .i64 1, .int .i64 2] 60) := Lib.hid (by rw [hwb]; exact ⟨HI.out.1.alloc _, HI.out.2.1.alloc _, bel_alloc HI.out.2.2 _, Blk.new _ _ _⟩)
   have HWB := Lib.hid hwb
   have c0 := HD.out.1.cell; have l0 := HD.out.1.lt
   have cc := HD.out.2.2.2.cell; have lc := HD.out.2.2.2.lt
   have HQ2 := Lib.hid hq
   obtain ⟨b, hb'⟩ : ∃ b, b = (if K < v then K else 0 : Nat) := ⟨_, rfl⟩
   rw [← hb']
   have HBB := Lib.hid hb'
   clear hwb hE HI hq hb'
   go_upto_region 8 with fail
   rw [← HWB.out]
   refine wp_region_val Grows (fun _ _ _ => True) [Is (.agg #[.int .i64 0, .int .i64 1, .int .i64 2]), Is (.pointer (some ⟨w.heap.size, 0, none⟩)), Is (.int .i64 (t : Int)), Is (clV D), Is (.int .i64 (v : Int)), Is (clV E), Is (.agg #[.int .i64 0, .int .i64 1, .int .i64 2]), Is (.bool (v == K))] (by kernel_rfl) (by kernel_rfl) rfl Grows.refl (fun _ _ _ => Grows.trans) (stable_mem ⟨fun _ _ _ h _ => h, fun _ _ _ h _ => h, fun _ _ _ h _ => h, fun _ _ _ h _ => h, fun _ _ _ h _ => h, fun _ _ _ h _ => h, fun _ _ _ h _ => h, fun _ _ _ h _ => h, trivial⟩) wb (Below.drew (Below.refl _ _)) trivial ?_
   refine val_cons ?_ (fun v0 => ?_)
   ·intro L vs w1 hvs hat hb hI hF; try simp [factsI, Region.binds, Is] at hF
    have hc := (Grows.cells hb).1
    clear hI
    go_simp
    try simp [upd]
    try first | exact Grows.refl _ | exact trivial | exact ⟨Grows.refl _, trivial⟩
   refine val_cons ?_ (fun v1 => ?_)
   ·intro L vs w1 hvs hat hb hI hF; try simp [factsI, Region.binds, Is] at hF
    have hc := (Grows.cells hb).1
    clear hI
    go_simp
    try simp [upd]
    try first | exact Grows.refl _ | exact trivial | exact ⟨Grows.refl _, trivial⟩
   refine val_cons ?_ (fun v2 => ?_)
   ·intro L vs w1 hvs hat hb hI hF; try simp [factsI, Region.binds, Is] at hF
    have hc := (Grows.cells hb).1
    clear hI
    go_simp
    try simp [upd]
    try first | exact Grows.refl _ | exact trivial | exact ⟨Grows.refl _, trivial⟩
   refine val_cons ?_ (fun v3 => ?_)
   ·intro L vs w1 hvs hat hb hI hF; try simp [factsI, Region.binds, Is] at hF
    have hb0 := hb
    go_simp
    refine (HT1.out _).mono ?_
    rintro e w2 ⟨rfl, hb2⟩
    exact ⟨rfl, hb2⟩
   refine val_cons ?_ (fun v4 => ?_)
   ·intro L vs w1 hvs hat hb hI hF; try simp [factsI, Region.binds, Is] at hF
    have hc := (Grows.cells hb).1
    clear hI
    go_simp
    try simp [upd]
    try first | exact Grows.refl _ | exact trivial | exact ⟨Grows.refl _, trivial⟩
   refine val_cons ?_ (fun v5 => ?_)
   ·intro L vs w1 hvs hat hb hI hF; try simp [factsI, Region.binds, Is] at hF
    have hb0 := hb
    go_simp
    refine (HU.out _).mono ?_
    rintro e w2 ⟨rfl, hb2⟩
    exact ⟨rfl, hb2⟩
   refine val_cons ?_ (fun v6 => ?_)
   ·intro L vs w1 hvs hat hb hI hF; try simp [factsI, Region.binds, Is] at hF
    have hc := (Grows.cells hb).1
    clear hI
    go_simp
    try simp [upd]
    try first | exact Grows.refl _ | exact trivial | exact ⟨Grows.refl _, trivial⟩
   refine val_cons ?_ (fun v7 => ?_)
   ·intro L vs w1 hvs hat hb hI hF; try simp [factsI, Region.binds, Is] at hF
    go_simp
    have hif := cell_if E (0, 1, 2) (fun b => Result.ok (Next.value (Value.bool b)) w1)
    simp only at hif
    rw [hif, HQ2.out]
    exact ⟨Grows.refl _, rfl⟩
   refine val_nil ?_
   intro vs w1 hvs hb hI hF
   simp [Is, Nat.forall_lt_succ_right] at hF
   simp only [Act.put, List.setIfInBounds_toArray, List.set_cons_succ, List.set_cons_zero, hF]
   clear hF
   have HE := Lib.hid (And.intro (HD.out.1.grow hb) (And.intro (HD.out.2.1.grow hb) (bel_trans HD.out.2.2.1 hb)))
   clear hb HD c0 cc lc l0
   by_cases hvk : v = K
   ·have hq : (v == K) = true := by rw [beq_iff_eq]; exact hvk
    rw [hq]
    have HK := Lib.hid hvk
    clear hq hvk
    go_wp2_with fail
    go_roundw
    case rel => exact ⟨v + 1, by omega, by go_num, (by rw [if_pos (by have := HK.out; omega), HK.out]), HE⟩
    case measure => simp [intOf]; omega
   ·have hq : (v == K) = false := by rw [beq_eq_false_iff_ne]; exact hvk
    rw [hq]
    have HK := Lib.hid hvk
    clear hq hvk
    go_wp2_with fail
    go_roundw
    case rel =>
     refine ⟨v + 1, by omega, by go_num, ?_, HE⟩
     rw [HBB.out]
     by_cases hk : K < v
     ·rw [if_pos hk, if_pos (by omega)]
     ·rw [if_neg hk, if_neg (by have := HK.out; omega)]
    case measure => simp [intOf]; omega
  ·obtain rfl : v = 24 := by omega
   have hd : decide (((24 : Nat) : Int) < 24) = false := by decide
   rw [if_pos hI]
   have c0 := HI.out.1.cell; have l0 := HI.out.1.lt
   have hq1 : IntKind.i64.wrap (-p) = -p := IntWalk.i64_in _ ⟨by omega, by omega⟩
   have hq2 : IntKind.i64.wrap (-q) = -q := IntWalk.i64_in _ ⟨by omega, by omega⟩
   have hq3 : IntKind.i64.wrap (-r) = -r := IntWalk.i64_in _ ⟨by omega, by omega⟩
   go_wp2_with fail
   refine (HO.out _).mono ?_
   rintro e w3 ⟨rfl, hb3⟩
   have hbw := bel_trans HI.out.2.2 hb3
   have B1 := HI.out.2.1.grow hb3
   have r1 := B1.row; have l1 := B1.lt
   have cF := (B1.rowS #[.int .i64 ((K : Int)), .int .i64 (-p), .int .i64 (-q), .int .i64 (-r)]).cell
   have hb5 := bel_row hbw (g := w.heap.size + 1) (by omega) #[.int .i64 ((K : Int)), .int .i64 (-p), .int .i64 (-q), .int .i64 (-r)]
   rw [← B1.rw]
   clear B1 hb3 hbw c0 l0
   go_wp2_with fail
   exact bodyPost_ret (v := .tuple #[.agg #[.int .i64 ((K : Int)), .int .i64 (-p), .int .i64 (-q), .int .i64 (-r)], .int .i64 0]) (by simp [results, Tryz.results22, go_sem, cF]) rfl ⟨rfl, hb5⟩
theorem back_n (m : Go.Solid.Mo) (w : World) : Calls Tryz.prog 22 #[motV m.1 m.2] w fun e w' => e = .returned (.tuple #[motV (backM m).1.1 (backM m).1.2, .int .i64 (backM m).2]) ∧ Below w.heap.size w w' := by
 obtain ⟨t, x, y, z⟩ := m
 unfold backM
 simp only
 by_cases h : rightB t (x, y, z) = true
 ·rw [if_pos h]
  have ht := (rightB_iff.1 h).1
  obtain ⟨T, rfl⟩ : ∃ T : Nat, t = T := ⟨t.toNat, by omega⟩
  simp only [Int.toNat_natCast]
  exact back_yes h w
 ·rw [if_neg h]
  exact back_no (Bool.eq_false_iff.2 h) w
end Go.Proofs.YtkfimbonmnoglaaGreatDoor
end
section
namespace Go.Proofs.YtkfimbonmnoglaaGreatDoor
open Go.RowKit Go.Rel Go.Draw Go.Solid
set_option maxRecDepth 100000
theorem rngI_cons {a b : Int} (h : a ≤ b) : rngI a b = a :: rngI (a + 1) b := by
 rw [rngI_append (a := a) (b := a) (c := b) (by omega) h]
 have : rngI a a = [a] := by
  unfold rngI
  rw [show (a - a + 1).toNat = 1 by omega]
  simp [List.range, List.range.loop]
 rw [this]; rfl
theorem rngI_none {a b : Int} (h : b < a) : rngI a b = [] := by
 unfold rngI
 rw [show (b - a + 1).toNat = 0 by omega]; rfl
def loT (a b : Sol) (t : Nat) : Cl := subC (loS a) (loS (spunS b t))
def hiT (a b : Sol) (t : Nat) : Cl := subC (hiS a) (hiS (spunS b t))
def frT (a b : Sol) (t : Nat) : List (Mt × Sol) := ((List.range 24).drop t).flatMap fun t => rowZ a (spunS b t) t (loT a b t) (hiT a b t)
def frZ (a b : Sol) (t : Nat) (z : Int) : List (Mt × Sol) := ((rngI z (hiT a b t).2.2).flatMap fun z => rowY a (spunS b t) t z (loT a b t) (hiT a b t)) ++ frT a b (t + 1)
def frY (a b : Sol) (t : Nat) (z y : Int) : List (Mt × Sol) := ((rngI y (hiT a b t).2.1).flatMap fun y => rowX a (spunS b t) t z y (loT a b t) (hiT a b t)) ++ frZ a b t (z + 1)
def frX (a b : Sol) (t : Nat) (z y x : Int) : List (Mt × Sol) := ((rngI x (hiT a b t).1).flatMap fun x => tryX a (spunS b t) t z y x) ++ frY a b t z (y + 1)
theorem frT_all {a b : Sol} (ha : a ≠ 0) (hc : ¬ countS a < countS b) : frT a b 0 = fitsL a b := by
 unfold fitsL frT loT hiT
 rw [if_neg (fun h => h.elim ha hc)]; rfl
theorem frT_end (a b : Sol) : frT a b 24 = [] := by
 unfold frT
 rw [List.drop_eq_nil_of_le (by simp)]; rfl
theorem frT_step (a b : Sol) {t : Nat} (ht : t < 24) : frT a b t = frZ a b t (loT a b t).2.2 := by
 unfold frZ
 have e : (List.range 24).drop t = t :: (List.range 24).drop (t + 1) := by
  rw [List.drop_eq_getElem_cons (by simpa using ht)]
  simp
 unfold frT
 rw [e, List.flatMap_cons]
 rfl
theorem frZ_end {a b : Sol} {t : Nat} {z : Int} (h : (hiT a b t).2.2 < z) : frZ a b t z = frT a b (t + 1) := by unfold frZ; rw [rngI_none h]; rfl
theorem frZ_step {a b : Sol} {t : Nat} {z : Int} (h : z ≤ (hiT a b t).2.2) : frZ a b t z = frY a b t z (loT a b t).2.1 := by
 unfold frY
 conv => lhs; unfold frZ
 rw [rngI_cons h, List.flatMap_cons, List.append_assoc]
 rfl
theorem frY_end {a b : Sol} {t : Nat} {z y : Int} (h : (hiT a b t).2.1 < y) : frY a b t z y = frZ a b t (z + 1) := by unfold frY; rw [rngI_none h]; rfl
theorem frY_step {a b : Sol} {t : Nat} {z y : Int} (h : y ≤ (hiT a b t).2.1) : frY a b t z y = frX a b t z y (loT a b t).1 := by
 unfold frX
 conv => lhs; unfold frY
 rw [rngI_cons h, List.flatMap_cons, List.append_assoc]
 rfl
theorem frX_end {a b : Sol} {t : Nat} {z y x : Int} (h : (hiT a b t).1 < x) : frX a b t z y x = frY a b t z (y + 1) := by unfold frX; rw [rngI_none h]; rfl
theorem frX_step {a b : Sol} {t : Nat} {z y x : Int} (h : x ≤ (hiT a b t).1) : frX a b t z y x = tryX a (spunS b t) t z y x ++ frX a b t z y (x + 1) := by
 conv => lhs; unfold frX
 rw [rngI_cons h, List.flatMap_cons, List.append_assoc]
 rfl
/-- within the room lifted does what moving does -/
theorem lift_room {a b : Sol} {t : Nat} (ha : a ≠ 0) (hb : b ≠ 0) {x y z : Int} (hx : (loT a b t).1 ≤ x ∧ x ≤ (hiT a b t).1) (hy : (loT a b t).2.1 ≤ y ∧ y ≤ (hiT a b t).2.1) (hz : (loT a b t).2.2 ≤ z ∧ z ≤ (hiT a b t).2.2) :
  liftS (spunS b t) (loS (spunS b t)).2.2 (hiS (spunS b t)).2.2 (x, y, z) = imgS (movC (x, y, z)) (spunS b t) := by
 refine lift_img (range_stays fun k => ?_)
 have h1 := co_in (loS_in ha) k
 have h2 := co_in (hiS_in ha) k
 unfold loT hiT subC at hx hy hz
 simp only at hx hy hz
 match k with
 | 0 =>
  have h1' : 0 ≤ (loS a).1 ∧ (loS a).1 ≤ 7 := h1
  have h2' : 0 ≤ (hiS a).1 ∧ (hiS a).1 ≤ 7 := h2
  show -(loS (spunS b t)).1 ≤ x ∧ x ≤ 7 - (hiS (spunS b t)).1
  omega
 | 1 =>
  have h1' : 0 ≤ (loS a).2.1 ∧ (loS a).2.1 ≤ 7 := h1
  have h2' : 0 ≤ (hiS a).2.1 ∧ (hiS a).2.1 ≤ 7 := h2
  show -(loS (spunS b t)).2.1 ≤ y ∧ y ≤ 7 - (hiS (spunS b t)).2.1
  omega
 | _ + 2 =>
  have h1' : 0 ≤ (loS a).2.2 ∧ (loS a).2.2 ≤ 7 := h1
  have h2' : 0 ≤ (hiS a).2.2 ∧ (hiS a).2.2 ≤ 7 := h2
  show -(loS (spunS b t)).2.2 ≤ z ∧ z ≤ 7 - (hiS (spunS b t)).2.2
  omega
theorem Blk.keep {W W' : World} {g : Nat} {c : Array Value} {T : TypeId} {Wr : Nat → Prop} (h : Blk W g c T) (hk : KeepsBut Wr W W') (hn : ¬ Wr g) : Blk W' g c T := (hk.2 _ h.lt hn).trans h
/-- the blocks of fits: both solids, the room -/
structure FJ (B0 : Nat) (a b : Sol) (ba bb b4 : Nat) (W : World) : Prop where
 sz : B0 ≤ W.heap.size
 sa : Blk W ba #[.int .u64 (pl a 0), .int .u64 (pl a 1), .int .u64 (pl a 2), .int .u64 (pl a 3), .int .u64 (pl a 4), .int .u64 (pl a 5), .int .u64 (pl a 6), .int .u64 (pl a 7)] 26
 sb : Blk W bb #[.int .u64 (pl b 0), .int .u64 (pl b 1), .int .u64 (pl b 2), .int .u64 (pl b 3), .int .u64 (pl b 4), .int .u64 (pl b 5), .int .u64 (pl b 6), .int .u64 (pl b 7)] 26
 rm : Blk W b4 (boxR (loS a) (hiS a)) 62
 tb : Tab W
theorem FJ.bel {B0 : Nat} {a b : Sol} {ba bb b4 : Nat} {W W' : World} (h : FJ B0 a b ba bb b4 W) (hb : Below W.heap.size W W') : FJ B0 a b ba bb b4 W' := ⟨Nat.le_trans h.sz hb.size, h.sa.grow hb, h.sb.grow hb, h.rm.grow hb, h.tb.grow hb⟩
structure WrOk (Wr : Nat → Prop) (B0 ba bb : Nat) : Prop where
 up : ∀ k, B0 ≤ k → ¬ Wr k
 a : ¬ Wr ba
 b : ¬ Wr bb
 t : ¬ Wr 0
theorem FJ.keep {B0 : Nat} {a b : Sol} {ba bb b4 : Nat} {W W' : World} {Wr : Nat → Prop} (h : FJ B0 a b ba bb b4 W) (hk : KeepsBut Wr W W') (hw : WrOk Wr B0 ba bb) (h4 : B0 ≤ b4) : FJ B0 a b ba bb b4 W' :=
 ⟨Nat.le_trans h.sz hk.1, h.sa.keep hk hw.a, h.sb.keep hk hw.b, h.rm.keep hk (hw.up _ h4), h.tb.keep hk hw.t⟩
/-- and those of a turn: the turned solid with its box, the box's corners -/
structure FK (B0 : Nat) (P : Sol) (b7 b8 b9 : Nat) (W : World) : Prop where
 le : B0 ≤ b7 ∧ B0 ≤ b8 ∧ B0 ≤ b9
 p : Blk W b7 #[.int .u64 (pl P 0), .int .u64 (pl P 1), .int .u64 (pl P 2), .int .u64 (pl P 3), .int .u64 (pl P 4), .int .u64 (pl P 5), .int .u64 (pl P 6), .int .u64 (pl P 7), .int .i64 (loS P).1, .int .i64 (loS P).2.1, .int .i64 (loS P).2.2, .int .i64 (hiS P).1, .int .i64 (hiS P).2.1, .int .i64 (hiS P).2.2] 151
 l : Blk W b8 #[.int .i64 (loS P).1, .int .i64 (loS P).2.1, .int .i64 (loS P).2.2] 60
 h : Blk W b9 #[.int .i64 (hiS P).1, .int .i64 (hiS P).2.1, .int .i64 (hiS P).2.2] 60
theorem FK.bel {B0 : Nat} {P : Sol} {b7 b8 b9 : Nat} {W W' : World} (h : FK B0 P b7 b8 b9 W) (hb : Below W.heap.size W W') : FK B0 P b7 b8 b9 W' := ⟨h.le, h.p.grow hb, h.l.grow hb, h.h.grow hb⟩
theorem FK.keep {B0 : Nat} {P : Sol} {b7 b8 b9 ba bb : Nat} {W W' : World} {Wr : Nat → Prop} (h : FK B0 P b7 b8 b9 W) (hk : KeepsBut Wr W W') (hw : WrOk Wr B0 ba bb) : FK B0 P b7 b8 b9 W' :=
 ⟨h.le, h.p.keep hk (hw.up _ h.le.1), h.l.keep hk (hw.up _ h.le.2.1), h.h.keep hk (hw.up _ h.le.2.2)⟩
/-- two blocks laid, and stored to, in whatever order -/
structure TwoI (N0 : Nat) (c8 d8 c9 d9 : Array Value) (T : TypeId) (p8 p9 q8 q9 : Bool) (v8 v9 : Value) (W : World) : Prop where
 le : N0 ≤ W.heap.size
 fst : p8 = true → ∃ b, v8 = .pointer (some ⟨b, 0, none⟩) ∧ N0 ≤ b ∧ Blk W b (bif q8 then d8 else c8) T
 snd : p9 = true → ∃ b, v9 = .pointer (some ⟨b, 0, none⟩) ∧ N0 ≤ b ∧ Blk W b (bif q9 then d9 else c9) T
 ne : p8 = true → p9 = true → v8 ≠ v9
section
variable {N0 : Nat} {c8 d8 c9 d9 : Array Value} {T : TypeId} {p8 p9 q8 q9 : Bool} {v8 v9 : Value} {W : World}
theorem TwoI.start (h : N0 ≤ W.heap.size) : TwoI N0 c8 d8 c9 d9 T false false false false v8 v9 W := ⟨h, fun e => (by cases e), fun e => (by cases e), fun e => (by cases e)⟩
theorem TwoI.alloc8 (h : TwoI N0 c8 d8 c9 d9 T false p9 false q9 v8 v9 W) : TwoI N0 c8 d8 c9 d9 T true p9 false q9 (.pointer (some ⟨W.heap.size, 0, none⟩)) v9 (W.alloc (.cells c8 T)) := by
 refine ⟨by have := h.le; simp; omega, fun _ => ⟨_, rfl, h.le, Blk.new _ _ _⟩, fun e => ?_, fun _ e => ?_⟩
 ·obtain ⟨b, e1, e2, e3⟩ := h.snd e
  exact ⟨b, e1, e2, e3.alloc _⟩
 ·obtain ⟨b, e1, e2, e3⟩ := h.snd e
  rw [e1]
  intro he
  injection he with he; injection he with he; injection he with he
  have := e3.lt; omega
theorem TwoI.alloc9 (h : TwoI N0 c8 d8 c9 d9 T p8 false q8 false v8 v9 W) : TwoI N0 c8 d8 c9 d9 T p8 true q8 false v8 (.pointer (some ⟨W.heap.size, 0, none⟩)) (W.alloc (.cells c9 T)) := by
 refine ⟨by have := h.le; simp; omega, fun e => ?_, fun _ => ⟨_, rfl, h.le, Blk.new _ _ _⟩, fun e _ => ?_⟩
 ·obtain ⟨b, e1, e2, e3⟩ := h.fst e
  exact ⟨b, e1, e2, e3.alloc _⟩
 ·obtain ⟨b, e1, e2, e3⟩ := h.fst e
  rw [e1]
  intro he
  injection he with he; injection he with he; injection he with he
  have := e3.lt; omega
theorem TwoI.set8 {b : Nat} (h : TwoI N0 c8 d8 c9 d9 T true p9 false q9 (.pointer (some ⟨b, 0, none⟩)) v9 W) (hB : Blk W b c8 T) : TwoI N0 c8 d8 c9 d9 T true p9 true q9 (.pointer (some ⟨b, 0, none⟩)) v9 (W.setRow b d8) := by
 refine ⟨by rw [setRow_size]; exact h.le, fun _ => ⟨b, rfl, ?_, hB.rowS _⟩, fun e => ?_, h.ne⟩
 ·obtain ⟨b', e1, e2, _⟩ := h.fst rfl
  injection e1 with he; injection he with he; injection he with he
  rw [he]; exact e2
 ·obtain ⟨b', e1, e2, e3⟩ := h.snd e
  refine ⟨b', e1, e2, e3.rowO _ (fun he => h.ne rfl e (by rw [e1, he]))⟩
theorem TwoI.set9 {b : Nat} (h : TwoI N0 c8 d8 c9 d9 T p8 true q8 false v8 (.pointer (some ⟨b, 0, none⟩)) W) (hB : Blk W b c9 T) : TwoI N0 c8 d8 c9 d9 T p8 true q8 true v8 (.pointer (some ⟨b, 0, none⟩)) (W.setRow b d9) := by
 refine ⟨by rw [setRow_size]; exact h.le, fun e => ?_, fun _ => ⟨b, rfl, ?_, hB.rowS _⟩, h.ne⟩
 ·obtain ⟨b', e1, e2, e3⟩ := h.fst e
  refine ⟨b', e1, e2, e3.rowO _ (fun he => h.ne e rfl (by rw [e1, he]))⟩
 ·obtain ⟨b', e1, e2, _⟩ := h.snd rfl
  injection e1 with he; injection he with he; injection he with he
  rw [he]; exact e2
end
theorem fits_spec (a b : Sol) (w : World) : Calls Tryz.prog 121 #[solV a, solV b] w fun e w' => e = .returned (.func (.func 155) #[] #[.pointer (some ⟨w.heap.size, 0, none⟩), .pointer (some ⟨w.heap.size + 1, 0, none⟩)]) ∧ w' = (w.alloc (.cells #[.int .u64 (pl a 0), .int .u64 (pl a 1), .int .u64 (pl a 2), .int .u64 (pl a 3), .int .u64 (pl a 4), .int .u64 (pl a 5), .int .u64 (pl a 6), .int .u64 (pl a 7)] 26)).alloc (.cells #[.int .u64 (pl b 0), .int .u64 (pl b 1), .int .u64 (pl b 2), .int .u64 (pl b 3), .int .u64 (pl b 4), .int .u64 (pl b 5), .int .u64 (pl b 6), .int .u64 (pl b 7)] 26) := by
 have hmf' := hmf
 go_enter Tryz.func121, Tryz.ntmps121
 go_wp2_with fail
 go_ret
 exact ⟨rfl, rfl⟩
end Go.Proofs.YtkfimbonmnoglaaGreatDoor
end
