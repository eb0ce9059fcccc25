import Derived.Test.YtkfimbonmnoglaaGreatDoorB07
/-
  Given contracts of functions of the program, and laws for them, one behind the other.
-/
set_option linter.unusedVariables false
set_option linter.unusedSimpArgs false
set_option linter.unusedSectionVars false
section
namespace Go.Proofs.YtkfimbonmnoglaaGreatDoor
open Go.RowKit Go.Rel Go.Draw Go.Solid
set_option maxRecDepth 100000
set_option maxHeartbeats 4000000 in
theorem turned_none {x y z : Int} (hx : -7 ≤ x ∧ x ≤ 14) (hy : -7 ≤ y ∧ y ≤ 14) (hz : -7 ≤ z ∧ z ≤ 14) {t r : Nat} (hr : r < 4) (ht : t = 4 * 0 + r) (w : World) : Calls Tryz.prog 92 #[cV x y z, .int .i64 (t : Int)] w fun e w' => e = .returned (clV (spinC r (x, y, z))) ∧ Below w.heap.size w w' := by
 have hq : (t : Int) / 4 = 0 := by omega
 have hm : (t : Int) % 4 = (r : Int) := by omega
 have ht1 : (0 : Int) ≤ (t : Int) := by omega
 obtain ⟨RV, hRV⟩ : ∃ RV : Cl, RV = spinC r (x, y, z) := ⟨_, rfl⟩
 rw [← hRV]
 obtain ⟨p, hp⟩ : ∃ p, p = x := ⟨_, rfl⟩
 obtain ⟨q, hq2⟩ : ∃ p, p = y := ⟨_, rfl⟩
 obtain ⟨o, ho⟩ : ∃ p, p = z := ⟨_, rfl⟩
 have HG : Hid ((-7 ≤ p ∧ p ≤ 14) ∧ (-7 ≤ q ∧ q ≤ 14) ∧ (-7 ≤ o ∧ o ≤ 14)) := Lib.hid (by omega)
 have HR : Hid (∀ W, Calls Tryz.prog 134 #[.int .i64 0, cV x y z] W fun e w' => e = .returned (cV p q o) ∧ Below W.heap.size W w') := Lib.hid (fun W => by rw [hp, hq2, ho]; exact roll_none hx hy hz W)
 have HRV : Hid (RV = spinC r (p, q, o)) := Lib.hid (by rw [hRV, hp, hq2, ho])
 clear hRV hp hq2 ho ht hx hy hz
 go_enter Tryz.func92, Tryz.ntmps92
 go_wp2_with fail
 refine wp_region_grow 6 [Is (.int .i64 (t : Int)), Is (.int .i64 0), Is (.pointer (some ⟨w.heap.size + 1 + 1, 0, none⟩)), Is (.func (.func 134) #[.int .i64 0] #[]), Is (cV x y z), Is (cV p q o)] (by kernel_rfl) (by kernel_rfl) rfl ⟨fun _ _ _ h _ => h, fun _ _ _ h _ => h, fun _ _ _ h _ => h, fun _ _ _ h _ => h, fun _ _ _ h _ => h, fun _ _ _ h _ => h, trivial⟩ ?_
 simp only [List.take_succ_cons, List.take_zero, List.drop_succ_cons, List.drop_zero]
 refine rel_cons ?_ (fun v0 => ?_)
 ·intro w1 hb hF; have hc := (Grows.cells hb).1; have hf := (Grows.cells hb).2; try simp [facts, Is] at hF
  go_simp
  exact Grows.refl _
 refine rel_cons ?_ (fun v1 => ?_)
 ·intro w1 hb hF; have hc := (Grows.cells hb).1; have hf := (Grows.cells hb).2; try simp [facts, Is] at hF
  go_simp
  first | exact Grows.refl _ | exact ⟨Grows.refl _, by decide⟩
 iterate 3 (refine rel_cons ?_ (fun _ => ?_); · intro w1 hb hF; have hc := (Grows.cells hb).1; have hf := (Grows.cells hb).2; (try simp [facts, Is] at hF); go_simp; exact Grows.refl _)
 refine rel_cons ?_ (fun v5 => ?_)
 ·intro w1 hb hF; have hc := (Grows.cells hb).1; have hf := (Grows.cells hb).2; try simp [facts, Is] at hF
  go_simp
  refine (HR.out _).mono ?_
  rintro e w2 ⟨rfl, hb2⟩
  exact ⟨rfl, hb2⟩
 refine rel_nil ?_
 intro w1 hb hF
 simp [Is, Nat.forall_lt_succ_right] at hF
 simp only [Act.put, List.setIfInBounds_toArray, List.set_cons_succ, List.set_cons_zero, hF]
 clear hF
 have hb1 : Below _ _ w1 := hb
 have B0 : Blk w1 w.heap.size #[.int .i64 x, .int .i64 y, .int .i64 z] 60 := Blk.grow (by repeat (first | with_reducible assumption | (refine Blk.at _ _ ?_; (simp; done)) | with_reducible refine Blk.alloc ?_ _ | with_reducible refine Blk.drew ?_ | with_reducible refine Blk.rowS ?_ _ | with_reducible refine Blk.rowO ?_ _ (by simp))) hb1
 have B1 : Blk w1 (w.heap.size + 1) #[.int .i64 0, .int .i64 0, .int .i64 0] 60 := Blk.grow (by repeat (first | with_reducible assumption | (refine Blk.at _ _ ?_; (simp; done)) | with_reducible refine Blk.alloc ?_ _ | with_reducible refine Blk.drew ?_ | with_reducible refine Blk.rowS ?_ _ | with_reducible refine Blk.rowO ?_ _ (by simp))) hb1
 have hbw : Below w.heap.size w w1 := bel_trans (by repeat (first | with_reducible exact bel_refl _ | with_reducible assumption | with_reducible refine bel_drewN ?_ _ | with_reducible refine bel_drew ?_ | with_reducible refine bel_alloc ?_ _ | with_reducible refine bel_row ?_ ?_ _ | with_reducible refine bel_set ?_ ?_ _ | refine bel_trans ?_ (by with_reducible assumption) | (simp; done) | (simp; omega))) hb1
 have HB := Lib.hid (And.intro B1 (And.intro (B0.rowS #[.int .i64 p, .int .i64 q, .int .i64 o]) hbw))
 have l0 := B0.lt
 have r0 := B0.row
 rw [← B0.rw]
 clear B0 B1 hb hb1 hbw
 go_wp2_with fail
 generalize hw3 : w1.setRow w.heap.size #[.int .i64 p, .int .i64 q, .int .i64 o] = w3 at *
 have hbw3 : Below w.heap.size w w3 := by rw [← hw3]; exact bel_row HB.out.2.2 (Nat.le_refl _) _
 have B13 : Blk w3 (w.heap.size + 1) #[.int .i64 0, .int .i64 0, .int .i64 0] 60 := by rw [← hw3]; exact HB.out.1.rowO _ (by omega)
 have B03 := HB.out.2.1
 have HC := Lib.hid (And.intro hbw3 (And.intro B13 B03))
 clear hw3 r0 l0 hbw3 B13 B03
 have hm := Lib.hid hm
 go_loopw [28] (fun iv wx => ∃ (k : Nat) (c1 c2 c3 : Int), k ≤ r ∧ iv = .int .i64 k ∧ Hid (((-7 ≤ c1 ∧ c1 ≤ 14) ∧ (-7 ≤ c2 ∧ c2 ≤ 14) ∧ (-7 ≤ c3 ∧ c3 ≤ 14)) ∧ RV = spinC (r - k) (c1, c2, c3) ∧ Blk wx w.heap.size #[.int .i64 c1, .int .i64 c2, .int .i64 c3] 60 ∧ Blk wx (w.heap.size + 1) #[.int .i64 0, .int .i64 0, .int .i64 0] 60 ∧ Below w.heap.size w wx)) (fun iv _ => r - (intOf iv).toNat)
 case atStart => exact ⟨0, p, q, o, by omega, rfl, Lib.hid ⟨HG.out, HRV.out, HC.out.2.2, HC.out.2.1, HC.out.1⟩⟩
 case round =>
  clear hq ht1
  obtain ⟨k, c1, c2, c3, hk, rfl, HI⟩ := hrel
  have B := HI.out.2.2.1
  have cB := B.cell; have lB := B.lt; have rB := B.row
  by_cases hlt : k < r
  ·have hd : decide ((k : Int) < (t : Int) % 4) = true := by rw [hm.out]; simp; omega
   have hc := HI.out.1
   rw [← B.rw]
   clear B
   go_wp2_with fail
   go_roundw
   case rel =>
    refine ⟨k + 1, 7 - c2, c1, c3, by omega, by go_num, Lib.hid ⟨by omega, ?_, HI.out.2.2.1.rowS _, HI.out.2.2.2.1.rowO _ (by omega), bel_row HI.out.2.2.2.2 (Nat.le_refl _) _⟩⟩
    rw [HI.out.2.1, show r - k = (r - (k + 1)) + 1 by omega]; rfl
   case measure => simp [intOf]; omega
  ·obtain rfl : k = r := by omega
   have hd : decide ((k : Int) < (t : Int) % 4) = false := by rw [hm.out]; simp
   have B1 := HI.out.2.2.2.1
   have r1 := B1.row; have l1 := B1.lt
   have cF := (B1.rowS #[.int .i64 c1, .int .i64 c2, .int .i64 c3]).cell
   have hb := HI.out.2.2.2.2
   have hRV : RV = (c1, c2, c3) := by rw [HI.out.2.1, Nat.sub_self]; rfl
   have HV := Lib.hid hRV
   clear hRV B
   rw [← B1.rw]
   clear B1
   go_wp2_with fail
   exact bodyPost_ret (v := clV (c1, c2, c3)) (by simp [results, Tryz.results92, go_sem, cF]) rfl ⟨by rw [HV.out], bel_row hb (by omega) _⟩
set_option maxHeartbeats 4000000 in
theorem turned_one {x y z : Int} (hx : -7 ≤ x ∧ x ≤ 14) (hy : -7 ≤ y ∧ y ≤ 14) (hz : -7 ≤ z ∧ z ≤ 14) {t r : Nat} (hr : r < 4) (ht : t = 4 * 1 + r) (w : World) : Calls Tryz.prog 92 #[cV x y z, .int .i64 (t : Int)] w fun e w' => e = .returned (clV (spinC r (x, 7 - z, y))) ∧ Below w.heap.size w w' := by
 have hq : (t : Int) / 4 = 1 := by omega
 have hm : (t : Int) % 4 = (r : Int) := by omega
 have ht1 : (0 : Int) ≤ (t : Int) := by omega
 obtain ⟨RV, hRV⟩ : ∃ RV : Cl, RV = spinC r (x, 7 - z, y) := ⟨_, rfl⟩
 rw [← hRV]
 obtain ⟨p, hp⟩ : ∃ p, p = x := ⟨_, rfl⟩
 obtain ⟨q, hq2⟩ : ∃ p, p = 7 - z := ⟨_, rfl⟩
 obtain ⟨o, ho⟩ : ∃ p, p = y := ⟨_, rfl⟩
 have HG : Hid ((-7 ≤ p ∧ p ≤ 14) ∧ (-7 ≤ q ∧ q ≤ 14) ∧ (-7 ≤ o ∧ o ≤ 14)) := Lib.hid (by omega)
 have HR : Hid (∀ W, Calls Tryz.prog 135 #[.int .i64 0, cV x y z] W fun e w' => e = .returned (cV p q o) ∧ Below W.heap.size W w') := Lib.hid (fun W => by rw [hp, hq2, ho]; exact roll_one hx hy hz W)
 have HRV : Hid (RV = spinC r (p, q, o)) := Lib.hid (by rw [hRV, hp, hq2, ho])
 clear hRV hp hq2 ho ht hx hy hz
 go_enter Tryz.func92, Tryz.ntmps92
 go_wp2_with fail
 refine wp_region_grow 6 [Is (.int .i64 (t : Int)), Is (.int .i64 1), Is (.pointer (some ⟨w.heap.size + 1 + 1, 1, none⟩)), Is (.func (.func 135) #[.int .i64 0] #[]), Is (cV x y z), Is (cV p q o)] (by kernel_rfl) (by kernel_rfl) rfl ⟨fun _ _ _ h _ => h, fun _ _ _ h _ => h, fun _ _ _ h _ => h, fun _ _ _ h _ => h, fun _ _ _ h _ => h, fun _ _ _ h _ => h, trivial⟩ ?_
 simp only [List.take_succ_cons, List.take_zero, List.drop_succ_cons, List.drop_zero]
 refine rel_cons ?_ (fun v0 => ?_)
 ·intro w1 hb hF; have hc := (Grows.cells hb).1; have hf := (Grows.cells hb).2; try simp [facts, Is] at hF
  go_simp
  exact Grows.refl _
 refine rel_cons ?_ (fun v1 => ?_)
 ·intro w1 hb hF; have hc := (Grows.cells hb).1; have hf := (Grows.cells hb).2; try simp [facts, Is] at hF
  go_simp
  first | exact Grows.refl _ | exact ⟨Grows.refl _, by decide⟩
 iterate 3 (refine rel_cons ?_ (fun _ => ?_); · intro w1 hb hF; have hc := (Grows.cells hb).1; have hf := (Grows.cells hb).2; (try simp [facts, Is] at hF); go_simp; exact Grows.refl _)
 refine rel_cons ?_ (fun v5 => ?_)
 ·intro w1 hb hF; have hc := (Grows.cells hb).1; have hf := (Grows.cells hb).2; try simp [facts, Is] at hF
  go_simp
  refine (HR.out _).mono ?_
  rintro e w2 ⟨rfl, hb2⟩
  exact ⟨rfl, hb2⟩
 refine rel_nil ?_
 intro w1 hb hF
 simp [Is, Nat.forall_lt_succ_right] at hF
 simp only [Act.put, List.setIfInBounds_toArray, List.set_cons_succ, List.set_cons_zero, hF]
 clear hF
 have hb1 : Below _ _ w1 := hb
 have B0 : Blk w1 w.heap.size #[.int .i64 x, .int .i64 y, .int .i64 z] 60 := Blk.grow (by repeat (first | with_reducible assumption | (refine Blk.at _ _ ?_; (simp; done)) | with_reducible refine Blk.alloc ?_ _ | with_reducible refine Blk.drew ?_ | with_reducible refine Blk.rowS ?_ _ | with_reducible refine Blk.rowO ?_ _ (by simp))) hb1
 have B1 : Blk w1 (w.heap.size + 1) #[.int .i64 0, .int .i64 0, .int .i64 0] 60 := Blk.grow (by repeat (first | with_reducible assumption | (refine Blk.at _ _ ?_; (simp; done)) | with_reducible refine Blk.alloc ?_ _ | with_reducible refine Blk.drew ?_ | with_reducible refine Blk.rowS ?_ _ | with_reducible refine Blk.rowO ?_ _ (by simp))) hb1
 have hbw : Below w.heap.size w w1 := bel_trans (by repeat (first | with_reducible exact bel_refl _ | with_reducible assumption | with_reducible refine bel_drewN ?_ _ | with_reducible refine bel_drew ?_ | with_reducible refine bel_alloc ?_ _ | with_reducible refine bel_row ?_ ?_ _ | with_reducible refine bel_set ?_ ?_ _ | refine bel_trans ?_ (by with_reducible assumption) | (simp; done) | (simp; omega))) hb1
 have HB := Lib.hid (And.intro B1 (And.intro (B0.rowS #[.int .i64 p, .int .i64 q, .int .i64 o]) hbw))
 have l0 := B0.lt
 have r0 := B0.row
 rw [← B0.rw]
 clear B0 B1 hb hb1 hbw
 go_wp2_with fail
 generalize hw3 : w1.setRow w.heap.size #[.int .i64 p, .int .i64 q, .int .i64 o] = w3 at *
 have hbw3 : Below w.heap.size w w3 := by rw [← hw3]; exact bel_row HB.out.2.2 (Nat.le_refl _) _
 have B13 : Blk w3 (w.heap.size + 1) #[.int .i64 0, .int .i64 0, .int .i64 0] 60 := by rw [← hw3]; exact HB.out.1.rowO _ (by omega)
 have B03 := HB.out.2.1
 have HC := Lib.hid (And.intro hbw3 (And.intro B13 B03))
 clear hw3 r0 l0 hbw3 B13 B03
 have hm := Lib.hid hm
 go_loopw [28] (fun iv wx => ∃ (k : Nat) (c1 c2 c3 : Int), k ≤ r ∧ iv = .int .i64 k ∧ Hid (((-7 ≤ c1 ∧ c1 ≤ 14) ∧ (-7 ≤ c2 ∧ c2 ≤ 14) ∧ (-7 ≤ c3 ∧ c3 ≤ 14)) ∧ RV = spinC (r - k) (c1, c2, c3) ∧ Blk wx w.heap.size #[.int .i64 c1, .int .i64 c2, .int .i64 c3] 60 ∧ Blk wx (w.heap.size + 1) #[.int .i64 0, .int .i64 0, .int .i64 0] 60 ∧ Below w.heap.size w wx)) (fun iv _ => r - (intOf iv).toNat)
 case atStart => exact ⟨0, p, q, o, by omega, rfl, Lib.hid ⟨HG.out, HRV.out, HC.out.2.2, HC.out.2.1, HC.out.1⟩⟩
 case round =>
  clear hq ht1
  obtain ⟨k, c1, c2, c3, hk, rfl, HI⟩ := hrel
  have B := HI.out.2.2.1
  have cB := B.cell; have lB := B.lt; have rB := B.row
  by_cases hlt : k < r
  ·have hd : decide ((k : Int) < (t : Int) % 4) = true := by rw [hm.out]; simp; omega
   have hc := HI.out.1
   rw [← B.rw]
   clear B
   go_wp2_with fail
   go_roundw
   case rel =>
    refine ⟨k + 1, 7 - c2, c1, c3, by omega, by go_num, Lib.hid ⟨by omega, ?_, HI.out.2.2.1.rowS _, HI.out.2.2.2.1.rowO _ (by omega), bel_row HI.out.2.2.2.2 (Nat.le_refl _) _⟩⟩
    rw [HI.out.2.1, show r - k = (r - (k + 1)) + 1 by omega]; rfl
   case measure => simp [intOf]; omega
  ·obtain rfl : k = r := by omega
   have hd : decide ((k : Int) < (t : Int) % 4) = false := by rw [hm.out]; simp
   have B1 := HI.out.2.2.2.1
   have r1 := B1.row; have l1 := B1.lt
   have cF := (B1.rowS #[.int .i64 c1, .int .i64 c2, .int .i64 c3]).cell
   have hb := HI.out.2.2.2.2
   have hRV : RV = (c1, c2, c3) := by rw [HI.out.2.1, Nat.sub_self]; rfl
   have HV := Lib.hid hRV
   clear hRV B
   rw [← B1.rw]
   clear B1
   go_wp2_with fail
   exact bodyPost_ret (v := clV (c1, c2, c3)) (by simp [results, Tryz.results92, go_sem, cF]) rfl ⟨by rw [HV.out], bel_row hb (by omega) _⟩
set_option maxHeartbeats 4000000 in
theorem turned_two {x y z : Int} (hx : -7 ≤ x ∧ x ≤ 14) (hy : -7 ≤ y ∧ y ≤ 14) (hz : -7 ≤ z ∧ z ≤ 14) {t r : Nat} (hr : r < 4) (ht : t = 4 * 2 + r) (w : World) : Calls Tryz.prog 92 #[cV x y z, .int .i64 (t : Int)] w fun e w' => e = .returned (clV (spinC r (x, 7 - y, 7 - z))) ∧ Below w.heap.size w w' := by
 have hq : (t : Int) / 4 = 2 := by omega
 have hm : (t : Int) % 4 = (r : Int) := by omega
 have ht1 : (0 : Int) ≤ (t : Int) := by omega
 obtain ⟨RV, hRV⟩ : ∃ RV : Cl, RV = spinC r (x, 7 - y, 7 - z) := ⟨_, rfl⟩
 rw [← hRV]
 obtain ⟨p, hp⟩ : ∃ p, p = x := ⟨_, rfl⟩
 obtain ⟨q, hq2⟩ : ∃ p, p = 7 - y := ⟨_, rfl⟩
 obtain ⟨o, ho⟩ : ∃ p, p = 7 - z := ⟨_, rfl⟩
 have HG : Hid ((-7 ≤ p ∧ p ≤ 14) ∧ (-7 ≤ q ∧ q ≤ 14) ∧ (-7 ≤ o ∧ o ≤ 14)) := Lib.hid (by omega)
 have HR : Hid (∀ W, Calls Tryz.prog 136 #[.int .i64 0, cV x y z] W fun e w' => e = .returned (cV p q o) ∧ Below W.heap.size W w') := Lib.hid (fun W => by rw [hp, hq2, ho]; exact roll_two hx hy hz W)
 have HRV : Hid (RV = spinC r (p, q, o)) := Lib.hid (by rw [hRV, hp, hq2, ho])
 clear hRV hp hq2 ho ht hx hy hz
 go_enter Tryz.func92, Tryz.ntmps92
 go_wp2_with fail
 refine wp_region_grow 6 [Is (.int .i64 (t : Int)), Is (.int .i64 2), Is (.pointer (some ⟨w.heap.size + 1 + 1, 2, none⟩)), Is (.func (.func 136) #[.int .i64 0] #[]), Is (cV x y z), Is (cV p q o)] (by kernel_rfl) (by kernel_rfl) rfl ⟨fun _ _ _ h _ => h, fun _ _ _ h _ => h, fun _ _ _ h _ => h, fun _ _ _ h _ => h, fun _ _ _ h _ => h, fun _ _ _ h _ => h, trivial⟩ ?_
 simp only [List.take_succ_cons, List.take_zero, List.drop_succ_cons, List.drop_zero]
 refine rel_cons ?_ (fun v0 => ?_)
 ·intro w1 hb hF; have hc := (Grows.cells hb).1; have hf := (Grows.cells hb).2; try simp [facts, Is] at hF
  go_simp
  exact Grows.refl _
 refine rel_cons ?_ (fun v1 => ?_)
 ·intro w1 hb hF; have hc := (Grows.cells hb).1; have hf := (Grows.cells hb).2; try simp [facts, Is] at hF
  go_simp
  first | exact Grows.refl _ | exact ⟨Grows.refl _, by decide⟩
 iterate 3 (refine rel_cons ?_ (fun _ => ?_); · intro w1 hb hF; have hc := (Grows.cells hb).1; have hf := (Grows.cells hb).2; (try simp [facts, Is] at hF); go_simp; exact Grows.refl _)
 refine rel_cons ?_ (fun v5 => ?_)
 ·intro w1 hb hF; have hc := (Grows.cells hb).1; have hf := (Grows.cells hb).2; try simp [facts, Is] at hF
  go_simp
  refine (HR.out _).mono ?_
  rintro e w2 ⟨rfl, hb2⟩
  exact ⟨rfl, hb2⟩
 refine rel_nil ?_
 intro w1 hb hF
 simp [Is, Nat.forall_lt_succ_right] at hF
 simp only [Act.put, List.setIfInBounds_toArray, List.set_cons_succ, List.set_cons_zero, hF]
 clear hF
 have hb1 : Below _ _ w1 := hb
 have B0 : Blk w1 w.heap.size #[.int .i64 x, .int .i64 y, .int .i64 z] 60 := Blk.grow (by repeat (first | with_reducible assumption | (refine Blk.at _ _ ?_; (simp; done)) | with_reducible refine Blk.alloc ?_ _ | with_reducible refine Blk.drew ?_ | with_reducible refine Blk.rowS ?_ _ | with_reducible refine Blk.rowO ?_ _ (by simp))) hb1
 have B1 : Blk w1 (w.heap.size + 1) #[.int .i64 0, .int .i64 0, .int .i64 0] 60 := Blk.grow (by repeat (first | with_reducible assumption | (refine Blk.at _ _ ?_; (simp; done)) | with_reducible refine Blk.alloc ?_ _ | with_reducible refine Blk.drew ?_ | with_reducible refine Blk.rowS ?_ _ | with_reducible refine Blk.rowO ?_ _ (by simp))) hb1
 have hbw : Below w.heap.size w w1 := bel_trans (by repeat (first | with_reducible exact bel_refl _ | with_reducible assumption | with_reducible refine bel_drewN ?_ _ | with_reducible refine bel_drew ?_ | with_reducible refine bel_alloc ?_ _ | with_reducible refine bel_row ?_ ?_ _ | with_reducible refine bel_set ?_ ?_ _ | refine bel_trans ?_ (by with_reducible assumption) | (simp; done) | (simp; omega))) hb1
 have HB := Lib.hid (And.intro B1 (And.intro (B0.rowS #[.int .i64 p, .int .i64 q, .int .i64 o]) hbw))
 have l0 := B0.lt
 have r0 := B0.row
 rw [← B0.rw]
 clear B0 B1 hb hb1 hbw
 go_wp2_with fail
 generalize hw3 : w1.setRow w.heap.size #[.int .i64 p, .int .i64 q, .int .i64 o] = w3 at *
 have hbw3 : Below w.heap.size w w3 := by rw [← hw3]; exact bel_row HB.out.2.2 (Nat.le_refl _) _
 have B13 : Blk w3 (w.heap.size + 1) #[.int .i64 0, .int .i64 0, .int .i64 0] 60 := by rw [← hw3]; exact HB.out.1.rowO _ (by omega)
 have B03 := HB.out.2.1
 have HC := Lib.hid (And.intro hbw3 (And.intro B13 B03))
 clear hw3 r0 l0 hbw3 B13 B03
 have hm := Lib.hid hm
 go_loopw [28] (fun iv wx => ∃ (k : Nat) (c1 c2 c3 : Int), k ≤ r ∧ iv = .int .i64 k ∧ Hid (((-7 ≤ c1 ∧ c1 ≤ 14) ∧ (-7 ≤ c2 ∧ c2 ≤ 14) ∧ (-7 ≤ c3 ∧ c3 ≤ 14)) ∧ RV = spinC (r - k) (c1, c2, c3) ∧ Blk wx w.heap.size #[.int .i64 c1, .int .i64 c2, .int .i64 c3] 60 ∧ Blk wx (w.heap.size + 1) #[.int .i64 0, .int .i64 0, .int .i64 0] 60 ∧ Below w.heap.size w wx)) (fun iv _ => r - (intOf iv).toNat)
 case atStart => exact ⟨0, p, q, o, by omega, rfl, Lib.hid ⟨HG.out, HRV.out, HC.out.2.2, HC.out.2.1, HC.out.1⟩⟩
 case round =>
  clear hq ht1
  obtain ⟨k, c1, c2, c3, hk, rfl, HI⟩ := hrel
  have B := HI.out.2.2.1
  have cB := B.cell; have lB := B.lt; have rB := B.row
  by_cases hlt : k < r
  ·have hd : decide ((k : Int) < (t : Int) % 4) = true := by rw [hm.out]; simp; omega
   have hc := HI.out.1
   rw [← B.rw]
   clear B
   go_wp2_with fail
   go_roundw
   case rel =>
    refine ⟨k + 1, 7 - c2, c1, c3, by omega, by go_num, Lib.hid ⟨by omega, ?_, HI.out.2.2.1.rowS _, HI.out.2.2.2.1.rowO _ (by omega), bel_row HI.out.2.2.2.2 (Nat.le_refl _) _⟩⟩
    rw [HI.out.2.1, show r - k = (r - (k + 1)) + 1 by omega]; rfl
   case measure => simp [intOf]; omega
  ·obtain rfl : k = r := by omega
   have hd : decide ((k : Int) < (t : Int) % 4) = false := by rw [hm.out]; simp
   have B1 := HI.out.2.2.2.1
   have r1 := B1.row; have l1 := B1.lt
   have cF := (B1.rowS #[.int .i64 c1, .int .i64 c2, .int .i64 c3]).cell
   have hb := HI.out.2.2.2.2
   have hRV : RV = (c1, c2, c3) := by rw [HI.out.2.1, Nat.sub_self]; rfl
   have HV := Lib.hid hRV
   clear hRV B
   rw [← B1.rw]
   clear B1
   go_wp2_with fail
   exact bodyPost_ret (v := clV (c1, c2, c3)) (by simp [results, Tryz.results92, go_sem, cF]) rfl ⟨by rw [HV.out], bel_row hb (by omega) _⟩
set_option maxHeartbeats 4000000 in
theorem turned_three {x y z : Int} (hx : -7 ≤ x ∧ x ≤ 14) (hy : -7 ≤ y ∧ y ≤ 14) (hz : -7 ≤ z ∧ z ≤ 14) {t r : Nat} (hr : r < 4) (ht : t = 4 * 3 + r) (w : World) : Calls Tryz.prog 92 #[cV x y z, .int .i64 (t : Int)] w fun e w' => e = .returned (clV (spinC r (x, z, 7 - y))) ∧ Below w.heap.size w w' := by
 have hq : (t : Int) / 4 = 3 := by omega
 have hm : (t : Int) % 4 = (r : Int) := by omega
 have ht1 : (0 : Int) ≤ (t : Int) := by omega
 obtain ⟨RV, hRV⟩ : ∃ RV : Cl, RV = spinC r (x, z, 7 - y) := ⟨_, rfl⟩
 rw [← hRV]
 obtain ⟨p, hp⟩ : ∃ p, p = x := ⟨_, rfl⟩
 obtain ⟨q, hq2⟩ : ∃ p, p = z := ⟨_, rfl⟩
 obtain ⟨o, ho⟩ : ∃ p, p = 7 - y := ⟨_, rfl⟩
 have HG : Hid ((-7 ≤ p ∧ p ≤ 14) ∧ (-7 ≤ q ∧ q ≤ 14) ∧ (-7 ≤ o ∧ o ≤ 14)) := Lib.hid (by omega)
 have HR : Hid (∀ W, Calls Tryz.prog 137 #[.int .i64 0, cV x y z] W fun e w' => e = .returned (cV p q o) ∧ Below W.heap.size W w') := Lib.hid (fun W => by rw [hp, hq2, ho]; exact roll_three hx hy hz W)
 have HRV : Hid (RV = spinC r (p, q, o)) := Lib.hid (by rw [hRV, hp, hq2, ho])
 clear hRV hp hq2 ho ht hx hy hz
 go_enter Tryz.func92, Tryz.ntmps92
 go_wp2_with fail
 refine wp_region_grow 6 [Is (.int .i64 (t : Int)), Is (.int .i64 3), Is (.pointer (some ⟨w.heap.size + 1 + 1, 3, none⟩)), Is (.func (.func 137) #[.int .i64 0] #[]), Is (cV x y z), Is (cV p q o)] (by kernel_rfl) (by kernel_rfl) rfl ⟨fun _ _ _ h _ => h, fun _ _ _ h _ => h, fun _ _ _ h _ => h, fun _ _ _ h _ => h, fun _ _ _ h _ => h, fun _ _ _ h _ => h, trivial⟩ ?_
 simp only [List.take_succ_cons, List.take_zero, List.drop_succ_cons, List.drop_zero]
 refine rel_cons ?_ (fun v0 => ?_)
 ·intro w1 hb hF; have hc := (Grows.cells hb).1; have hf := (Grows.cells hb).2; try simp [facts, Is] at hF
  go_simp
  exact Grows.refl _
 refine rel_cons ?_ (fun v1 => ?_)
 ·intro w1 hb hF; have hc := (Grows.cells hb).1; have hf := (Grows.cells hb).2; try simp [facts, Is] at hF
  go_simp
  first | exact Grows.refl _ | exact ⟨Grows.refl _, by decide⟩
 iterate 3 (refine rel_cons ?_ (fun _ => ?_); · intro w1 hb hF; have hc := (Grows.cells hb).1; have hf := (Grows.cells hb).2; (try simp [facts, Is] at hF); go_simp; exact Grows.refl _)
 refine rel_cons ?_ (fun v5 => ?_)
 ·intro w1 hb hF; have hc := (Grows.cells hb).1; have hf := (Grows.cells hb).2; try simp [facts, Is] at hF
  go_simp
  refine (HR.out _).mono ?_
  rintro e w2 ⟨rfl, hb2⟩
  exact ⟨rfl, hb2⟩
 refine rel_nil ?_
 intro w1 hb hF
 simp [Is, Nat.forall_lt_succ_right] at hF
 simp only [Act.put, List.setIfInBounds_toArray, List.set_cons_succ, List.set_cons_zero, hF]
 clear hF
 have hb1 : Below _ _ w1 := hb
 have B0 : Blk w1 w.heap.size #[.int .i64 x, .int .i64 y, .int .i64 z] 60 := Blk.grow (by repeat (first | with_reducible assumption | (refine Blk.at _ _ ?_; (simp; done)) | with_reducible refine Blk.alloc ?_ _ | with_reducible refine Blk.drew ?_ | with_reducible refine Blk.rowS ?_ _ | with_reducible refine Blk.rowO ?_ _ (by simp))) hb1
 have B1 : Blk w1 (w.heap.size + 1) #[.int .i64 0, .int .i64 0, .int .i64 0] 60 := Blk.grow (by repeat (first | with_reducible assumption | (refine Blk.at _ _ ?_; (simp; done)) | with_reducible refine Blk.alloc ?_ _ | with_reducible refine Blk.drew ?_ | with_reducible refine Blk.rowS ?_ _ | with_reducible refine Blk.rowO ?_ _ (by simp))) hb1
 have hbw : Below w.heap.size w w1 := bel_trans (by repeat (first | with_reducible exact bel_refl _ | with_reducible assumption | with_reducible refine bel_drewN ?_ _ | with_reducible refine bel_drew ?_ | with_reducible refine bel_alloc ?_ _ | with_reducible refine bel_row ?_ ?_ _ | with_reducible refine bel_set ?_ ?_ _ | refine bel_trans ?_ (by with_reducible assumption) | (simp; done) | (simp; omega))) hb1
 have HB := Lib.hid (And.intro B1 (And.intro (B0.rowS #[.int .i64 p, .int .i64 q, .int .i64 o]) hbw))
 have l0 := B0.lt
 have r0 := B0.row
 rw [← B0.rw]
 clear B0 B1 hb hb1 hbw
 go_wp2_with fail
 generalize hw3 : w1.setRow w.heap.size #[.int .i64 p, .int .i64 q, .int .i64 o] = w3 at *
 have hbw3 : Below w.heap.size w w3 := by rw [← hw3]; exact bel_row HB.out.2.2 (Nat.le_refl _) _
 have B13 : Blk w3 (w.heap.size + 1) #[.int .i64 0, .int .i64 0, .int .i64 0] 60 := by rw [← hw3]; exact HB.out.1.rowO _ (by omega)
 have B03 := HB.out.2.1
 have HC := Lib.hid (And.intro hbw3 (And.intro B13 B03))
 clear hw3 r0 l0 hbw3 B13 B03
 have hm := Lib.hid hm
 go_loopw [28] (fun iv wx => ∃ (k : Nat) (c1 c2 c3 : Int), k ≤ r ∧ iv = .int .i64 k ∧ Hid (((-7 ≤ c1 ∧ c1 ≤ 14) ∧ (-7 ≤ c2 ∧ c2 ≤ 14) ∧ (-7 ≤ c3 ∧ c3 ≤ 14)) ∧ RV = spinC (r - k) (c1, c2, c3) ∧ Blk wx w.heap.size #[.int .i64 c1, .int .i64 c2, .int .i64 c3] 60 ∧ Blk wx (w.heap.size + 1) #[.int .i64 0, .int .i64 0, .int .i64 0] 60 ∧ Below w.heap.size w wx)) (fun iv _ => r - (intOf iv).toNat)
 case atStart => exact ⟨0, p, q, o, by omega, rfl, Lib.hid ⟨HG.out, HRV.out, HC.out.2.2, HC.out.2.1, HC.out.1⟩⟩
 case round =>
  clear hq ht1
  obtain ⟨k, c1, c2, c3, hk, rfl, HI⟩ := hrel
  have B := HI.out.2.2.1
  have cB := B.cell; have lB := B.lt; have rB := B.row
  by_cases hlt : k < r
  ·have hd : decide ((k : Int) < (t : Int) % 4) = true := by rw [hm.out]; simp; omega
   have hc := HI.out.1
   rw [← B.rw]
   clear B
   go_wp2_with fail
   go_roundw
   case rel =>
    refine ⟨k + 1, 7 - c2, c1, c3, by omega, by go_num, Lib.hid ⟨by omega, ?_, HI.out.2.2.1.rowS _, HI.out.2.2.2.1.rowO _ (by omega), bel_row HI.out.2.2.2.2 (Nat.le_refl _) _⟩⟩
    rw [HI.out.2.1, show r - k = (r - (k + 1)) + 1 by omega]; rfl
   case measure => simp [intOf]; omega
  ·obtain rfl : k = r := by omega
   have hd : decide ((k : Int) < (t : Int) % 4) = false := by rw [hm.out]; simp
   have B1 := HI.out.2.2.2.1
   have r1 := B1.row; have l1 := B1.lt
   have cF := (B1.rowS #[.int .i64 c1, .int .i64 c2, .int .i64 c3]).cell
   have hb := HI.out.2.2.2.2
   have hRV : RV = (c1, c2, c3) := by rw [HI.out.2.1, Nat.sub_self]; rfl
   have HV := Lib.hid hRV
   clear hRV B
   rw [← B1.rw]
   clear B1
   go_wp2_with fail
   exact bodyPost_ret (v := clV (c1, c2, c3)) (by simp [results, Tryz.results92, go_sem, cF]) rfl ⟨by rw [HV.out], bel_row hb (by omega) _⟩
set_option maxHeartbeats 4000000 in
theorem turned_left {x y z : Int} (hx : -7 ≤ x ∧ x ≤ 14) (hy : -7 ≤ y ∧ y ≤ 14) (hz : -7 ≤ z ∧ z ≤ 14) {t r : Nat} (hr : r < 4) (ht : t = 4 * 4 + r) (w : World) : Calls Tryz.prog 92 #[cV x y z, .int .i64 (t : Int)] w fun e w' => e = .returned (clV (spinC r (z, y, 7 - x))) ∧ Below w.heap.size w w' := by
 have hq : (t : Int) / 4 = 4 := by omega
 have hm : (t : Int) % 4 = (r : Int) := by omega
 have ht1 : (0 : Int) ≤ (t : Int) := by omega
 obtain ⟨RV, hRV⟩ : ∃ RV : Cl, RV = spinC r (z, y, 7 - x) := ⟨_, rfl⟩
 rw [← hRV]
 obtain ⟨p, hp⟩ : ∃ p, p = z := ⟨_, rfl⟩
 obtain ⟨q, hq2⟩ : ∃ p, p = y := ⟨_, rfl⟩
 obtain ⟨o, ho⟩ : ∃ p, p = 7 - x := ⟨_, rfl⟩
 have HG : Hid ((-7 ≤ p ∧ p ≤ 14) ∧ (-7 ≤ q ∧ q ≤ 14) ∧ (-7 ≤ o ∧ o ≤ 14)) := Lib.hid (by omega)
 have HR : Hid (∀ W, Calls Tryz.prog 138 #[.int .i64 0, cV x y z] W fun e w' => e = .returned (cV p q o) ∧ Below W.heap.size W w') := Lib.hid (fun W => by rw [hp, hq2, ho]; exact roll_left hx hy hz W)
 have HRV : Hid (RV = spinC r (p, q, o)) := Lib.hid (by rw [hRV, hp, hq2, ho])
 clear hRV hp hq2 ho ht hx hy hz
 go_enter Tryz.func92, Tryz.ntmps92
 go_wp2_with fail
 refine wp_region_grow 6 [Is (.int .i64 (t : Int)), Is (.int .i64 4), Is (.pointer (some ⟨w.heap.size + 1 + 1, 4, none⟩)), Is (.func (.func 138) #[.int .i64 0] #[]), Is (cV x y z), Is (cV p q o)] (by kernel_rfl) (by kernel_rfl) rfl ⟨fun _ _ _ h _ => h, fun _ _ _ h _ => h, fun _ _ _ h _ => h, fun _ _ _ h _ => h, fun _ _ _ h _ => h, fun _ _ _ h _ => h, trivial⟩ ?_
 simp only [List.take_succ_cons, List.take_zero, List.drop_succ_cons, List.drop_zero]
 refine rel_cons ?_ (fun v0 => ?_)
 ·intro w1 hb hF; have hc := (Grows.cells hb).1; have hf := (Grows.cells hb).2; try simp [facts, Is] at hF
  go_simp
  exact Grows.refl _
 refine rel_cons ?_ (fun v1 => ?_)
 ·intro w1 hb hF; have hc := (Grows.cells hb).1; have hf := (Grows.cells hb).2; try simp [facts, Is] at hF
  go_simp
  first | exact Grows.refl _ | exact ⟨Grows.refl _, by decide⟩
 iterate 3 (refine rel_cons ?_ (fun _ => ?_); · intro w1 hb hF; have hc := (Grows.cells hb).1; have hf := (Grows.cells hb).2; (try simp [facts, Is] at hF); go_simp; exact Grows.refl _)
 refine rel_cons ?_ (fun v5 => ?_)
 ·intro w1 hb hF; have hc := (Grows.cells hb).1; have hf := (Grows.cells hb).2; try simp [facts, Is] at hF
  go_simp
  refine (HR.out _).mono ?_
  rintro e w2 ⟨rfl, hb2⟩
  exact ⟨rfl, hb2⟩
 refine rel_nil ?_
 intro w1 hb hF
 simp [Is, Nat.forall_lt_succ_right] at hF
 simp only [Act.put, List.setIfInBounds_toArray, List.set_cons_succ, List.set_cons_zero, hF]
 clear hF
 have hb1 : Below _ _ w1 := hb
 have B0 : Blk w1 w.heap.size #[.int .i64 x, .int .i64 y, .int .i64 z] 60 := Blk.grow (by repeat (first | with_reducible assumption | (refine Blk.at _ _ ?_; (simp; done)) | with_reducible refine Blk.alloc ?_ _ | with_reducible refine Blk.drew ?_ | with_reducible refine Blk.rowS ?_ _ | with_reducible refine Blk.rowO ?_ _ (by simp))) hb1
 have B1 : Blk w1 (w.heap.size + 1) #[.int .i64 0, .int .i64 0, .int .i64 0] 60 := Blk.grow (by repeat (first | with_reducible assumption | (refine Blk.at _ _ ?_; (simp; done)) | with_reducible refine Blk.alloc ?_ _ | with_reducible refine Blk.drew ?_ | with_reducible refine Blk.rowS ?_ _ | with_reducible refine Blk.rowO ?_ _ (by simp))) hb1
 have hbw : Below w.heap.size w w1 := bel_trans (by repeat (first | with_reducible exact bel_refl _ | with_reducible assumption | with_reducible refine bel_drewN ?_ _ | with_reducible refine bel_drew ?_ | with_reducible refine bel_alloc ?_ _ | with_reducible refine bel_row ?_ ?_ _ | with_reducible refine bel_set ?_ ?_ _ | refine bel_trans ?_ (by with_reducible assumption) | (simp; done) | (simp; omega))) hb1
 have HB := Lib.hid (And.intro B1 (And.intro (B0.rowS #[.int .i64 p, .int .i64 q, .int .i64 o]) hbw))
 have l0 := B0.lt
 have r0 := B0.row
 rw [← B0.rw]
 clear B0 B1 hb hb1 hbw
 go_wp2_with fail
 generalize hw3 : w1.setRow w.heap.size #[.int .i64 p, .int .i64 q, .int .i64 o] = w3 at *
 have hbw3 : Below w.heap.size w w3 := by rw [← hw3]; exact bel_row HB.out.2.2 (Nat.le_refl _) _
 have B13 : Blk w3 (w.heap.size + 1) #[.int .i64 0, .int .i64 0, .int .i64 0] 60 := by rw [← hw3]; exact HB.out.1.rowO _ (by omega)
 have B03 := HB.out.2.1
 have HC := Lib.hid (And.intro hbw3 (And.intro B13 B03))
 clear hw3 r0 l0 hbw3 B13 B03
 have hm := Lib.hid hm
 go_loopw [28] (fun iv wx => ∃ (k : Nat) (c1 c2 c3 : Int), k ≤ r ∧ iv = .int .i64 k ∧ Hid (((-7 ≤ c1 ∧ c1 ≤ 14) ∧ (-7 ≤ c2 ∧ c2 ≤ 14) ∧ (-7 ≤ c3 ∧ c3 ≤ 14)) ∧ RV = spinC (r - k) (c1, c2, c3) ∧ Blk wx w.heap.size #[.int .i64 c1, .int .i64 c2, .int .i64 c3] 60 ∧ Blk wx (w.heap.size + 1) #[.int .i64 0, .int .i64 0, .int .i64 0] 60 ∧ Below w.heap.size w wx)) (fun iv _ => r - (intOf iv).toNat)
 case atStart => exact ⟨0, p, q, o, by omega, rfl, Lib.hid ⟨HG.out, HRV.out, HC.out.2.2, HC.out.2.1, HC.out.1⟩⟩
 case round =>
  clear hq ht1
  obtain ⟨k, c1, c2, c3, hk, rfl, HI⟩ := hrel
  have B := HI.out.2.2.1
  have cB := B.cell; have lB := B.lt; have rB := B.row
  by_cases hlt : k < r
  ·have hd : decide ((k : Int) < (t : Int) % 4) = true := by rw [hm.out]; simp; omega
   have hc := HI.out.1
   rw [← B.rw]
   clear B
   go_wp2_with fail
   go_roundw
   case rel =>
    refine ⟨k + 1, 7 - c2, c1, c3, by omega, by go_num, Lib.hid ⟨by omega, ?_, HI.out.2.2.1.rowS _, HI.out.2.2.2.1.rowO _ (by omega), bel_row HI.out.2.2.2.2 (Nat.le_refl _) _⟩⟩
    rw [HI.out.2.1, show r - k = (r - (k + 1)) + 1 by omega]; rfl
   case measure => simp [intOf]; omega
  ·obtain rfl : k = r := by omega
   have hd : decide ((k : Int) < (t : Int) % 4) = false := by rw [hm.out]; simp
   have B1 := HI.out.2.2.2.1
   have r1 := B1.row; have l1 := B1.lt
   have cF := (B1.rowS #[.int .i64 c1, .int .i64 c2, .int .i64 c3]).cell
   have hb := HI.out.2.2.2.2
   have hRV : RV = (c1, c2, c3) := by rw [HI.out.2.1, Nat.sub_self]; rfl
   have HV := Lib.hid hRV
   clear hRV B
   rw [← B1.rw]
   clear B1
   go_wp2_with fail
   exact bodyPost_ret (v := clV (c1, c2, c3)) (by simp [results, Tryz.results92, go_sem, cF]) rfl ⟨by rw [HV.out], bel_row hb (by omega) _⟩
set_option maxHeartbeats 4000000 in
theorem turned_right {x y z : Int} (hx : -7 ≤ x ∧ x ≤ 14) (hy : -7 ≤ y ∧ y ≤ 14) (hz : -7 ≤ z ∧ z ≤ 14) {t r : Nat} (hr : r < 4) (ht : t = 4 * 5 + r) (w : World) : Calls Tryz.prog 92 #[cV x y z, .int .i64 (t : Int)] w fun e w' => e = .returned (clV (spinC r (7 - z, y, x))) ∧ Below w.heap.size w w' := by
 have hq : (t : Int) / 4 = 5 := by omega
 have hm : (t : Int) % 4 = (r : Int) := by omega
 have ht1 : (0 : Int) ≤ (t : Int) := by omega
 obtain ⟨RV, hRV⟩ : ∃ RV : Cl, RV = spinC r (7 - z, y, x) := ⟨_, rfl⟩
 rw [← hRV]
 obtain ⟨p, hp⟩ : ∃ p, p = 7 - z := ⟨_, rfl⟩
 obtain ⟨q, hq2⟩ : ∃ p, p = y := ⟨_, rfl⟩
 obtain ⟨o, ho⟩ : ∃ p, p = x := ⟨_, rfl⟩
 have HG : Hid ((-7 ≤ p ∧ p ≤ 14) ∧ (-7 ≤ q ∧ q ≤ 14) ∧ (-7 ≤ o ∧ o ≤ 14)) := Lib.hid (by omega)
 have HR : Hid (∀ W, Calls Tryz.prog 139 #[.int .i64 0, cV x y z] W fun e w' => e = .returned (cV p q o) ∧ Below W.heap.size W w') := Lib.hid (fun W => by rw [hp, hq2, ho]; exact roll_right hx hy hz W)
 have HRV : Hid (RV = spinC r (p, q, o)) := Lib.hid (by rw [hRV, hp, hq2, ho])
 clear hRV hp hq2 ho ht hx hy hz
 go_enter Tryz.func92, Tryz.ntmps92
 go_wp2_with fail
 refine wp_region_grow 6 [Is (.int .i64 (t : Int)), Is (.int .i64 5), Is (.pointer (some ⟨w.heap.size + 1 + 1, 5, none⟩)), Is (.func (.func 139) #[.int .i64 0] #[]), Is (cV x y z), Is (cV p q o)] (by kernel_rfl) (by kernel_rfl) rfl ⟨fun _ _ _ h _ => h, fun _ _ _ h _ => h, fun _ _ _ h _ => h, fun _ _ _ h _ => h, fun _ _ _ h _ => h, fun _ _ _ h _ => h, trivial⟩ ?_
 simp only [List.take_succ_cons, List.take_zero, List.drop_succ_cons, List.drop_zero]
 refine rel_cons ?_ (fun v0 => ?_)
 ·intro w1 hb hF; have hc := (Grows.cells hb).1; have hf := (Grows.cells hb).2; try simp [facts, Is] at hF
  go_simp
  exact Grows.refl _
 refine rel_cons ?_ (fun v1 => ?_)
 ·intro w1 hb hF; have hc := (Grows.cells hb).1; have hf := (Grows.cells hb).2; try simp [facts, Is] at hF
  go_simp
  first | exact Grows.refl _ | exact ⟨Grows.refl _, by decide⟩
 iterate 3 (refine rel_cons ?_ (fun _ => ?_); · intro w1 hb hF; have hc := (Grows.cells hb).1; have hf := (Grows.cells hb).2; (try simp [facts, Is] at hF); go_simp; exact Grows.refl _)
 refine rel_cons ?_ (fun v5 => ?_)
 ·intro w1 hb hF; have hc := (Grows.cells hb).1; have hf := (Grows.cells hb).2; try simp [facts, Is] at hF
  go_simp
  refine (HR.out _).mono ?_
  rintro e w2 ⟨rfl, hb2⟩
  exact ⟨rfl, hb2⟩
 refine rel_nil ?_
 intro w1 hb hF
 simp [Is, Nat.forall_lt_succ_right] at hF
 simp only [Act.put, List.setIfInBounds_toArray, List.set_cons_succ, List.set_cons_zero, hF]
 clear hF
 have hb1 : Below _ _ w1 := hb
 have B0 : Blk w1 w.heap.size #[.int .i64 x, .int .i64 y, .int .i64 z] 60 := Blk.grow (by repeat (first | with_reducible assumption | (refine Blk.at _ _ ?_; (simp; done)) | with_reducible refine Blk.alloc ?_ _ | with_reducible refine Blk.drew ?_ | with_reducible refine Blk.rowS ?_ _ | with_reducible refine Blk.rowO ?_ _ (by simp))) hb1
 have B1 : Blk w1 (w.heap.size + 1) #[.int .i64 0, .int .i64 0, .int .i64 0] 60 := Blk.grow (by repeat (first | with_reducible assumption | (refine Blk.at _ _ ?_; (simp; done)) | with_reducible refine Blk.alloc ?_ _ | with_reducible refine Blk.drew ?_ | with_reducible refine Blk.rowS ?_ _ | with_reducible refine Blk.rowO ?_ _ (by simp))) hb1
 have hbw : Below w.heap.size w w1 := bel_trans (by repeat (first | with_reducible exact bel_refl _ | with_reducible assumption | with_reducible refine bel_drewN ?_ _ | with_reducible refine bel_drew ?_ | with_reducible refine bel_alloc ?_ _ | with_reducible refine bel_row ?_ ?_ _ | with_reducible refine bel_set ?_ ?_ _ | refine bel_trans ?_ (by with_reducible assumption) | (simp; done) | (simp; omega))) hb1
 have HB := Lib.hid (And.intro B1 (And.intro (B0.rowS #[.int .i64 p, .int .i64 q, .int .i64 o]) hbw))
 have l0 := B0.lt
 have r0 := B0.row
 rw [← B0.rw]
 clear B0 B1 hb hb1 hbw
 go_wp2_with fail
 generalize hw3 : w1.setRow w.heap.size #[.int .i64 p, .int .i64 q, .int .i64 o] = w3 at *
 have hbw3 : Below w.heap.size w w3 := by rw [← hw3]; exact bel_row HB.out.2.2 (Nat.le_refl _) _
 have B13 : Blk w3 (w.heap.size + 1) #[.int .i64 0, .int .i64 0, .int .i64 0] 60 := by rw [← hw3]; exact HB.out.1.rowO _ (by omega)
 have B03 := HB.out.2.1
 have HC := Lib.hid (And.intro hbw3 (And.intro B13 B03))
 clear hw3 r0 l0 hbw3 B13 B03
 have hm := Lib.hid hm
 go_loopw [28] (fun iv wx => ∃ (k : Nat) (c1 c2 c3 : Int), k ≤ r ∧ iv = .int .i64 k ∧ Hid (((-7 ≤ c1 ∧ c1 ≤ 14) ∧ (-7 ≤ c2 ∧ c2 ≤ 14) ∧ (-7 ≤ c3 ∧ c3 ≤ 14)) ∧ RV = spinC (r - k) (c1, c2, c3) ∧ Blk wx w.heap.size #[.int .i64 c1, .int .i64 c2, .int .i64 c3] 60 ∧ Blk wx (w.heap.size + 1) #[.int .i64 0, .int .i64 0, .int .i64 0] 60 ∧ Below w.heap.size w wx)) (fun iv _ => r - (intOf iv).toNat)
 case atStart => exact ⟨0, p, q, o, by omega, rfl, Lib.hid ⟨HG.out, HRV.out, HC.out.2.2, HC.out.2.1, HC.out.1⟩⟩
 case round =>
  clear hq ht1
  obtain ⟨k, c1, c2, c3, hk, rfl, HI⟩ := hrel
  have B := HI.out.2.2.1
  have cB := B.cell; have lB := B.lt; have rB := B.row
  by_cases hlt : k < r
  ·have hd : decide ((k : Int) < (t : Int) % 4) = true := by rw [hm.out]; simp; omega
   have hc := HI.out.1
   rw [← B.rw]
   clear B
   go_wp2_with fail
   go_roundw
   case rel =>
    refine ⟨k + 1, 7 - c2, c1, c3, by omega, by go_num, Lib.hid ⟨by omega, ?_, HI.out.2.2.1.rowS _, HI.out.2.2.2.1.rowO _ (by omega), bel_row HI.out.2.2.2.2 (Nat.le_refl _) _⟩⟩
    rw [HI.out.2.1, show r - k = (r - (k + 1)) + 1 by omega]; rfl
   case measure => simp [intOf]; omega
  ·obtain rfl : k = r := by omega
   have hd : decide ((k : Int) < (t : Int) % 4) = false := by rw [hm.out]; simp
   have B1 := HI.out.2.2.2.1
   have r1 := B1.row; have l1 := B1.lt
   have cF := (B1.rowS #[.int .i64 c1, .int .i64 c2, .int .i64 c3]).cell
   have hb := HI.out.2.2.2.2
   have hRV : RV = (c1, c2, c3) := by rw [HI.out.2.1, Nat.sub_self]; rfl
   have HV := Lib.hid hRV
   clear hRV B
   rw [← B1.rw]
   clear B1
   go_wp2_with fail
   exact bodyPost_ret (v := clV (c1, c2, c3)) (by simp [results, Tryz.results92, go_sem, cF]) rfl ⟨by rw [HV.out], bel_row hb (by omega) _⟩
theorem turned_wide {c : Cl} (h : (-7 ≤ c.1 ∧ c.1 ≤ 14) ∧ (-7 ≤ c.2.1 ∧ c.2.1 ≤ 14) ∧ (-7 ≤ c.2.2 ∧ c.2.2 ≤ 14)) {t : Nat} (ht : t < 24) (w : World) : Calls Tryz.prog 92 #[clV c, .int .i64 (t : Int)] w fun e w' => e = .returned (clV (turnC t c)) ∧ Below w.heap.size w w' := by
 obtain ⟨x, y, z⟩ := c
 simp only at h
 obtain ⟨h1, h2, h3⟩ := h
 have hr : t % 4 < 4 := by omega
 unfold turnC
 obtain h | h | h | h | h | h : t / 4 = 0 ∨ t / 4 = 1 ∨ t / 4 = 2 ∨ t / 4 = 3 ∨ t / 4 = 4 ∨ t / 4 = 5 := by omega
 ·rw [h]; exact turned_none h1 h2 h3 hr (by omega) w
 ·rw [h]; exact turned_one h1 h2 h3 hr (by omega) w
 ·rw [h]; exact turned_two h1 h2 h3 hr (by omega) w
 ·rw [h]; exact turned_three h1 h2 h3 hr (by omega) w
 ·rw [h]; exact turned_left h1 h2 h3 hr (by omega) w
 ·rw [h]; exact turned_right h1 h2 h3 hr (by omega) w
theorem turned_spec {c : Cl} (hg : inG c = true) {t : Nat} (ht : t < 24) (w : World) : Calls Tryz.prog 92 #[clV c, .int .i64 (t : Int)] w fun e w' => e = .returned (clV (turnC t c)) ∧ Below w.heap.size w w' := by
 have hG := inG_iff.1 hg
 exact turned_wide (by omega) ht w
end Go.Proofs.YtkfimbonmnoglaaGreatDoor
end
