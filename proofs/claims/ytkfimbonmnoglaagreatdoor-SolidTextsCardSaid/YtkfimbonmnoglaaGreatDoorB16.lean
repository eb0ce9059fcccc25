import Derived.Test.YtkfimbonmnoglaaGreatDoorB12
import Derived.Deep.Cut
/-
  Given contracts of functions of the program, and laws for them, one behind the other.
-/
set_option linter.unusedVariables false
set_option linter.unusedSimpArgs false
set_option linter.unusedSectionVars false
section
namespace Go.Proofs.YtkfimbonmnoglaaGreatDoor
open Go.RowKit Go.Rel Go.Draw Go.Solid
set_option maxRecDepth 100000
theorem turn_bounds (t : Nat) {c : Cl} (h : ∀ k, -7 ≤ co c k ∧ co c k ≤ 14) : ∀ k, -7 ≤ co (turnC t c) k ∧ co (turnC t c) k ≤ 14 := by
 have key : ∀ a : Ax, -7 ≤ apA a c ∧ apA a c ≤ 14 := fun a => by
  have := h a.1
  unfold apA
  split <;> omega
 rw [turn_eq]
 intro k
 match k with
 | 0 => exact key _
 | 1 => exact key _
 | _ + 2 => exact key _
theorem all_co {c : Cl} {a b : Int} (h : ∀ k, a ≤ co c k ∧ co c k ≤ b) : (a ≤ c.1 ∧ c.1 ≤ b) ∧ (a ≤ c.2.1 ∧ c.2.1 ≤ b) ∧ (a ≤ c.2.2 ∧ c.2.2 ≤ b) := ⟨h 0, h 1, h 2⟩
abbrev tripV (d : Cl) : Value := .tuple #[.int .i64 d.1, .int .i64 d.2.1, .int .i64 d.2.2]
attribute [local irreducible] turnC
set_option maxHeartbeats 4000000 in
theorem origin_spec {t : Nat} (ht : t < 24) {x y z : Int} (hd : shortB (x, y, z) = true) (w : World) : Calls Tryz.prog 89 #[.int .i64 (t : Int), .int .i64 x, .int .i64 y, .int .i64 z] w fun e w' => e = .returned (tripV (movT t (x, y, z))) ∧ Below w.heap.size w w' := by
 have hs := shortB_iff.1 hd
 have hb0 : ∀ k, -7 ≤ co ((0, 0, 0) : Cl) k ∧ co ((0, 0, 0) : Cl) k ≤ 14 := fun k => by rw [co_zero]; omega
 have hbd : ∀ k, -7 ≤ co ((x, y, z) : Cl) k ∧ co ((x, y, z) : Cl) k ≤ 14 := fun k => by have := hs k; omega
 have H0 := Lib.hid fun W => turned_wide (all_co hb0) ht W
 have H1 := Lib.hid fun W => turned_wide (all_co hbd) ht W
 have ho := all_co (turn_bounds t hb0)
 have hc := all_co (turn_bounds t hbd)
 have hO := origin_eq t (x, y, z)
 obtain ⟨M, hM⟩ : ∃ M, M = movT t (x, y, z) := ⟨_, rfl⟩
 rw [← hM] at hO ⊢
 obtain ⟨o, hoo⟩ : ∃ o, o = turnC t (0, 0, 0) := ⟨_, rfl⟩
 obtain ⟨c, hcc⟩ : ∃ c, c = turnC t (x, y, z) := ⟨_, rfl⟩
 rw [← hoo] at ho H0 hO
 rw [← hcc] at hc H1 hO
 obtain ⟨o1, o2, o3⟩ := o
 obtain ⟨c1, c2, c3⟩ := c
 simp only at ho hc
 have HO := Lib.hid hO
 have hbx : -7 ≤ x ∧ x ≤ 7 := hs 0
 clear hoo hcc hM hO hb0 hbd hs hd
 go_enter Tryz.func89, Tryz.ntmps89
 go_wp2_with fail
 refine (H0.out _).mono ?_
 rintro e w1 ⟨rfl, hb1⟩
 have HW1 := Lib.hid hb1; clear hb1
 go_wp2_with fail
 refine (H1.out _).mono ?_
 rintro e w2 ⟨rfl, hb2⟩
 have HW2 := Lib.hid (bel_trans HW1.out hb2); clear hb2
 obtain ⟨w4, hw4⟩ : ∃ w4, w4 = (w2.alloc (.cells #[.int .i64 o1, .int .i64 o2, .int .i64 o3] 60)).alloc (.cells #[.int .i64 c1, .int .i64 c2, .int .i64 c3] 60) := ⟨_, rfl⟩
 have B0 : Blk w4 w2.heap.size #[.int .i64 o1, .int .i64 o2, .int .i64 o3] 60 := by rw [hw4]; exact (by repeat (first | with_reducible assumption | (refine Blk.at _ _ ?_; (simp; done)) | with_reducible refine Blk.alloc ?_ _ | with_reducible refine Blk.drew ?_ | with_reducible refine Blk.rowS ?_ _ | with_reducible refine Blk.rowO ?_ _ (by simp)))
 have B1 : Blk w4 (w2.heap.size + 1) #[.int .i64 c1, .int .i64 c2, .int .i64 c3] 60 := by rw [hw4]; exact Blk.at _ _ (by simp)
 have hbw : Below w.heap.size w w4 := by rw [hw4]; exact bel_alloc (bel_alloc HW2.out _) _
 have HB := Lib.hid (And.intro B0 (And.intro B1 hbw))
 have HW4 := Lib.hid hw4
 clear B0 B1 hbw hw4
 go_upto_region 2 with fail
 rw [← HW4.out]
 have hq1 : IntKind.i64.wrap (c1 - o1) = c1 - o1 := IntWalk.i64_in _ ⟨by omega, by omega⟩
 have hq2 : IntKind.i64.wrap (c2 - o2) = c2 - o2 := IntWalk.i64_in _ ⟨by omega, by omega⟩
 have hq3 : IntKind.i64.wrap (c3 - o3) = c3 - o3 := IntWalk.i64_in _ ⟨by omega, by omega⟩
 refine wp_region_val Grows (fun _ _ _ => True) [Is (.pointer (some ⟨w2.heap.size + 1, 0, none⟩)), Is (.int .i64 c1), Is (.pointer (some ⟨w2.heap.size, 0, none⟩)), Is (.int .i64 o1), Is (.int .i64 (c1 - o1)), Is (.pointer (some ⟨w2.heap.size + 1, 1, none⟩)), Is (.int .i64 c2), Is (.pointer (some ⟨w2.heap.size, 1, none⟩)), Is (.int .i64 o2), Is (.int .i64 (c2 - o2)), Is (.pointer (some ⟨w2.heap.size + 1, 2, none⟩)), Is (.int .i64 c3), Is (.pointer (some ⟨w2.heap.size, 2, none⟩)), Is (.int .i64 o3), Is (.int .i64 (c3 - o3)), Is (.int .i64 (c1 - o1)), Is (.int .i64 (c2 - o2)), Is (.int .i64 (c3 - o3))] (by kernel_rfl) (by kernel_rfl) rfl Grows.refl (fun _ _ _ => Grows.trans) (stable_mem ⟨fun _ _ _ h _ => h, fun _ _ _ h _ => h, fun _ _ _ h _ => h, fun _ _ _ h _ => h, fun _ _ _ h _ => h, fun _ _ _ h _ => h, fun _ _ _ h _ => h, fun _ _ _ h _ => h, fun _ _ _ h _ => h, fun _ _ _ h _ => h, fun _ _ _ h _ => h, fun _ _ _ h _ => h, fun _ _ _ h _ => h, fun _ _ _ h _ => h, fun _ _ _ h _ => h, fun _ _ _ h _ => h, fun _ _ _ h _ => h, fun _ _ _ h _ => h, trivial⟩) w4 (Below.drew (Below.refl _ _)) trivial ?_
 refine val_cons ?_ (fun v0 => ?_)
 ·intro L vs w1 hvs hat hb hI hF; try simp [factsI, Region.binds, Is] at hF
  have hc := (Grows.cells hb).1
  clear hI
  go_simp
  try simp [upd]
  try first | exact Grows.refl _ | exact trivial | exact ⟨Grows.refl _, trivial⟩
 refine val_cons ?_ (fun v1 => ?_)
 ·intro L vs w1 hvs hat hb hI hF; try simp [factsI, Region.binds, Is] at hF
  have D := HB.out.2.1.grow (show Below _ _ _ from hb); have cD := D.cell; have lD := D.lt; clear D
  go_simp
  first | exact Grows.refl _ | exact ⟨Grows.refl _, trivial⟩
 refine val_cons ?_ (fun v2 => ?_)
 ·intro L vs w1 hvs hat hb hI hF; try simp [factsI, Region.binds, Is] at hF
  have hc := (Grows.cells hb).1
  clear hI
  go_simp
  try simp [upd]
  try first | exact Grows.refl _ | exact trivial | exact ⟨Grows.refl _, trivial⟩
 refine val_cons ?_ (fun v3 => ?_)
 ·intro L vs w1 hvs hat hb hI hF; try simp [factsI, Region.binds, Is] at hF
  have D := HB.out.1.grow (show Below _ _ _ from hb); have cD := D.cell; have lD := D.lt; clear D
  go_simp
  first | exact Grows.refl _ | exact ⟨Grows.refl _, trivial⟩
 refine val_cons ?_ (fun v4 => ?_)
 ·intro L vs w1 hvs hat hb hI hF; try simp [factsI, Region.binds, Is] at hF
  have hc := (Grows.cells hb).1
  clear hI
  go_simp
  try simp [upd]
  try first | exact Grows.refl _ | exact trivial | exact ⟨Grows.refl _, trivial⟩
 refine val_cons ?_ (fun v5 => ?_)
 ·intro L vs w1 hvs hat hb hI hF; try simp [factsI, Region.binds, Is] at hF
  have hc := (Grows.cells hb).1
  clear hI
  go_simp
  try simp [upd]
  try first | exact Grows.refl _ | exact trivial | exact ⟨Grows.refl _, trivial⟩
 refine val_cons ?_ (fun v6 => ?_)
 ·intro L vs w1 hvs hat hb hI hF; try simp [factsI, Region.binds, Is] at hF
  have D := HB.out.2.1.grow (show Below _ _ _ from hb); have cD := D.cell; have lD := D.lt; clear D
  go_simp
  first | exact Grows.refl _ | exact ⟨Grows.refl _, trivial⟩
 refine val_cons ?_ (fun v7 => ?_)
 ·intro L vs w1 hvs hat hb hI hF; try simp [factsI, Region.binds, Is] at hF
  have hc := (Grows.cells hb).1
  clear hI
  go_simp
  try simp [upd]
  try first | exact Grows.refl _ | exact trivial | exact ⟨Grows.refl _, trivial⟩
 refine val_cons ?_ (fun v8 => ?_)
 ·intro L vs w1 hvs hat hb hI hF; try simp [factsI, Region.binds, Is] at hF
  have D := HB.out.1.grow (show Below _ _ _ from hb); have cD := D.cell; have lD := D.lt; clear D
  go_simp
  first | exact Grows.refl _ | exact ⟨Grows.refl _, trivial⟩
 refine val_cons ?_ (fun v9 => ?_)
 ·intro L vs w1 hvs hat hb hI hF; try simp [factsI, Region.binds, Is] at hF
  have hc := (Grows.cells hb).1
  clear hI
  go_simp
  try simp [upd]
  try first | exact Grows.refl _ | exact trivial | exact ⟨Grows.refl _, trivial⟩
 refine val_cons ?_ (fun v10 => ?_)
 ·intro L vs w1 hvs hat hb hI hF; try simp [factsI, Region.binds, Is] at hF
  have hc := (Grows.cells hb).1
  clear hI
  go_simp
  try simp [upd]
  try first | exact Grows.refl _ | exact trivial | exact ⟨Grows.refl _, trivial⟩
 refine val_cons ?_ (fun v11 => ?_)
 ·intro L vs w1 hvs hat hb hI hF; try simp [factsI, Region.binds, Is] at hF
  have D := HB.out.2.1.grow (show Below _ _ _ from hb); have cD := D.cell; have lD := D.lt; clear D
  go_simp
  first | exact Grows.refl _ | exact ⟨Grows.refl _, trivial⟩
 refine val_cons ?_ (fun v12 => ?_)
 ·intro L vs w1 hvs hat hb hI hF; try simp [factsI, Region.binds, Is] at hF
  have hc := (Grows.cells hb).1
  clear hI
  go_simp
  try simp [upd]
  try first | exact Grows.refl _ | exact trivial | exact ⟨Grows.refl _, trivial⟩
 refine val_cons ?_ (fun v13 => ?_)
 ·intro L vs w1 hvs hat hb hI hF; try simp [factsI, Region.binds, Is] at hF
  have D := HB.out.1.grow (show Below _ _ _ from hb); have cD := D.cell; have lD := D.lt; clear D
  go_simp
  first | exact Grows.refl _ | exact ⟨Grows.refl _, trivial⟩
 refine val_cons ?_ (fun v14 => ?_)
 ·intro L vs w1 hvs hat hb hI hF; try simp [factsI, Region.binds, Is] at hF
  have hc := (Grows.cells hb).1
  clear hI
  go_simp
  try simp [upd]
  try first | exact Grows.refl _ | exact trivial | exact ⟨Grows.refl _, trivial⟩
 refine val_cons ?_ (fun v15 => ?_)
 ·intro L vs w1 hvs hat hb hI hF; try simp [factsI, Region.binds, Is] at hF
  have hc := (Grows.cells hb).1
  clear hI
  go_simp
  try simp [upd]
  try first | exact Grows.refl _ | exact trivial | exact ⟨Grows.refl _, trivial⟩
 refine val_cons ?_ (fun v16 => ?_)
 ·intro L vs w1 hvs hat hb hI hF; try simp [factsI, Region.binds, Is] at hF
  have hc := (Grows.cells hb).1
  clear hI
  go_simp
  try simp [upd]
  try first | exact Grows.refl _ | exact trivial | exact ⟨Grows.refl _, trivial⟩
 refine val_cons ?_ (fun v17 => ?_)
 ·intro L vs w1 hvs hat hb hI hF; try simp [factsI, Region.binds, Is] at hF
  have hc := (Grows.cells hb).1
  clear hI
  go_simp
  try simp [upd]
  try first | exact Grows.refl _ | exact trivial | exact ⟨Grows.refl _, trivial⟩
 refine val_nil ?_
 intro vs w1 hvs hb hI hF
 simp [Is, Nat.forall_lt_succ_right] at hF
 simp only [Act.put, List.setIfInBounds_toArray, List.set_cons_succ, List.set_cons_zero, hF]
 clear hF
 have hbw := bel_trans HB.out.2.2 hb
 go_wp2_with fail
 exact bodyPost_ret (v := .tuple #[.int .i64 (c1 - o1), .int .i64 (c2 - o2), .int .i64 (c3 - o3)]) (by simp [results, Tryz.results89, go_sem]) rfl ⟨by rw [← HO.out]; rfl, hbw⟩
end Go.Proofs.YtkfimbonmnoglaaGreatDoor
end
section
namespace Go.Proofs.YtkfimbonmnoglaaGreatDoor
open Go.RowKit Go.Rel Go.Draw Go.Solid
set_option maxRecDepth 100000
attribute [local irreducible] turnC
set_option maxHeartbeats 4000000 in
theorem then1_spec {t u : Nat} (ht : t < 24) (hu : u < 24) {c : Cl} (hc : inG c = true) {x y z x2 y2 z2 : Int} {bm bn : Nat} (w : World) (Bm : Blk w bm #[.int .i64 (t : Int), .int .i64 x, .int .i64 y, .int .i64 z] 23) (Bn : Blk w bn #[.int .i64 (u : Int), .int .i64 x2, .int .i64 y2, .int .i64 z2] 23) :
  Calls Tryz.prog 91 #[clV c, .pointer (some ⟨bm, 0, none⟩), .pointer (some ⟨bn, 0, none⟩)] w fun e w' => e = .returned (clV (turnC u (turnC t c))) ∧ Below w.heap.size w w' := by
 have H1 := Lib.hid fun W => turned_spec hc ht W
 have hc2 : inG (turnC t c) = true := by rw [Go.Solid.turn_in]; exact hc
 have H2 := Lib.hid fun W => turned_spec hc2 hu W
 obtain ⟨d, hd⟩ : ∃ d, d = turnC t c := ⟨_, rfl⟩
 rw [← hd] at H1 H2 ⊢
 obtain ⟨f, he⟩ : ∃ e, e = turnC u d := ⟨_, rfl⟩
 rw [← he] at H2 ⊢
 clear hc2 hd he
 have HB := Lib.hid (And.intro Bm Bn)
 have lm := Bm.lt; have ln := Bn.lt
 clear Bm Bn
 go_enter Tryz.func91, Tryz.ntmps91
 go_wp2_with fail
 obtain ⟨w4, hw4⟩ : ∃ w4, w4 = (w.alloc (.cells #[.int .i64 c.1, .int .i64 c.2.1, .int .i64 c.2.2] 60)).alloc (.cells #[.int .i64 0, .int .i64 0, .int .i64 0] 60) := ⟨_, rfl⟩
 have C0 : Blk w4 w.heap.size #[.int .i64 c.1, .int .i64 c.2.1, .int .i64 c.2.2] 60 := by rw [hw4]; exact (by repeat (first | with_reducible assumption | (refine Blk.at _ _ ?_; (simp; done)) | with_reducible refine Blk.alloc ?_ _ | with_reducible refine Blk.drew ?_ | with_reducible refine Blk.rowS ?_ _ | with_reducible refine Blk.rowO ?_ _ (by simp)))
 have C1 : Blk w4 (w.heap.size + 1) #[.int .i64 0, .int .i64 0, .int .i64 0] 60 := by rw [hw4]; exact Blk.at _ _ (by simp)
 have hbw : Below w.heap.size w w4 := by rw [hw4]; exact (by repeat (first | with_reducible exact bel_refl _ | with_reducible assumption | with_reducible refine bel_drewN ?_ _ | with_reducible refine bel_drew ?_ | with_reducible refine bel_alloc ?_ _ | with_reducible refine bel_row ?_ ?_ _ | with_reducible refine bel_set ?_ ?_ _ | refine bel_trans ?_ (by with_reducible assumption) | (simp; done) | (simp; omega)))
 have HC := Lib.hid (And.intro C0 (And.intro C1 (And.intro hbw (And.intro (HB.out.1.grow hbw) (HB.out.2.grow hbw)))))
 have lm4 := HC.out.2.2.2.1.lt; have ln4 := HC.out.2.2.2.2.lt
 have c0 := HC.out.1.cell; have l0 := HC.out.1.lt; have cm := HC.out.2.2.2.1.cell; have cn := HC.out.2.2.2.2.cell
 rw [← hw4]
 clear C0 C1 hbw hw4
 refine wp_region_grow 7 [Is (clV c), Is (.pointer (some ⟨bm, 0, none⟩)), Is (.int .i64 (t : Int)), Is (clV d), Is (.pointer (some ⟨bn, 0, none⟩)), Is (.int .i64 (u : Int)), Is (clV f)] (by kernel_rfl) (by kernel_rfl) rfl ⟨fun _ _ _ h _ => h, fun _ _ _ h _ => h, fun _ _ _ h _ => h, fun _ _ _ h _ => h, fun _ _ _ h _ => h, fun _ _ _ h _ => h, fun _ _ _ h _ => h, trivial⟩ ?_
 simp only [List.take_succ_cons, List.take_zero, List.drop_succ_cons, List.drop_zero]
 iterate 3 (refine rel_cons ?_ (fun _ => ?_); · intro w1 hb hF; have hc := (Grows.cells hb).1; have hf := (Grows.cells hb).2; (try simp [facts, Is] at hF); go_simp; exact Grows.refl _)
 refine rel_cons ?_ (fun v3 => ?_)
 ·intro w1 hb hF; have hc := (Grows.cells hb).1; have hf := (Grows.cells hb).2; try simp [facts, Is] at hF
  go_simp
  refine (H1.out _).mono ?_
  rintro e w2 ⟨rfl, hb2⟩
  exact ⟨rfl, hb2⟩
 iterate 2 (refine rel_cons ?_ (fun _ => ?_); · intro w1 hb hF; have hc := (Grows.cells hb).1; have hf := (Grows.cells hb).2; (try simp [facts, Is] at hF); go_simp; exact Grows.refl _)
 refine rel_cons ?_ (fun v6 => ?_)
 ·intro w1 hb hF; have hc := (Grows.cells hb).1; have hf := (Grows.cells hb).2; try simp [facts, Is] at hF
  go_simp
  refine (H2.out _).mono ?_
  rintro e w2 ⟨rfl, hb2⟩
  exact ⟨rfl, hb2⟩
 refine rel_nil ?_
 intro w1 hb hF
 simp [Is, Nat.forall_lt_succ_right] at hF
 simp only [Act.put, List.setIfInBounds_toArray, List.set_cons_succ, List.set_cons_zero, hF]
 clear hF
 have hb0 : Below _ _ w1 := hb
 have C1 := HC.out.2.1.grow hb0
 have hbw := bel_trans HC.out.2.2.1 hb0
 have r1 := C1.row; have l1 := C1.lt
 have cF := (C1.rowS #[.int .i64 f.1, .int .i64 f.2.1, .int .i64 f.2.2]).cell
 have hb5 := bel_row hbw (g := w.heap.size + 1) (by omega) #[.int .i64 f.1, .int .i64 f.2.1, .int .i64 f.2.2]
 clear hb hb0 c0 cm cn
 rw [← C1.rw]
 clear C1
 go_wp2_with fail
 exact bodyPost_ret (v := clV f) (by simp [results, Tryz.results91, go_sem, cF]) rfl ⟨rfl, hb5⟩
def cornC : Nat → Cl
 | 0 => (1, 0, 0)
 | 1 => (0, 1, 0)
 | _ + 2 => (0, 0, 1)
theorem cornC_in (k : Nat) : inG (cornC k) = true := by
 match k with
 | 0 => rfl
 | 1 => rfl
 | _ + 2 => rfl
theorem idxC {k : Nat} (hk : k < 3) (w : World) : (Instr.index 125 (.agg #[.int .i64 1, .int .i64 0, .int .i64 0, .int .i64 0, .int .i64 1, .int .i64 0, .int .i64 0, .int .i64 0, .int .i64 1]) (.int .i64 (k : Int))).run Tryz.prog w = .ok (clV (cornC k)) w := by
 obtain rfl | rfl | rfl : k = 0 ∨ k = 1 ∨ k = 2 := by omega
 all_goals kernel_rfl
def foundP (to : Cl → Cl) (t k : Nat) : Bool := (List.range k).all fun j => turnC t (cornC j) == to (cornC j)
theorem foundP_succ (to : Cl → Cl) (t k : Nat) : foundP to t (k + 1) = (foundP to t k && (turnC t (cornC k) == to (cornC k))) := by
 unfold foundP
 rw [List.range_succ, List.all_append]; simp
theorem foundP_end (to : Cl → Cl) (t : Nat) : foundP to t 3 = foundB to t := by
 unfold foundP foundB
 simp [List.range, List.range.loop, cornC, Bool.and_assoc]
theorem foundB_mul {t u v : Nat} (ht : t < 24) (hu : u < 24) (hv : v < 24) : foundB (fun c => turnC u (turnC t c)) v = (v == mulT t u) := by
 have h1 := List.all_eq_true.1 (List.all_eq_true.1 told_all v (List.mem_range.2 hv)) (mulT t u) (List.mem_range.2 (mul_lt ht hu))
 unfold foundB
 simp only [turn_mul ht hu]
 exact beq_iff_eq.1 h1
theorem cell_if {α : Sort _} (d f : Cl) (A : Bool → α) : (if d.1 = f.1 then if d.2.1 = f.2.1 then if d.2.2 = f.2.2 then A true else A false else A false else A false) = A (d == f) := by
 by_cases h1 : d.1 = f.1
 ·rw [if_pos h1]
  by_cases h2 : d.2.1 = f.2.1
  ·rw [if_pos h2]
   by_cases h3 : d.2.2 = f.2.2
   ·rw [if_pos h3, show d = f from Prod.ext h1 (Prod.ext h2 h3), beq_self_eq_true]
   ·rw [if_neg h3, show (d == f) = false from beq_eq_false_iff_ne.2 fun e => h3 (by rw [e])]
  ·rw [if_neg h2, show (d == f) = false from beq_eq_false_iff_ne.2 fun e => h2 (by rw [e])]
 ·rw [if_neg h1, show (d == f) = false from beq_eq_false_iff_ne.2 fun e => h1 (by rw [e])]
attribute [local irreducible] foundP cornC mulT
set_option maxHeartbeats 4000000 in
theorem found_spec {t u : Nat} (ht : t < 24) (hu : u < 24) {x y z x2 y2 z2 : Int} {bm bn : Nat} (w : World) (Bm : Blk w bm #[.int .i64 (t : Int), .int .i64 x, .int .i64 y, .int .i64 z] 23) (Bn : Blk w bn #[.int .i64 (u : Int), .int .i64 x2, .int .i64 y2, .int .i64 z2] 23) :
  Calls Tryz.prog 90 #[.func (.func 91) #[] #[.pointer (some ⟨bm, 0, none⟩), .pointer (some ⟨bn, 0, none⟩)]] w fun e w' => e = .returned (.int .i64 (mulT t u : Nat)) ∧ Below w.heap.size w w' := by
 obtain ⟨M, hM⟩ : ∃ M, M = mulT t u := ⟨_, rfl⟩
 have hM24 : M < 24 := by rw [hM]; exact mul_lt ht hu
 have HF : Hid (∀ v, v < 24 → foundP (fun c => turnC u (turnC t c)) v 3 = (v == M)) := Lib.hid fun v hv => by rw [foundP_end, foundB_mul ht hu hv, hM]
 obtain ⟨to, hto⟩ : ∃ to : Cl → Cl, to = fun c => turnC u (turnC t c) := ⟨_, rfl⟩
 have HTO : Hid (∀ W, Below w.heap.size w W → ∀ k, Calls Tryz.prog 91 #[clV (cornC k), .pointer (some ⟨bm, 0, none⟩), .pointer (some ⟨bn, 0, none⟩)] W fun e w' => e = .returned (clV (to (cornC k))) ∧ Below W.heap.size W w') := Lib.hid fun W h k => by
  rw [hto]; exact then1_spec ht hu (cornC_in k) W (Bm.grow h) (Bn.grow h)
 have HTU := Lib.hid fun W k v (hv : v < 24) => turned_spec (cornC_in k) hv W
 have HEN := enters_of Tryz.func91 (by kernel_rfl) rfl
 rw [← hM]
 rw [← hto] at HF
 clear hM hto Bm Bn ht hu
 go_enter Tryz.func90, Tryz.ntmps90
 go_wp2_with fail
 generalize hw0 : w.alloc _ = W0
 have B0 : Blk W0 w.heap.size #[.int .i64 1, .int .i64 0, .int .i64 0, .int .i64 0, .int .i64 1, .int .i64 0, .int .i64 0, .int .i64 0, .int .i64 1] 125 := by subst hw0; exact Blk.at _ _ (by simp)
 have hbel : Below w.heap.size w W0 := by subst hw0; exact (by repeat (first | with_reducible exact bel_refl _ | with_reducible assumption | with_reducible refine bel_drewN ?_ _ | with_reducible refine bel_drew ?_ | with_reducible refine bel_alloc ?_ _ | with_reducible refine bel_row ?_ ?_ _ | with_reducible refine bel_set ?_ ?_ _ | refine bel_trans ?_ (by with_reducible assumption) | (simp; done) | (simp; omega)))
 have HB := Lib.hid (And.intro B0 hbel); clear B0 hbel hw0
 go_loopw [12] (fun tv wx => ∃ v : Nat, v ≤ M ∧ tv = .int .i64 v ∧ Hid (Blk wx w.heap.size #[.int .i64 1, .int .i64 0, .int .i64 0, .int .i64 0, .int .i64 1, .int .i64 0, .int .i64 0, .int .i64 0, .int .i64 1] 125 ∧ Below w.heap.size w wx)) (fun tv _ => 24 - (intOf tv).toNat)
 case atStart => exact ⟨0, by omega, rfl, HB⟩
 case round =>
  clear HB
  obtain ⟨v, hv, rfl, HI⟩ := hrel
  have c0 := HI.out.1.cell; have l0 := HI.out.1.lt
  have hv24 : v < 24 := by omega
  have hd : decide ((v : Int) < 24) = true := decide_eq_true (by omega)
  have hvi : (v : Int) < 24 := by omega
  go_wp2_with fail
  obtain ⟨wo, hwo⟩ : ∃ wo, wo = wr := ⟨_, rfl⟩
  subst hwo
  clear c0 l0
  go_loopw [5, 16] (fun bv iv wx => ∃ i : Nat, i ≤ 3 ∧ iv = .int .i64 i ∧ bv = .bool (foundP to v i) ∧ Hid (Blk wx w.heap.size #[.int .i64 1, .int .i64 0, .int .i64 0, .int .i64 0, .int .i64 1, .int .i64 0, .int .i64 0, .int .i64 0, .int .i64 1] 125 ∧ Below w.heap.size w wx)) (fun _ iv _ => 3 - (intOf iv).toNat)
  case atStart => exact ⟨0, by omega, rfl, (by unfold foundP; rfl), HI⟩
  case round =>
   clear HI
   obtain ⟨i, hi, rfl, rfl, HI⟩ := hrel
   by_cases hi3 : i < 3
   ·have hd3 : decide ((i : Int) < 3) = true := decide_eq_true (by omega)
    have hix := fun W => idxC hi3 W
    have HS := Lib.hid (foundP_succ to v i)
    have HT1 := Lib.hid fun W (h : Below w.heap.size w W) => HTO.out W h i
    have HU1 := Lib.hid fun W => HTU.out W i v hv24
    obtain ⟨c, hc⟩ : ∃ c, c = cornC i := ⟨_, rfl⟩
    rw [← hc] at hix HS HT1 HU1
    obtain ⟨d, hd'⟩ : ∃ d, d = turnC v c := ⟨_, rfl⟩
    obtain ⟨f, hf⟩ : ∃ d, d = to c := ⟨_, rfl⟩
    rw [← hd'] at HU1 HS
    rw [← hf] at HT1 HS
    obtain ⟨b, hb'⟩ : ∃ b, b = foundP to v i := ⟨_, rfl⟩
    rw [← hb'] at HS ⊢
    obtain ⟨wb, hwb⟩ : ∃ wb, wb = wr.alloc (.cells #[.int .i64 c.1, .int .i64 c.2.1, .int .i64 c.2.2] 60) := ⟨_, rfl⟩
    have HD : Hid (Blk wb w.heap.size #[.int .i64 1, .int .i64 0, .int .i64 0, .int .i64 0, .int .i64 1, .int .i64 0, .int .i64 0, .int .i64 0, .int .i64 1] 125 ∧ Blk wb wr.heap.size #[.int .i64 c.1, .int .i64 c.2.1, .int .i64 c.2.2] 60 ∧ Below w.heap.size w wb) := Lib.hid (by rw [hwb]; exact ⟨HI.out.1.alloc _, Blk.new _ _ _, bel_alloc HI.out.2 _⟩)
    have HWB := Lib.hid hwb
    have cc := HD.out.2.1.cell; have lc := HD.out.2.1.lt
    clear hwb hc hd' hf hb' HI
    go_upto_region 9 with fail
    rw [← HWB.out]
    cases b with
    | false =>
     refine wp_region_val Grows (fun _ _ _ => True) [Is (.bool false), Is (.bool false), Is undef, Is undef, Is undef, Is undef, Is undef, Is undef, Is undef, Is (.bool false), Is (.bool false)] (by kernel_rfl) (by kernel_rfl) rfl Grows.refl (fun _ _ _ => Grows.trans) (stable_mem ⟨fun _ _ _ h _ => h, fun _ _ _ h _ => h, fun _ _ _ h _ => h, fun _ _ _ h _ => h, fun _ _ _ h _ => h, fun _ _ _ h _ => h, fun _ _ _ h _ => h, fun _ _ _ h _ => h, fun _ _ _ h _ => h, fun _ _ _ h _ => h, fun _ _ _ h _ => h, trivial⟩) wb (Below.drew (Below.refl _ _)) trivial ?_
     refine val_cons ?_ (fun v0 => ?_)
     ·intro L vs w1 hvs hat hb hI hF; try simp [factsI, Region.binds, Is] at hF
      have hc := (Grows.cells hb).1
      clear hI
      go_simp
      try simp [upd]
      try first | exact Grows.refl _ | exact trivial | exact ⟨Grows.refl _, trivial⟩
     refine val_cons ?_ (fun v1 => ?_)
     ·intro L vs w1 hvs hat hb hI hF; try simp [factsI, Region.binds, Is] at hF
      have hc := (Grows.cells hb).1
      clear hI
      go_simp
      try simp [upd]
      try first | exact Grows.refl _ | exact trivial | exact ⟨Grows.refl _, trivial⟩
     refine val_cons ?_ (fun v2 => ?_)
     ·intro L vs w1 hvs hat hb hI hF; try simp [factsI, Region.binds, Is] at hF
      have hc := (Grows.cells hb).1
      clear hI
      go_simp
      try simp [upd]
      try first | exact Grows.refl _ | exact trivial | exact ⟨Grows.refl _, trivial⟩
     refine val_cons ?_ (fun v3 => ?_)
     ·intro L vs w1 hvs hat hb hI hF; try simp [factsI, Region.binds, Is] at hF
      have hc := (Grows.cells hb).1
      clear hI
      go_simp
      try simp [upd]
      try first | exact Grows.refl _ | exact trivial | exact ⟨Grows.refl _, trivial⟩
     refine val_cons ?_ (fun v4 => ?_)
     ·intro L vs w1 hvs hat hb hI hF; try simp [factsI, Region.binds, Is] at hF
      have hc := (Grows.cells hb).1
      clear hI
      go_simp
      try simp [upd]
      try first | exact Grows.refl _ | exact trivial | exact ⟨Grows.refl _, trivial⟩
     refine val_cons ?_ (fun v5 => ?_)
     ·intro L vs w1 hvs hat hb hI hF; try simp [factsI, Region.binds, Is] at hF
      have hc := (Grows.cells hb).1
      clear hI
      go_simp
      try simp [upd]
      try first | exact Grows.refl _ | exact trivial | exact ⟨Grows.refl _, trivial⟩
     refine val_cons ?_ (fun v6 => ?_)
     ·intro L vs w1 hvs hat hb hI hF; try simp [factsI, Region.binds, Is] at hF
      have hc := (Grows.cells hb).1
      clear hI
      go_simp
      try simp [upd]
      try first | exact Grows.refl _ | exact trivial | exact ⟨Grows.refl _, trivial⟩
     refine val_cons ?_ (fun v7 => ?_)
     ·intro L vs w1 hvs hat hb hI hF; try simp [factsI, Region.binds, Is] at hF
      have hc := (Grows.cells hb).1
      clear hI
      go_simp
      try simp [upd]
      try first | exact Grows.refl _ | exact trivial | exact ⟨Grows.refl _, trivial⟩
     refine val_cons ?_ (fun v8 => ?_)
     ·intro L vs w1 hvs hat hb hI hF; try simp [factsI, Region.binds, Is] at hF
      have hc := (Grows.cells hb).1
      clear hI
      go_simp
      try simp [upd]
      try first | exact Grows.refl _ | exact trivial | exact ⟨Grows.refl _, trivial⟩
     refine val_cons ?_ (fun v9 => ?_)
     ·intro L vs w1 hvs hat hb hI hF; try simp [factsI, Region.binds, Is] at hF
      have hc := (Grows.cells hb).1
      clear hI
      go_simp
      try simp [upd]
      try first | exact Grows.refl _ | exact trivial | exact ⟨Grows.refl _, trivial⟩
     refine val_cons ?_ (fun v10 => ?_)
     ·intro L vs w1 hvs hat hb hI hF; try simp [factsI, Region.binds, Is] at hF
      have hc := (Grows.cells hb).1
      clear hI
      go_simp
      try simp [upd]
      try first | exact Grows.refl _ | exact trivial | exact ⟨Grows.refl _, trivial⟩
     refine val_nil ?_
     intro vs w1 hvs hb hI hF
     simp [Is, Nat.forall_lt_succ_right] at hF
     simp only [Act.put, List.setIfInBounds_toArray, List.set_cons_succ, List.set_cons_zero, hF]
     clear hF
     have HE := Lib.hid (And.intro (HD.out.1.grow hb) (bel_trans HD.out.2.2 hb))
     clear hb HD cc lc
     go_wp2_with fail
     go_roundw
     case rel => exact ⟨i + 1, by omega, by go_num, (by rw [HS.out]; rfl), HE⟩
     case measure => simp [intOf]; omega
    | true =>
     obtain ⟨q, hq⟩ : ∃ q, q = (d == f) := ⟨_, rfl⟩
     refine wp_region_val Grows (fun _ _ _ => True) [Is (.bool true), Is (.bool true), Is (clV c), Is (.int .i64 (v : Int)), Is (clV d), Is (.func (.func 91) #[] #[.pointer (some ⟨bm, 0, none⟩), .pointer (some ⟨bn, 0, none⟩)]), Is (clV c), Is (clV f), Is (.bool (d == f)), Is (.bool (d == f)), Is (.bool (d == f))] (by kernel_rfl) (by kernel_rfl) rfl Grows.refl (fun _ _ _ => Grows.trans) (stable_mem ⟨fun _ _ _ h _ => h, fun _ _ _ h _ => h, fun _ _ _ h _ => h, fun _ _ _ h _ => h, fun _ _ _ h _ => h, fun _ _ _ h _ => h, fun _ _ _ h _ => h, fun _ _ _ h _ => h, fun _ _ _ h _ => h, fun _ _ _ h _ => h, fun _ _ _ h _ => h, trivial⟩) wb (Below.drew (Below.refl _ _)) trivial ?_
     refine val_cons ?_ (fun v0 => ?_)
     ·intro L vs w1 hvs hat hb hI hF; try simp [factsI, Region.binds, Is] at hF
      have hc := (Grows.cells hb).1
      clear hI
      go_simp
      try simp [upd]
      try first | exact Grows.refl _ | exact trivial | exact ⟨Grows.refl _, trivial⟩
     refine val_cons ?_ (fun v1 => ?_)
     ·intro L vs w1 hvs hat hb hI hF; try simp [factsI, Region.binds, Is] at hF
      have hc := (Grows.cells hb).1
      clear hI
      go_simp
      try simp [upd]
      try first | exact Grows.refl _ | exact trivial | exact ⟨Grows.refl _, trivial⟩
     refine val_cons ?_ (fun v2 => ?_)
     ·intro L vs w1 hvs hat hb hI hF; try simp [factsI, Region.binds, Is] at hF
      have hc := (Grows.cells hb).1
      clear hI
      go_simp
      try simp [upd]
      try first | exact Grows.refl _ | exact trivial | exact ⟨Grows.refl _, trivial⟩
     refine val_cons ?_ (fun v3 => ?_)
     ·intro L vs w1 hvs hat hb hI hF; try simp [factsI, Region.binds, Is] at hF
      have hc := (Grows.cells hb).1
      clear hI
      go_simp
      try simp [upd]
      try first | exact Grows.refl _ | exact trivial | exact ⟨Grows.refl _, trivial⟩
     refine val_cons ?_ (fun v4 => ?_)
     ·intro L vs w1 hvs hat hb hI hF; try simp [factsI, Region.binds, Is] at hF
      have hb0 : Below wb.heap.size wb w1 := hb
      go_simp
      refine (HU1.out _).mono ?_
      rintro e w2 ⟨rfl, hb2⟩
      exact ⟨rfl, hb2⟩
     refine val_cons ?_ (fun v5 => ?_)
     ·intro L vs w1 hvs hat hb hI hF; try simp [factsI, Region.binds, Is] at hF
      have hc := (Grows.cells hb).1
      clear hI
      go_simp
      try simp [upd]
      try first | exact Grows.refl _ | exact trivial | exact ⟨Grows.refl _, trivial⟩
     refine val_cons ?_ (fun v6 => ?_)
     ·intro L vs w1 hvs hat hb hI hF; try simp [factsI, Region.binds, Is] at hF
      have hc := (Grows.cells hb).1
      clear hI
      go_simp
      try simp [upd]
      try first | exact Grows.refl _ | exact trivial | exact ⟨Grows.refl _, trivial⟩
     refine val_cons ?_ (fun v7 => ?_)
     ·intro L vs w1 hvs hat hb hI hF; try simp [factsI, Region.binds, Is] at hF
      have hb0 : Below wb.heap.size wb w1 := hb
      go_simp
      refine (HT1.out _ (bel_trans HD.out.2.2 hb0)).mono ?_
      rintro e w2 ⟨rfl, hb2⟩
      exact ⟨rfl, hb2⟩
     refine val_cons ?_ (fun v8 => ?_)
     ·intro L vs w1 hvs hat hb hI hF; try simp [factsI, Region.binds, Is] at hF
      go_simp
      rw [cell_if d f (fun b => Result.ok (Next.value (Value.bool b)) w1)]
      exact ⟨Grows.refl _, rfl⟩
     refine val_cons ?_ (fun v9 => ?_)
     ·intro L vs w1 hvs hat hb hI hF; try simp [factsI, Region.binds, Is] at hF
      have hc := (Grows.cells hb).1
      clear hI
      go_simp
      try simp [upd]
      try first | exact Grows.refl _ | exact trivial | exact ⟨Grows.refl _, trivial⟩
     refine val_cons ?_ (fun v10 => ?_)
     ·intro L vs w1 hvs hat hb hI hF; try simp [factsI, Region.binds, Is] at hF
      have hc := (Grows.cells hb).1
      clear hI
      go_simp
      try simp [upd]
      try first | exact Grows.refl _ | exact trivial | exact ⟨Grows.refl _, trivial⟩
     refine val_nil ?_
     intro vs w1 hvs hb hI hF
     simp [Is, Nat.forall_lt_succ_right] at hF
     simp only [Act.put, List.setIfInBounds_toArray, List.set_cons_succ, List.set_cons_zero, hF]
     clear hF
     have HE := Lib.hid (And.intro (HD.out.1.grow hb) (bel_trans HD.out.2.2 hb))
     clear hb HD cc lc hq
     go_wp2_with fail
     go_roundw
     case rel => exact ⟨i + 1, by omega, by go_num, (by rw [HS.out]; rfl), HE⟩
     case measure => simp [intOf]; omega
   ·obtain rfl : i = 3 := by omega
    have hd3 : decide (((3 : Nat) : Int) < 3) = false := by decide
    have hF := HF.out v hv24
    rw [hF]
    have hbw := HI.out.2
    by_cases hvm : v = M
    ·subst hvm
     have hq : (v == v) = true := beq_self_eq_true v
     rw [hq]
     go_wp2_with fail
     go_ret
     exact ⟨rfl, hbw⟩
    ·have hq : (v == M) = false := by rw [beq_eq_false_iff_ne]; exact hvm
     rw [hq]
     clear hq
     go_wp2_with fail
     go_roundw
     case rel => exact ⟨v + 1, by omega, by go_num, HI⟩
     case measure => simp [intOf]; omega
end Go.Proofs.YtkfimbonmnoglaaGreatDoor
end
