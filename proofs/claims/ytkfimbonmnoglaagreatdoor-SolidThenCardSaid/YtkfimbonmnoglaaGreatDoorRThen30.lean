import Derived.Test.YtkfimbonmnoglaaGreatDoorRThen29
import Derived.Deep.Cut
/-
  Given contracts of functions of the program, and laws for them, one behind the other.
-/
set_option linter.unusedVariables false
set_option linter.unusedSimpArgs false
set_option linter.unusedSectionVars false
section
namespace Go.Proofs.YtkfimbonmnoglaaGreatDoor
open Go.RowKit Go.Rel Go.Draw Go.Solid
set_option maxRecDepth 100000
attribute [local go_sem] Oper.semAt_some
attribute [local irreducible] turnC movC subC ofB
set_option maxHeartbeats 16000000 in
theorem of_spec (f0 f1 f2 f3 t0 t1 t2 t3 : Cl) (k : Nat) (hk : k < 24) (hf0 : near14 f0) (hf1 : near14 f1) (hf2 : near14 f2) (hf3 : near14 f3) (ht0 : smallC 100 t0) (hyes : ofB f0 f1 f2 f3 t0 t1 t2 t3 k = true) (hno : ∀ i, i < k → ofB f0 f1 f2 f3 t0 t1 t2 t3 i = false) (w : World) :
  Calls Tryz.prog 96 #[.agg #[.int .i64 f0.1, .int .i64 f0.2.1, .int .i64 f0.2.2, .int .i64 f1.1, .int .i64 f1.2.1, .int .i64 f1.2.2, .int .i64 f2.1, .int .i64 f2.2.1, .int .i64 f2.2.2, .int .i64 f3.1, .int .i64 f3.2.1, .int .i64 f3.2.2], .agg #[.int .i64 t0.1, .int .i64 t0.2.1, .int .i64 t0.2.2, .int .i64 t1.1, .int .i64 t1.2.1, .int .i64 t1.2.2, .int .i64 t2.1, .int .i64 t2.2.1, .int .i64 t2.2.2, .int .i64 t3.1, .int .i64 t3.2.1, .int .i64 t3.2.2]] w fun e w' => e = .returned (.tuple #[motV (k : Nat) (subC t0 (turnC k f0)), .bool true]) ∧ Below w.heap.size w w' := by
 have HTu := Lib.hid fun i (hi : i < 24) W => refTurnedC_spec i hi f0 hf0 W
 have hsm : ∀ i, smallC 1000 (subC t0 (turnC i f0)) ∧ (subC t0 (turnC i f0)) = (t0.1 - (turnC i f0).1, t0.2.1 - (turnC i f0).2.1, t0.2.2 - (turnC i f0).2.2) := fun i => by
  have h1 := near14_turn i hf0
  have e : (subC t0 (turnC i f0)) = (t0.1 - (turnC i f0).1, t0.2.1 - (turnC i f0).2.1, t0.2.2 - (turnC i f0).2.2) := by unfold subC; rfl
  refine ⟨?_, e⟩
  rw [e]
  unfold smallC at ht0 ⊢
  unfold near14 at h1
  simp only
  omega
 have HC1 := Lib.hid fun i (hi : i < 24) W => carried_spec i hi (subC t0 (turnC i f0)) (hsm i).1 f1 hf1 W
 have HC2 := Lib.hid fun i (hi : i < 24) W => carried_spec i hi (subC t0 (turnC i f0)) (hsm i).1 f2 hf2 W
 have HC3 := Lib.hid fun i (hi : i < 24) W => carried_spec i hi (subC t0 (turnC i f0)) (hsm i).1 f3 hf3 W
 have HOf : Hid (∀ i, ofB f0 f1 f2 f3 t0 t1 t2 t3 i = (movC (subC t0 (turnC i f0)) (turnC i f1) == t1 && movC (subC t0 (turnC i f0)) (turnC i f2) == t2 && movC (subC t0 (turnC i f0)) (turnC i f3) == t3)) := Lib.hid fun i => by unfold ofB; rfl
 have HSm := Lib.hid hsm
 have HNr := Lib.hid fun i => near14_turn i hf0
 have HT0 := Lib.hid ht0
 have HY := Lib.hid hyes
 have HNo := Lib.hid hno
 clear hf0 hf1 hf2 hf3 ht0 hyes hno hsm
 go_enter Tryz.func96, Tryz.ntmps96
 go_upto_region 1 with fail
 obtain ⟨wS0, hwS⟩ : ∃ x, x = ((w.alloc (.cells #[.int .i64 f0.1, .int .i64 f0.2.1, .int .i64 f0.2.2, .int .i64 f1.1, .int .i64 f1.2.1, .int .i64 f1.2.2, .int .i64 f2.1, .int .i64 f2.2.1, .int .i64 f2.2.2, .int .i64 f3.1, .int .i64 f3.2.1, .int .i64 f3.2.2] 83)).alloc (.cells #[.int .i64 t0.1, .int .i64 t0.2.1, .int .i64 t0.2.2, .int .i64 t1.1, .int .i64 t1.2.1, .int .i64 t1.2.2, .int .i64 t2.1, .int .i64 t2.2.1, .int .i64 t2.2.2, .int .i64 t3.1, .int .i64 t3.2.1, .int .i64 t3.2.2] 83)).alloc (.cells #[.int .i64 0, .int .i64 0, .int .i64 0, .int .i64 0] 23) := ⟨_, rfl⟩
 have HS0 : Hid (Blk wS0 w.heap.size #[.int .i64 f0.1, .int .i64 f0.2.1, .int .i64 f0.2.2, .int .i64 f1.1, .int .i64 f1.2.1, .int .i64 f1.2.2, .int .i64 f2.1, .int .i64 f2.2.1, .int .i64 f2.2.2, .int .i64 f3.1, .int .i64 f3.2.1, .int .i64 f3.2.2] 83 ∧ Blk wS0 (w.heap.size + 1) #[.int .i64 t0.1, .int .i64 t0.2.1, .int .i64 t0.2.2, .int .i64 t1.1, .int .i64 t1.2.1, .int .i64 t1.2.2, .int .i64 t2.1, .int .i64 t2.2.1, .int .i64 t2.2.2, .int .i64 t3.1, .int .i64 t3.2.1, .int .i64 t3.2.2] 83 ∧ Blk wS0 (w.heap.size + 1 + 1) #[.int .i64 0, .int .i64 0, .int .i64 0, .int .i64 0] 23 ∧ Below w.heap.size w wS0) := Lib.hid (by rw [hwS]; exact ⟨(by repeat (first | with_reducible assumption | (refine Blk.at _ _ ?_; (simp; done)) | with_reducible refine Blk.alloc ?_ _ | with_reducible refine Blk.drew ?_ | with_reducible refine Blk.rowS ?_ _ | with_reducible refine Blk.rowO ?_ _ (by simp))), (by repeat (first | with_reducible assumption | (refine Blk.at _ _ ?_; (simp; done)) | with_reducible refine Blk.alloc ?_ _ | with_reducible refine Blk.drew ?_ | with_reducible refine Blk.rowS ?_ _ | with_reducible refine Blk.rowO ?_ _ (by simp))), Blk.at _ _ (by simp), (by repeat (first | with_reducible exact bel_refl _ | with_reducible assumption | with_reducible refine bel_drewN ?_ _ | with_reducible refine bel_drew ?_ | with_reducible refine bel_alloc ?_ _ | with_reducible refine bel_row ?_ ?_ _ | with_reducible refine bel_set ?_ ?_ _ | refine bel_trans ?_ (by with_reducible assumption) | (simp; done) | (simp; omega)))⟩)
 have HO0 : Hid True := Lib.hid trivial
 rw [← hwS]
 clear hwS
 go_wp2_with fail
 go_loopw [6] (fun iv wx => ∃ i : Nat, i ≤ k ∧ iv = .int .i64 i ∧ Hid (Blk wx w.heap.size #[.int .i64 f0.1, .int .i64 f0.2.1, .int .i64 f0.2.2, .int .i64 f1.1, .int .i64 f1.2.1, .int .i64 f1.2.2, .int .i64 f2.1, .int .i64 f2.2.1, .int .i64 f2.2.2, .int .i64 f3.1, .int .i64 f3.2.1, .int .i64 f3.2.2] 83 ∧ Blk wx (w.heap.size + 1) #[.int .i64 t0.1, .int .i64 t0.2.1, .int .i64 t0.2.2, .int .i64 t1.1, .int .i64 t1.2.1, .int .i64 t1.2.2, .int .i64 t2.1, .int .i64 t2.2.1, .int .i64 t2.2.2, .int .i64 t3.1, .int .i64 t3.2.1, .int .i64 t3.2.2] 83 ∧ Blk wx (w.heap.size + 1 + 1) #[.int .i64 0, .int .i64 0, .int .i64 0, .int .i64 0] 23 ∧ Below w.heap.size w wx)) (fun iv _ => 24 - (intOf iv).toNat)
 case atStart => exact ⟨0, by omega, rfl, HS0⟩
 case round =>
  clear HS0
  obtain ⟨i, hi, rfl, HM⟩ := hrel
  have hi24 : i < 24 := by omega
  have HTi := Lib.hid fun W => HTu.out i hi24 W
  have HC1i := Lib.hid fun W => HC1.out i hi24 W
  have HC2i := Lib.hid fun W => HC2.out i hi24 W
  have HC3i := Lib.hid fun W => HC3.out i hi24 W
  have hof := HOf.out i
  have hsm := (HSm.out i).2
  have hnr := HNr.out i
  have ht0 := HT0.out
  unfold smallC at ht0
  unfold near14 at hnr
  obtain ⟨a, ha⟩ : ∃ a, a = turnC i f0 := ⟨_, rfl⟩
  rw [← ha] at HTi HC1i HC2i HC3i hof hsm hnr
  have x0 : wrap64 (t0.1 - a.1) = t0.1 - a.1 := IntWalk.wrap64_in _ ⟨by omega, by omega⟩
  have x1 : wrap64 (t0.2.1 - a.2.1) = t0.2.1 - a.2.1 := IntWalk.wrap64_in _ ⟨by omega, by omega⟩
  have x2 : wrap64 (t0.2.2 - a.2.2) = t0.2.2 - a.2.2 := IntWalk.wrap64_in _ ⟨by omega, by omega⟩
  have hres : subC t0 (turnC i f0) = (t0.1 - a.1, t0.2.1 - a.2.1, t0.2.2 - a.2.2) := by rw [← ha]; exact hsm
  rw [hsm] at HC1i HC2i HC3i hof
  obtain ⟨d, hd⟩ : ∃ d : Cl, d = (t0.1 - a.1, t0.2.1 - a.2.1, t0.2.2 - a.2.2) := ⟨_, rfl⟩
  have d0 : t0.1 - a.1 = d.1 := by rw [hd]
  have d1 : t0.2.1 - a.2.1 = d.2.1 := by rw [hd]
  have d2 : t0.2.2 - a.2.2 = d.2.2 := by rw [hd]
  rw [← hd] at HC1i HC2i HC3i hof hres
  rw [d0] at x0; rw [d1] at x1; rw [d2] at x2
  obtain ⟨y1, hv1⟩ : ∃ z, z = movC d (turnC i f1) := ⟨_, rfl⟩
  obtain ⟨y2, hv2⟩ : ∃ z, z = movC d (turnC i f2) := ⟨_, rfl⟩
  obtain ⟨y3, hv3⟩ : ∃ z, z = movC d (turnC i f3) := ⟨_, rfl⟩
  rw [← hv1] at HC1i hof; rw [← hv2] at HC2i hof; rw [← hv3] at HC3i hof
  have HRes := Lib.hid hres
  clear ha hsm hnr ht0 hres hv1 hv2 hv3 hd
  have HDD := Lib.hid (And.intro d0 (And.intro d1 d2))
  have HOB := Lib.hid hof
  clear hof d0 d1 d2
  have cf := HM.out.1.cell; have lf := HM.out.1.lt
  go_wp2_with fail
  clear cf lf
  refine (HTi.out _).mono ?_
  rintro e1 w2 ⟨rfl, hb⟩
  obtain ⟨wA, hwA⟩ : ∃ x, x = w2.alloc (.cells #[.int .i64 a.1, .int .i64 a.2.1, .int .i64 a.2.2] 60) := ⟨_, rfl⟩
  obtain ⟨g7, hg7⟩ : ∃ x, x = w2.heap.size := ⟨_, rfl⟩
  have HA : Hid (Blk wA g7 #[.int .i64 a.1, .int .i64 a.2.1, .int .i64 a.2.2] 60 ∧ Blk wA w.heap.size #[.int .i64 f0.1, .int .i64 f0.2.1, .int .i64 f0.2.2, .int .i64 f1.1, .int .i64 f1.2.1, .int .i64 f1.2.2, .int .i64 f2.1, .int .i64 f2.2.1, .int .i64 f2.2.2, .int .i64 f3.1, .int .i64 f3.2.1, .int .i64 f3.2.2] 83 ∧ Blk wA (w.heap.size + 1) #[.int .i64 t0.1, .int .i64 t0.2.1, .int .i64 t0.2.2, .int .i64 t1.1, .int .i64 t1.2.1, .int .i64 t1.2.2, .int .i64 t2.1, .int .i64 t2.2.1, .int .i64 t2.2.2, .int .i64 t3.1, .int .i64 t3.2.1, .int .i64 t3.2.2] 83 ∧ Blk wA (w.heap.size + 1 + 1) #[.int .i64 0, .int .i64 0, .int .i64 0, .int .i64 0] 23 ∧ Below w.heap.size w wA) := Lib.hid (by
   rw [hwA, hg7]
   exact ⟨Blk.new _ _ _, (HM.out.1.grow hb).alloc _, (HM.out.2.1.grow hb).alloc _, (HM.out.2.2.1.grow hb).alloc _, bel_alloc (bel_trans HM.out.2.2.2 hb) _⟩)
  go_upto_region 5 with fail
  rw [← hwA, ← hg7]
  clear hwA hg7 hb HM
  have c7 := HA.out.1.cell; have l7 := HA.out.1.lt
  have ct := HA.out.2.2.1.cell; have lt := HA.out.2.2.1.lt
  have d0 := HDD.out.1; have d1 := HDD.out.2.1; have d2 := HDD.out.2.2
  go_upto_region 6 with fail
  obtain ⟨wB, hwB⟩ : ∃ x, x = wA.alloc (.cells #[.int .i64 (i : Nat), .int .i64 d.1, .int .i64 d.2.1, .int .i64 d.2.2] 23) := ⟨_, rfl⟩
  obtain ⟨g8, hg8⟩ : ∃ x, x = wA.heap.size := ⟨_, rfl⟩
  have ho8 : Hid (w.heap.size + 1 + 1 < g8) := Lib.hid (by rw [hg8]; exact HA.out.2.2.2.1.lt)
  have HB : Hid (Blk wB g8 #[.int .i64 (i : Nat), .int .i64 d.1, .int .i64 d.2.1, .int .i64 d.2.2] 23 ∧ Blk wB w.heap.size #[.int .i64 f0.1, .int .i64 f0.2.1, .int .i64 f0.2.2, .int .i64 f1.1, .int .i64 f1.2.1, .int .i64 f1.2.2, .int .i64 f2.1, .int .i64 f2.2.1, .int .i64 f2.2.2, .int .i64 f3.1, .int .i64 f3.2.1, .int .i64 f3.2.2] 83 ∧ Blk wB (w.heap.size + 1) #[.int .i64 t0.1, .int .i64 t0.2.1, .int .i64 t0.2.2, .int .i64 t1.1, .int .i64 t1.2.1, .int .i64 t1.2.2, .int .i64 t2.1, .int .i64 t2.2.1, .int .i64 t2.2.2, .int .i64 t3.1, .int .i64 t3.2.1, .int .i64 t3.2.2] 83 ∧ Blk wB (w.heap.size + 1 + 1) #[.int .i64 0, .int .i64 0, .int .i64 0, .int .i64 0] 23 ∧ Below w.heap.size w wB) := Lib.hid (by
   rw [hwB, hg8]
   exact ⟨Blk.new _ _ _, HA.out.2.1.alloc _, HA.out.2.2.1.alloc _, HA.out.2.2.2.1.alloc _, bel_alloc HA.out.2.2.2.2 _⟩)
  rw [← hwB, ← hg8]
  clear hwB hg8 HA c7 l7 ct lt d0 d1 d2 x0 x1 x2
  obtain ⟨q1, hq1⟩ : ∃ q, q = (y1 == t1) := ⟨_, rfl⟩
  obtain ⟨q2, hq2⟩ : ∃ q, q = (y2 == t2) := ⟨_, rfl⟩
  obtain ⟨q3, hq3⟩ : ∃ q, q = (y3 == t3) := ⟨_, rfl⟩
  have hob := HOB.out
  rw [← hq1, ← hq2, ← hq3] at hob
  have HQ := Lib.hid (And.intro hq1 (And.intro hq2 hq3))
  clear hq1 hq2 hq3
  by_cases hik : i = k
  ·have h := HY.out
   rw [← hik, hob] at h
   have HIK := Lib.hid hik
   clear hik
   have hqq : q1 = true ∧ q2 = true ∧ q3 = true := by
    revert h; cases q1 <;> cases q2 <;> cases q3 <;> simp
   obtain ⟨rfl, rfl, rfl⟩ := hqq
   clear h hob
   refine wp_region_val Grows (fun _ _ _ => True) [Is (.pointer (some ⟨w.heap.size, 3, none⟩)), Is (clV f1), Is (motV (i : Nat) d), Is (clV y1), Is (.pointer (some ⟨w.heap.size + 1, 3, none⟩)), Is (clV t1), Is (.bool true), Is (.bool true), Is (.pointer (some ⟨w.heap.size, 6, none⟩)), Is (clV f2), Is (motV (i : Nat) d), Is (clV y2), Is (.pointer (some ⟨w.heap.size + 1, 6, none⟩)), Is (clV t2), Is (.bool true), Is (.bool true), Is (.bool true), Is (.pointer (some ⟨w.heap.size, 9, none⟩)), Is (clV f3), Is (motV (i : Nat) d), Is (clV y3), Is (.pointer (some ⟨w.heap.size + 1, 9, none⟩)), Is (clV t3), Is (.bool true), Is (.bool true)] (by kernel_rfl) (by kernel_rfl) rfl Grows.refl (fun _ _ _ => Grows.trans) (stable_mem ⟨fun _ _ _ h _ => h, fun _ _ _ h _ => h, fun _ _ _ h _ => h, fun _ _ _ h _ => h, fun _ _ _ h _ => h, fun _ _ _ h _ => h, fun _ _ _ h _ => h, fun _ _ _ h _ => h, fun _ _ _ h _ => h, fun _ _ _ h _ => h, fun _ _ _ h _ => h, fun _ _ _ h _ => h, fun _ _ _ h _ => h, fun _ _ _ h _ => h, fun _ _ _ h _ => h, fun _ _ _ h _ => h, fun _ _ _ h _ => h, fun _ _ _ h _ => h, fun _ _ _ h _ => h, fun _ _ _ h _ => h, fun _ _ _ h _ => h, fun _ _ _ h _ => h, fun _ _ _ h _ => h, fun _ _ _ h _ => h, fun _ _ _ h _ => h, trivial⟩) wB (Below.drew (Below.refl _ _)) trivial ?_
   refine val_cons ?_ (fun v0 => ?_)
   ·intro L vs w1 hvs hat hb hI hF; try simp [factsI, Region.binds, Is] at hF
    have hc := (Grows.cells hb).1
    clear hI
    go_simp
    try simp [upd]
    try first | exact Grows.refl _ | exact trivial | exact ⟨Grows.refl _, trivial⟩
   refine val_cons ?_ (fun v1 => ?_)
   ·intro L vs w1 hvs hat hb hI hF; try simp [factsI, Region.binds, Is] at hF
    have D := (HB.out.2.1).grow (show Below _ _ _ from hb); have cD := D.cell; have lD := D.lt; clear D
    go_simp
    first | exact Grows.refl _ | exact ⟨Grows.refl _, trivial⟩
   refine val_cons ?_ (fun v2 => ?_)
   ·intro L vs w1 hvs hat hb hI hF; try simp [factsI, Region.binds, Is] at hF
    have D := (HB.out.1).grow (show Below _ _ _ from hb); have cD := D.cell; have lD := D.lt; clear D
    go_simp
    first | exact Grows.refl _ | exact ⟨Grows.refl _, trivial⟩
   refine val_cons ?_ (fun v3 => ?_)
   ·intro L vs w1 hvs hat hb hI hF; try simp [factsI, Region.binds, Is] at hF
    have hb0 := hb
    go_simp
    refine (HC1i.out _).mono ?_
    rintro e w2 ⟨rfl, hb2⟩
    first | exact ⟨rfl, hb2⟩ | exact ⟨_, rfl, hb2, trivial, rfl⟩ | exact ⟨_, rfl, hb2, rfl⟩
   refine val_cons ?_ (fun v4 => ?_)
   ·intro L vs w1 hvs hat hb hI hF; try simp [factsI, Region.binds, Is] at hF
    have hc := (Grows.cells hb).1
    clear hI
    go_simp
    try simp [upd]
    try first | exact Grows.refl _ | exact trivial | exact ⟨Grows.refl _, trivial⟩
   refine val_cons ?_ (fun v5 => ?_)
   ·intro L vs w1 hvs hat hb hI hF; try simp [factsI, Region.binds, Is] at hF
    have D := (HB.out.2.2.1).grow (show Below _ _ _ from hb); have cD := D.cell; have lD := D.lt; clear D
    go_simp
    first | exact Grows.refl _ | exact ⟨Grows.refl _, trivial⟩
   refine val_cons ?_ (fun v6 => ?_)
   ·intro L vs w1 hvs hat hb hI hF; try simp [factsI, Region.binds, Is] at hF
    go_simp
    rw [cell_if y1 t1 (fun b => Result.ok (Next.value (Value.bool b)) w1)]
    exact ⟨Grows.refl _, by rw [← HQ.out.1]⟩
   refine val_cons ?_ (fun v7 => ?_)
   ·intro L vs w1 hvs hat hb hI hF; try simp [factsI, Region.binds, Is] at hF
    have hc := (Grows.cells hb).1
    clear hI
    go_simp
    try simp [upd]
    try first | exact Grows.refl _ | exact trivial | exact ⟨Grows.refl _, trivial⟩
   refine val_cons ?_ (fun v8 => ?_)
   ·intro L vs w1 hvs hat hb hI hF; try simp [factsI, Region.binds, Is] at hF
    have hc := (Grows.cells hb).1
    clear hI
    go_simp
    try simp [upd]
    try first | exact Grows.refl _ | exact trivial | exact ⟨Grows.refl _, trivial⟩
   refine val_cons ?_ (fun v9 => ?_)
   ·intro L vs w1 hvs hat hb hI hF; try simp [factsI, Region.binds, Is] at hF
    have D := (HB.out.2.1).grow (show Below _ _ _ from hb); have cD := D.cell; have lD := D.lt; clear D
    go_simp
    first | exact Grows.refl _ | exact ⟨Grows.refl _, trivial⟩
   refine val_cons ?_ (fun v10 => ?_)
   ·intro L vs w1 hvs hat hb hI hF; try simp [factsI, Region.binds, Is] at hF
    have D := (HB.out.1).grow (show Below _ _ _ from hb); have cD := D.cell; have lD := D.lt; clear D
    go_simp
    first | exact Grows.refl _ | exact ⟨Grows.refl _, trivial⟩
   refine val_cons ?_ (fun v11 => ?_)
   ·intro L vs w1 hvs hat hb hI hF; try simp [factsI, Region.binds, Is] at hF
    have hb0 := hb
    go_simp
    refine (HC2i.out _).mono ?_
    rintro e w2 ⟨rfl, hb2⟩
    first | exact ⟨rfl, hb2⟩ | exact ⟨_, rfl, hb2, trivial, rfl⟩ | exact ⟨_, rfl, hb2, rfl⟩
   refine val_cons ?_ (fun v12 => ?_)
   ·intro L vs w1 hvs hat hb hI hF; try simp [factsI, Region.binds, Is] at hF
    have hc := (Grows.cells hb).1
    clear hI
    go_simp
    try simp [upd]
    try first | exact Grows.refl _ | exact trivial | exact ⟨Grows.refl _, trivial⟩
   refine val_cons ?_ (fun v13 => ?_)
   ·intro L vs w1 hvs hat hb hI hF; try simp [factsI, Region.binds, Is] at hF
    have D := (HB.out.2.2.1).grow (show Below _ _ _ from hb); have cD := D.cell; have lD := D.lt; clear D
    go_simp
    first | exact Grows.refl _ | exact ⟨Grows.refl _, trivial⟩
   refine val_cons ?_ (fun v14 => ?_)
   ·intro L vs w1 hvs hat hb hI hF; try simp [factsI, Region.binds, Is] at hF
    go_simp
    rw [cell_if y2 t2 (fun b => Result.ok (Next.value (Value.bool b)) w1)]
    exact ⟨Grows.refl _, by rw [← HQ.out.2.1]⟩
   refine val_cons ?_ (fun v15 => ?_)
   ·intro L vs w1 hvs hat hb hI hF; try simp [factsI, Region.binds, Is] at hF
    have hc := (Grows.cells hb).1
    clear hI
    go_simp
    try simp [upd]
    try first | exact Grows.refl _ | exact trivial | exact ⟨Grows.refl _, trivial⟩
   refine val_cons ?_ (fun v16 => ?_)
   ·intro L vs w1 hvs hat hb hI hF; try simp [factsI, Region.binds, Is] at hF
    have hc := (Grows.cells hb).1
    clear hI
    go_simp
    try simp [upd]
    try first | exact Grows.refl _ | exact trivial | exact ⟨Grows.refl _, trivial⟩
   refine val_cons ?_ (fun v17 => ?_)
   ·intro L vs w1 hvs hat hb hI hF; try simp [factsI, Region.binds, Is] at hF
    have hc := (Grows.cells hb).1
    clear hI
    go_simp
    try simp [upd]
    try first | exact Grows.refl _ | exact trivial | exact ⟨Grows.refl _, trivial⟩
   refine val_cons ?_ (fun v18 => ?_)
   ·intro L vs w1 hvs hat hb hI hF; try simp [factsI, Region.binds, Is] at hF
    have D := (HB.out.2.1).grow (show Below _ _ _ from hb); have cD := D.cell; have lD := D.lt; clear D
    go_simp
    first | exact Grows.refl _ | exact ⟨Grows.refl _, trivial⟩
   refine val_cons ?_ (fun v19 => ?_)
   ·intro L vs w1 hvs hat hb hI hF; try simp [factsI, Region.binds, Is] at hF
    have D := (HB.out.1).grow (show Below _ _ _ from hb); have cD := D.cell; have lD := D.lt; clear D
    go_simp
    first | exact Grows.refl _ | exact ⟨Grows.refl _, trivial⟩
   refine val_cons ?_ (fun v20 => ?_)
   ·intro L vs w1 hvs hat hb hI hF; try simp [factsI, Region.binds, Is] at hF
    have hb0 := hb
    go_simp
    refine (HC3i.out _).mono ?_
    rintro e w2 ⟨rfl, hb2⟩
    first | exact ⟨rfl, hb2⟩ | exact ⟨_, rfl, hb2, trivial, rfl⟩ | exact ⟨_, rfl, hb2, rfl⟩
   refine val_cons ?_ (fun v21 => ?_)
   ·intro L vs w1 hvs hat hb hI hF; try simp [factsI, Region.binds, Is] at hF
    have hc := (Grows.cells hb).1
    clear hI
    go_simp
    try simp [upd]
    try first | exact Grows.refl _ | exact trivial | exact ⟨Grows.refl _, trivial⟩
   refine val_cons ?_ (fun v22 => ?_)
   ·intro L vs w1 hvs hat hb hI hF; try simp [factsI, Region.binds, Is] at hF
    have D := (HB.out.2.2.1).grow (show Below _ _ _ from hb); have cD := D.cell; have lD := D.lt; clear D
    go_simp
    first | exact Grows.refl _ | exact ⟨Grows.refl _, trivial⟩
   refine val_cons ?_ (fun v23 => ?_)
   ·intro L vs w1 hvs hat hb hI hF; try simp [factsI, Region.binds, Is] at hF
    go_simp
    rw [cell_if y3 t3 (fun b => Result.ok (Next.value (Value.bool b)) w1)]
    exact ⟨Grows.refl _, by rw [← HQ.out.2.2]⟩
   refine val_cons ?_ (fun v24 => ?_)
   ·intro L vs w1 hvs hat hb hI hF; try simp [factsI, Region.binds, Is] at hF
    have hc := (Grows.cells hb).1
    clear hI
    go_simp
    try simp [upd]
    try first | exact Grows.refl _ | exact trivial | exact ⟨Grows.refl _, trivial⟩
   refine val_nil ?_
   intro vs w1 hvs hb hI hF
   simp [Is, Nat.forall_lt_succ_right] at hF
   simp only [Act.put, List.setIfInBounds_toArray, List.set_cons_succ, List.set_cons_zero, hF]
   clear hF
   have hbw : Below wB.heap.size wB w1 := hb
   have k2 := HB.out.2.2.2.1.grow hbw
   have cm := ((HB.out.1.grow hbw).cell); have lm := (HB.out.1.grow hbw).lt
   have HR := Lib.hid (And.intro HRes.out HIK.out)
   have HB8 := Lib.hid (HB.out.1.grow hbw)
   have r2 := k2.row; have l2 := k2.lt
   have ho := ho8.out
   have cm2 := ((HB.out.1.grow hbw).rowO (g := w.heap.size + 1 + 1) #[.int .i64 0, .int .i64 0, .int .i64 0, .int .i64 0] (by omega)).cell
   have cF := (k2.rowS #[.int .i64 (i : Nat), .int .i64 d.1, .int .i64 d.2.1, .int .i64 d.2.2]).cell
   have hb5 := Lib.hid (bel_row (bel_trans HB.out.2.2.2.2 hbw) (g := w.heap.size + 1 + 1) (by omega) #[.int .i64 (i : Nat), .int .i64 d.1, .int .i64 d.2.1, .int .i64 d.2.2])
   rw [← k2.rw]
   clear k2 hb hI hvs hbw ho
   go_wp2_with fail
   exact bodyPost_ret (v := .tuple #[motV (i : Nat) d, .bool true]) (by simp [results, Tryz.results96, go_sem, cF]) rfl ⟨by rw [← HR.out.2, HR.out.1], hb5.out⟩
  ·have h := HNo.out i (by omega)
   have HIK : Hid (i < k) := Lib.hid (by omega)
   clear hik
   rw [hob] at h
   cases q1
   ·clear h hob
    refine wp_region_val Grows (fun _ _ _ => True) [Is (.pointer (some ⟨w.heap.size, 3, none⟩)), Is (clV f1), Is (motV (i : Nat) d), Is (clV y1), Is (.pointer (some ⟨w.heap.size + 1, 3, none⟩)), Is (clV t1), Is (.bool false), Is (.bool false), Is undef, Is undef, Is undef, Is undef, Is undef, Is undef, Is undef, Is (.bool false), Is (.bool false), Is undef, Is undef, Is undef, Is undef, Is undef, Is undef, Is undef, Is (.bool false)] (by kernel_rfl) (by kernel_rfl) rfl Grows.refl (fun _ _ _ => Grows.trans) (stable_mem ⟨fun _ _ _ h _ => h, fun _ _ _ h _ => h, fun _ _ _ h _ => h, fun _ _ _ h _ => h, fun _ _ _ h _ => h, fun _ _ _ h _ => h, fun _ _ _ h _ => h, fun _ _ _ h _ => h, fun _ _ _ h _ => h, fun _ _ _ h _ => h, fun _ _ _ h _ => h, fun _ _ _ h _ => h, fun _ _ _ h _ => h, fun _ _ _ h _ => h, fun _ _ _ h _ => h, fun _ _ _ h _ => h, fun _ _ _ h _ => h, fun _ _ _ h _ => h, fun _ _ _ h _ => h, fun _ _ _ h _ => h, fun _ _ _ h _ => h, fun _ _ _ h _ => h, fun _ _ _ h _ => h, fun _ _ _ h _ => h, fun _ _ _ h _ => h, trivial⟩) wB (Below.drew (Below.refl _ _)) trivial ?_
    refine val_cons ?_ (fun v0 => ?_)
    ·intro L vs w1 hvs hat hb hI hF; try simp [factsI, Region.binds, Is] at hF
     have hc := (Grows.cells hb).1
     clear hI
     go_simp
     try simp [upd]
     try first | exact Grows.refl _ | exact trivial | exact ⟨Grows.refl _, trivial⟩
    refine val_cons ?_ (fun v1 => ?_)
    ·intro L vs w1 hvs hat hb hI hF; try simp [factsI, Region.binds, Is] at hF
     have D := (HB.out.2.1).grow (show Below _ _ _ from hb); have cD := D.cell; have lD := D.lt; clear D
     go_simp
     first | exact Grows.refl _ | exact ⟨Grows.refl _, trivial⟩
    refine val_cons ?_ (fun v2 => ?_)
    ·intro L vs w1 hvs hat hb hI hF; try simp [factsI, Region.binds, Is] at hF
     have D := (HB.out.1).grow (show Below _ _ _ from hb); have cD := D.cell; have lD := D.lt; clear D
     go_simp
     first | exact Grows.refl _ | exact ⟨Grows.refl _, trivial⟩
    refine val_cons ?_ (fun v3 => ?_)
    ·intro L vs w1 hvs hat hb hI hF; try simp [factsI, Region.binds, Is] at hF
     have hb0 := hb
     go_simp
     refine (HC1i.out _).mono ?_
     rintro e w2 ⟨rfl, hb2⟩
     first | exact ⟨rfl, hb2⟩ | exact ⟨_, rfl, hb2, trivial, rfl⟩ | exact ⟨_, rfl, hb2, rfl⟩
    refine val_cons ?_ (fun v4 => ?_)
    ·intro L vs w1 hvs hat hb hI hF; try simp [factsI, Region.binds, Is] at hF
     have hc := (Grows.cells hb).1
     clear hI
     go_simp
     try simp [upd]
     try first | exact Grows.refl _ | exact trivial | exact ⟨Grows.refl _, trivial⟩
    refine val_cons ?_ (fun v5 => ?_)
    ·intro L vs w1 hvs hat hb hI hF; try simp [factsI, Region.binds, Is] at hF
     have D := (HB.out.2.2.1).grow (show Below _ _ _ from hb); have cD := D.cell; have lD := D.lt; clear D
     go_simp
     first | exact Grows.refl _ | exact ⟨Grows.refl _, trivial⟩
    refine val_cons ?_ (fun v6 => ?_)
    ·intro L vs w1 hvs hat hb hI hF; try simp [factsI, Region.binds, Is] at hF
     go_simp
     rw [cell_if y1 t1 (fun b => Result.ok (Next.value (Value.bool b)) w1)]
     exact ⟨Grows.refl _, by rw [← HQ.out.1]⟩
    refine val_cons ?_ (fun v7 => ?_)
    ·intro L vs w1 hvs hat hb hI hF; try simp [factsI, Region.binds, Is] at hF
     have hc := (Grows.cells hb).1
     clear hI
     go_simp
     try simp [upd]
     try first | exact Grows.refl _ | exact trivial | exact ⟨Grows.refl _, trivial⟩
    refine val_cons ?_ (fun v8 => ?_)
    ·intro L vs w1 hvs hat hb hI hF; try simp [factsI, Region.binds, Is] at hF
     have hc := (Grows.cells hb).1
     clear hI
     go_simp
     try simp [upd]
     try first | exact Grows.refl _ | exact trivial | exact ⟨Grows.refl _, trivial⟩
    refine val_cons ?_ (fun v9 => ?_)
    ·intro L vs w1 hvs hat hb hI hF; try simp [factsI, Region.binds, Is] at hF
     have hc := (Grows.cells hb).1
     clear hI
     go_simp
     try simp [upd]
     try first | exact Grows.refl _ | exact trivial | exact ⟨Grows.refl _, trivial⟩
    refine val_cons ?_ (fun v10 => ?_)
    ·intro L vs w1 hvs hat hb hI hF; try simp [factsI, Region.binds, Is] at hF
     have hc := (Grows.cells hb).1
     clear hI
     go_simp
     try simp [upd]
     try first | exact Grows.refl _ | exact trivial | exact ⟨Grows.refl _, trivial⟩
    refine val_cons ?_ (fun v11 => ?_)
    ·intro L vs w1 hvs hat hb hI hF; try simp [factsI, Region.binds, Is] at hF
     have hc := (Grows.cells hb).1
     clear hI
     go_simp
     try simp [upd]
     try first | exact Grows.refl _ | exact trivial | exact ⟨Grows.refl _, trivial⟩
    refine val_cons ?_ (fun v12 => ?_)
    ·intro L vs w1 hvs hat hb hI hF; try simp [factsI, Region.binds, Is] at hF
     have hc := (Grows.cells hb).1
     clear hI
     go_simp
     try simp [upd]
     try first | exact Grows.refl _ | exact trivial | exact ⟨Grows.refl _, trivial⟩
    refine val_cons ?_ (fun v13 => ?_)
    ·intro L vs w1 hvs hat hb hI hF; try simp [factsI, Region.binds, Is] at hF
     have hc := (Grows.cells hb).1
     clear hI
     go_simp
     try simp [upd]
     try first | exact Grows.refl _ | exact trivial | exact ⟨Grows.refl _, trivial⟩
    refine val_cons ?_ (fun v14 => ?_)
    ·intro L vs w1 hvs hat hb hI hF; try simp [factsI, Region.binds, Is] at hF
     have hc := (Grows.cells hb).1
     clear hI
     go_simp
     try simp [upd]
     try first | exact Grows.refl _ | exact trivial | exact ⟨Grows.refl _, trivial⟩
    refine val_cons ?_ (fun v15 => ?_)
    ·intro L vs w1 hvs hat hb hI hF; try simp [factsI, Region.binds, Is] at hF
     have hc := (Grows.cells hb).1
     clear hI
     go_simp
     try simp [upd]
     try first | exact Grows.refl _ | exact trivial | exact ⟨Grows.refl _, trivial⟩
    refine val_cons ?_ (fun v16 => ?_)
    ·intro L vs w1 hvs hat hb hI hF; try simp [factsI, Region.binds, Is] at hF
     have hc := (Grows.cells hb).1
     clear hI
     go_simp
     try simp [upd]
     try first | exact Grows.refl _ | exact trivial | exact ⟨Grows.refl _, trivial⟩
    refine val_cons ?_ (fun v17 => ?_)
    ·intro L vs w1 hvs hat hb hI hF; try simp [factsI, Region.binds, Is] at hF
     have hc := (Grows.cells hb).1
     clear hI
     go_simp
     try simp [upd]
     try first | exact Grows.refl _ | exact trivial | exact ⟨Grows.refl _, trivial⟩
    refine val_cons ?_ (fun v18 => ?_)
    ·intro L vs w1 hvs hat hb hI hF; try simp [factsI, Region.binds, Is] at hF
     have hc := (Grows.cells hb).1
     clear hI
     go_simp
     try simp [upd]
     try first | exact Grows.refl _ | exact trivial | exact ⟨Grows.refl _, trivial⟩
    refine val_cons ?_ (fun v19 => ?_)
    ·intro L vs w1 hvs hat hb hI hF; try simp [factsI, Region.binds, Is] at hF
     have hc := (Grows.cells hb).1
     clear hI
     go_simp
     try simp [upd]
     try first | exact Grows.refl _ | exact trivial | exact ⟨Grows.refl _, trivial⟩
    refine val_cons ?_ (fun v20 => ?_)
    ·intro L vs w1 hvs hat hb hI hF; try simp [factsI, Region.binds, Is] at hF
     have hc := (Grows.cells hb).1
     clear hI
     go_simp
     try simp [upd]
     try first | exact Grows.refl _ | exact trivial | exact ⟨Grows.refl _, trivial⟩
    refine val_cons ?_ (fun v21 => ?_)
    ·intro L vs w1 hvs hat hb hI hF; try simp [factsI, Region.binds, Is] at hF
     have hc := (Grows.cells hb).1
     clear hI
     go_simp
     try simp [upd]
     try first | exact Grows.refl _ | exact trivial | exact ⟨Grows.refl _, trivial⟩
    refine val_cons ?_ (fun v22 => ?_)
    ·intro L vs w1 hvs hat hb hI hF; try simp [factsI, Region.binds, Is] at hF
     have hc := (Grows.cells hb).1
     clear hI
     go_simp
     try simp [upd]
     try first | exact Grows.refl _ | exact trivial | exact ⟨Grows.refl _, trivial⟩
    refine val_cons ?_ (fun v23 => ?_)
    ·intro L vs w1 hvs hat hb hI hF; try simp [factsI, Region.binds, Is] at hF
     have hc := (Grows.cells hb).1
     clear hI
     go_simp
     try simp [upd]
     try first | exact Grows.refl _ | exact trivial | exact ⟨Grows.refl _, trivial⟩
    refine val_cons ?_ (fun v24 => ?_)
    ·intro L vs w1 hvs hat hb hI hF; try simp [factsI, Region.binds, Is] at hF
     have hc := (Grows.cells hb).1
     clear hI
     go_simp
     try simp [upd]
     try first | exact Grows.refl _ | exact trivial | exact ⟨Grows.refl _, trivial⟩
    refine val_nil ?_
    intro vs w1 hvs hb hI hF
    simp [Is, Nat.forall_lt_succ_right] at hF
    simp only [Act.put, List.setIfInBounds_toArray, List.set_cons_succ, List.set_cons_zero, hF]
    clear hF
    have hbw : Below wB.heap.size wB w1 := hb
    have HE := Lib.hid (And.intro (HB.out.2.1.grow hbw) (And.intro (HB.out.2.2.1.grow hbw) (And.intro (HB.out.2.2.2.1.grow hbw) (bel_trans HB.out.2.2.2.2 hbw))))
    clear hb hI hvs hbw
    go_wp2_with fail
    go_roundw
    case rel => exact ⟨i + 1, by have := HIK.out; omega, by go_num, HE⟩
    case measure => simp [intOf]; omega
   ·cases q2
    ·clear h hob
     refine wp_region_val Grows (fun _ _ _ => True) [Is (.pointer (some ⟨w.heap.size, 3, none⟩)), Is (clV f1), Is (motV (i : Nat) d), Is (clV y1), Is (.pointer (some ⟨w.heap.size + 1, 3, none⟩)), Is (clV t1), Is (.bool true), Is (.bool true), Is (.pointer (some ⟨w.heap.size, 6, none⟩)), Is (clV f2), Is (motV (i : Nat) d), Is (clV y2), Is (.pointer (some ⟨w.heap.size + 1, 6, none⟩)), Is (clV t2), Is (.bool false), Is (.bool false), Is (.bool false), Is undef, Is undef, Is undef, Is undef, Is undef, Is undef, Is undef, Is (.bool false)] (by kernel_rfl) (by kernel_rfl) rfl Grows.refl (fun _ _ _ => Grows.trans) (stable_mem ⟨fun _ _ _ h _ => h, fun _ _ _ h _ => h, fun _ _ _ h _ => h, fun _ _ _ h _ => h, fun _ _ _ h _ => h, fun _ _ _ h _ => h, fun _ _ _ h _ => h, fun _ _ _ h _ => h, fun _ _ _ h _ => h, fun _ _ _ h _ => h, fun _ _ _ h _ => h, fun _ _ _ h _ => h, fun _ _ _ h _ => h, fun _ _ _ h _ => h, fun _ _ _ h _ => h, fun _ _ _ h _ => h, fun _ _ _ h _ => h, fun _ _ _ h _ => h, fun _ _ _ h _ => h, fun _ _ _ h _ => h, fun _ _ _ h _ => h, fun _ _ _ h _ => h, fun _ _ _ h _ => h, fun _ _ _ h _ => h, fun _ _ _ h _ => h, trivial⟩) wB (Below.drew (Below.refl _ _)) trivial ?_
     refine val_cons ?_ (fun v0 => ?_)
     ·intro L vs w1 hvs hat hb hI hF; try simp [factsI, Region.binds, Is] at hF
      have hc := (Grows.cells hb).1
      clear hI
      go_simp
      try simp [upd]
      try first | exact Grows.refl _ | exact trivial | exact ⟨Grows.refl _, trivial⟩
     refine val_cons ?_ (fun v1 => ?_)
     ·intro L vs w1 hvs hat hb hI hF; try simp [factsI, Region.binds, Is] at hF
      have D := (HB.out.2.1).grow (show Below _ _ _ from hb); have cD := D.cell; have lD := D.lt; clear D
      go_simp
      first | exact Grows.refl _ | exact ⟨Grows.refl _, trivial⟩
     refine val_cons ?_ (fun v2 => ?_)
     ·intro L vs w1 hvs hat hb hI hF; try simp [factsI, Region.binds, Is] at hF
      have D := (HB.out.1).grow (show Below _ _ _ from hb); have cD := D.cell; have lD := D.lt; clear D
      go_simp
      first | exact Grows.refl _ | exact ⟨Grows.refl _, trivial⟩
     refine val_cons ?_ (fun v3 => ?_)
     ·intro L vs w1 hvs hat hb hI hF; try simp [factsI, Region.binds, Is] at hF
      have hb0 := hb
      go_simp
      refine (HC1i.out _).mono ?_
      rintro e w2 ⟨rfl, hb2⟩
      first | exact ⟨rfl, hb2⟩ | exact ⟨_, rfl, hb2, trivial, rfl⟩ | exact ⟨_, rfl, hb2, rfl⟩
     refine val_cons ?_ (fun v4 => ?_)
     ·intro L vs w1 hvs hat hb hI hF; try simp [factsI, Region.binds, Is] at hF
      have hc := (Grows.cells hb).1
      clear hI
      go_simp
      try simp [upd]
      try first | exact Grows.refl _ | exact trivial | exact ⟨Grows.refl _, trivial⟩
     refine val_cons ?_ (fun v5 => ?_)
     ·intro L vs w1 hvs hat hb hI hF; try simp [factsI, Region.binds, Is] at hF
      have D := (HB.out.2.2.1).grow (show Below _ _ _ from hb); have cD := D.cell; have lD := D.lt; clear D
      go_simp
      first | exact Grows.refl _ | exact ⟨Grows.refl _, trivial⟩
     refine val_cons ?_ (fun v6 => ?_)
     ·intro L vs w1 hvs hat hb hI hF; try simp [factsI, Region.binds, Is] at hF
      go_simp
      rw [cell_if y1 t1 (fun b => Result.ok (Next.value (Value.bool b)) w1)]
      exact ⟨Grows.refl _, by rw [← HQ.out.1]⟩
     refine val_cons ?_ (fun v7 => ?_)
     ·intro L vs w1 hvs hat hb hI hF; try simp [factsI, Region.binds, Is] at hF
      have hc := (Grows.cells hb).1
      clear hI
      go_simp
      try simp [upd]
      try first | exact Grows.refl _ | exact trivial | exact ⟨Grows.refl _, trivial⟩
     refine val_cons ?_ (fun v8 => ?_)
     ·intro L vs w1 hvs hat hb hI hF; try simp [factsI, Region.binds, Is] at hF
      have hc := (Grows.cells hb).1
      clear hI
      go_simp
      try simp [upd]
      try first | exact Grows.refl _ | exact trivial | exact ⟨Grows.refl _, trivial⟩
     refine val_cons ?_ (fun v9 => ?_)
     ·intro L vs w1 hvs hat hb hI hF; try simp [factsI, Region.binds, Is] at hF
      have D := (HB.out.2.1).grow (show Below _ _ _ from hb); have cD := D.cell; have lD := D.lt; clear D
      go_simp
      first | exact Grows.refl _ | exact ⟨Grows.refl _, trivial⟩
     refine val_cons ?_ (fun v10 => ?_)
     ·intro L vs w1 hvs hat hb hI hF; try simp [factsI, Region.binds, Is] at hF
      have D := (HB.out.1).grow (show Below _ _ _ from hb); have cD := D.cell; have lD := D.lt; clear D
      go_simp
      first | exact Grows.refl _ | exact ⟨Grows.refl _, trivial⟩
     refine val_cons ?_ (fun v11 => ?_)
     ·intro L vs w1 hvs hat hb hI hF; try simp [factsI, Region.binds, Is] at hF
      have hb0 := hb
      go_simp
      refine (HC2i.out _).mono ?_
      rintro e w2 ⟨rfl, hb2⟩
      first | exact ⟨rfl, hb2⟩ | exact ⟨_, rfl, hb2, trivial, rfl⟩ | exact ⟨_, rfl, hb2, rfl⟩
     refine val_cons ?_ (fun v12 => ?_)
     ·intro L vs w1 hvs hat hb hI hF; try simp [factsI, Region.binds, Is] at hF
      have hc := (Grows.cells hb).1
      clear hI
      go_simp
      try simp [upd]
      try first | exact Grows.refl _ | exact trivial | exact ⟨Grows.refl _, trivial⟩
     refine val_cons ?_ (fun v13 => ?_)
     ·intro L vs w1 hvs hat hb hI hF; try simp [factsI, Region.binds, Is] at hF
      have D := (HB.out.2.2.1).grow (show Below _ _ _ from hb); have cD := D.cell; have lD := D.lt; clear D
      go_simp
      first | exact Grows.refl _ | exact ⟨Grows.refl _, trivial⟩
     refine val_cons ?_ (fun v14 => ?_)
     ·intro L vs w1 hvs hat hb hI hF; try simp [factsI, Region.binds, Is] at hF
      go_simp
      rw [cell_if y2 t2 (fun b => Result.ok (Next.value (Value.bool b)) w1)]
      exact ⟨Grows.refl _, by rw [← HQ.out.2.1]⟩
     refine val_cons ?_ (fun v15 => ?_)
     ·intro L vs w1 hvs hat hb hI hF; try simp [factsI, Region.binds, Is] at hF
      have hc := (Grows.cells hb).1
      clear hI
      go_simp
      try simp [upd]
      try first | exact Grows.refl _ | exact trivial | exact ⟨Grows.refl _, trivial⟩
     refine val_cons ?_ (fun v16 => ?_)
     ·intro L vs w1 hvs hat hb hI hF; try simp [factsI, Region.binds, Is] at hF
      have hc := (Grows.cells hb).1
      clear hI
      go_simp
      try simp [upd]
      try first | exact Grows.refl _ | exact trivial | exact ⟨Grows.refl _, trivial⟩
     refine val_cons ?_ (fun v17 => ?_)
     ·intro L vs w1 hvs hat hb hI hF; try simp [factsI, Region.binds, Is] at hF
      have hc := (Grows.cells hb).1
      clear hI
      go_simp
      try simp [upd]
      try first | exact Grows.refl _ | exact trivial | exact ⟨Grows.refl _, trivial⟩
     refine val_cons ?_ (fun v18 => ?_)
     ·intro L vs w1 hvs hat hb hI hF; try simp [factsI, Region.binds, Is] at hF
      have hc := (Grows.cells hb).1
      clear hI
      go_simp
      try simp [upd]
      try first | exact Grows.refl _ | exact trivial | exact ⟨Grows.refl _, trivial⟩
     refine val_cons ?_ (fun v19 => ?_)
     ·intro L vs w1 hvs hat hb hI hF; try simp [factsI, Region.binds, Is] at hF
      have hc := (Grows.cells hb).1
      clear hI
      go_simp
      try simp [upd]
      try first | exact Grows.refl _ | exact trivial | exact ⟨Grows.refl _, trivial⟩
     refine val_cons ?_ (fun v20 => ?_)
     ·intro L vs w1 hvs hat hb hI hF; try simp [factsI, Region.binds, Is] at hF
      have hc := (Grows.cells hb).1
      clear hI
      go_simp
      try simp [upd]
      try first | exact Grows.refl _ | exact trivial | exact ⟨Grows.refl _, trivial⟩
     refine val_cons ?_ (fun v21 => ?_)
     ·intro L vs w1 hvs hat hb hI hF; try simp [factsI, Region.binds, Is] at hF
      have hc := (Grows.cells hb).1
      clear hI
      go_simp
      try simp [upd]
      try first | exact Grows.refl _ | exact trivial | exact ⟨Grows.refl _, trivial⟩
     refine val_cons ?_ (fun v22 => ?_)
     ·intro L vs w1 hvs hat hb hI hF; try simp [factsI, Region.binds, Is] at hF
      have hc := (Grows.cells hb).1
      clear hI
      go_simp
      try simp [upd]
      try first | exact Grows.refl _ | exact trivial | exact ⟨Grows.refl _, trivial⟩
     refine val_cons ?_ (fun v23 => ?_)
     ·intro L vs w1 hvs hat hb hI hF; try simp [factsI, Region.binds, Is] at hF
      have hc := (Grows.cells hb).1
      clear hI
      go_simp
      try simp [upd]
      try first | exact Grows.refl _ | exact trivial | exact ⟨Grows.refl _, trivial⟩
     refine val_cons ?_ (fun v24 => ?_)
     ·intro L vs w1 hvs hat hb hI hF; try simp [factsI, Region.binds, Is] at hF
      have hc := (Grows.cells hb).1
      clear hI
      go_simp
      try simp [upd]
      try first | exact Grows.refl _ | exact trivial | exact ⟨Grows.refl _, trivial⟩
     refine val_nil ?_
     intro vs w1 hvs hb hI hF
     simp [Is, Nat.forall_lt_succ_right] at hF
     simp only [Act.put, List.setIfInBounds_toArray, List.set_cons_succ, List.set_cons_zero, hF]
     clear hF
     have hbw : Below wB.heap.size wB w1 := hb
     have HE := Lib.hid (And.intro (HB.out.2.1.grow hbw) (And.intro (HB.out.2.2.1.grow hbw) (And.intro (HB.out.2.2.2.1.grow hbw) (bel_trans HB.out.2.2.2.2 hbw))))
     clear hb hI hvs hbw
     go_wp2_with fail
     go_roundw
     case rel => exact ⟨i + 1, by have := HIK.out; omega, by go_num, HE⟩
     case measure => simp [intOf]; omega
    ·cases q3
     ·clear h hob
      refine wp_region_val Grows (fun _ _ _ => True) [Is (.pointer (some ⟨w.heap.size, 3, none⟩)), Is (clV f1), Is (motV (i : Nat) d), Is (clV y1), Is (.pointer (some ⟨w.heap.size + 1, 3, none⟩)), Is (clV t1), Is (.bool true), Is (.bool true), Is (.pointer (some ⟨w.heap.size, 6, none⟩)), Is (clV f2), Is (motV (i : Nat) d), Is (clV y2), Is (.pointer (some ⟨w.heap.size + 1, 6, none⟩)), Is (clV t2), Is (.bool true), Is (.bool true), Is (.bool true), Is (.pointer (some ⟨w.heap.size, 9, none⟩)), Is (clV f3), Is (motV (i : Nat) d), Is (clV y3), Is (.pointer (some ⟨w.heap.size + 1, 9, none⟩)), Is (clV t3), Is (.bool false), Is (.bool false)] (by kernel_rfl) (by kernel_rfl) rfl Grows.refl (fun _ _ _ => Grows.trans) (stable_mem ⟨fun _ _ _ h _ => h, fun _ _ _ h _ => h, fun _ _ _ h _ => h, fun _ _ _ h _ => h, fun _ _ _ h _ => h, fun _ _ _ h _ => h, fun _ _ _ h _ => h, fun _ _ _ h _ => h, fun _ _ _ h _ => h, fun _ _ _ h _ => h, fun _ _ _ h _ => h, fun _ _ _ h _ => h, fun _ _ _ h _ => h, fun _ _ _ h _ => h, fun _ _ _ h _ => h, fun _ _ _ h _ => h, fun _ _ _ h _ => h, fun _ _ _ h _ => h, fun _ _ _ h _ => h, fun _ _ _ h _ => h, fun _ _ _ h _ => h, fun _ _ _ h _ => h, fun _ _ _ h _ => h, fun _ _ _ h _ => h, fun _ _ _ h _ => h, trivial⟩) wB (Below.drew (Below.refl _ _)) trivial ?_
      refine val_cons ?_ (fun v0 => ?_)
      ·intro L vs w1 hvs hat hb hI hF; try simp [factsI, Region.binds, Is] at hF
       have hc := (Grows.cells hb).1
       clear hI
       go_simp
       try simp [upd]
       try first | exact Grows.refl _ | exact trivial | exact ⟨Grows.refl _, trivial⟩
      refine val_cons ?_ (fun v1 => ?_)
      ·intro L vs w1 hvs hat hb hI hF; try simp [factsI, Region.binds, Is] at hF
       have D := (HB.out.2.1).grow (show Below _ _ _ from hb); have cD := D.cell; have lD := D.lt; clear D
       go_simp
       first | exact Grows.refl _ | exact ⟨Grows.refl _, trivial⟩
      refine val_cons ?_ (fun v2 => ?_)
      ·intro L vs w1 hvs hat hb hI hF; try simp [factsI, Region.binds, Is] at hF
       have D := (HB.out.1).grow (show Below _ _ _ from hb); have cD := D.cell; have lD := D.lt; clear D
       go_simp
       first | exact Grows.refl _ | exact ⟨Grows.refl _, trivial⟩
      refine val_cons ?_ (fun v3 => ?_)
      ·intro L vs w1 hvs hat hb hI hF; try simp [factsI, Region.binds, Is] at hF
       have hb0 := hb
       go_simp
       refine (HC1i.out _).mono ?_
       rintro e w2 ⟨rfl, hb2⟩
       first | exact ⟨rfl, hb2⟩ | exact ⟨_, rfl, hb2, trivial, rfl⟩ | exact ⟨_, rfl, hb2, rfl⟩
      refine val_cons ?_ (fun v4 => ?_)
      ·intro L vs w1 hvs hat hb hI hF; try simp [factsI, Region.binds, Is] at hF
       have hc := (Grows.cells hb).1
       clear hI
       go_simp
       try simp [upd]
       try first | exact Grows.refl _ | exact trivial | exact ⟨Grows.refl _, trivial⟩
      refine val_cons ?_ (fun v5 => ?_)
      ·intro L vs w1 hvs hat hb hI hF; try simp [factsI, Region.binds, Is] at hF
       have D := (HB.out.2.2.1).grow (show Below _ _ _ from hb); have cD := D.cell; have lD := D.lt; clear D
       go_simp
       first | exact Grows.refl _ | exact ⟨Grows.refl _, trivial⟩
      refine val_cons ?_ (fun v6 => ?_)
      ·intro L vs w1 hvs hat hb hI hF; try simp [factsI, Region.binds, Is] at hF
       go_simp
       rw [cell_if y1 t1 (fun b => Result.ok (Next.value (Value.bool b)) w1)]
       exact ⟨Grows.refl _, by rw [← HQ.out.1]⟩
      refine val_cons ?_ (fun v7 => ?_)
      ·intro L vs w1 hvs hat hb hI hF; try simp [factsI, Region.binds, Is] at hF
       have hc := (Grows.cells hb).1
       clear hI
       go_simp
       try simp [upd]
       try first | exact Grows.refl _ | exact trivial | exact ⟨Grows.refl _, trivial⟩
      refine val_cons ?_ (fun v8 => ?_)
      ·intro L vs w1 hvs hat hb hI hF; try simp [factsI, Region.binds, Is] at hF
       have hc := (Grows.cells hb).1
       clear hI
       go_simp
       try simp [upd]
       try first | exact Grows.refl _ | exact trivial | exact ⟨Grows.refl _, trivial⟩
      refine val_cons ?_ (fun v9 => ?_)
      ·intro L vs w1 hvs hat hb hI hF; try simp [factsI, Region.binds, Is] at hF
       have D := (HB.out.2.1).grow (show Below _ _ _ from hb); have cD := D.cell; have lD := D.lt; clear D
       go_simp
       first | exact Grows.refl _ | exact ⟨Grows.refl _, trivial⟩
      refine val_cons ?_ (fun v10 => ?_)
      ·intro L vs w1 hvs hat hb hI hF; try simp [factsI, Region.binds, Is] at hF
       have D := (HB.out.1).grow (show Below _ _ _ from hb); have cD := D.cell; have lD := D.lt; clear D
       go_simp
       first | exact Grows.refl _ | exact ⟨Grows.refl _, trivial⟩
      refine val_cons ?_ (fun v11 => ?_)
      ·intro L vs w1 hvs hat hb hI hF; try simp [factsI, Region.binds, Is] at hF
       have hb0 := hb
       go_simp
       refine (HC2i.out _).mono ?_
       rintro e w2 ⟨rfl, hb2⟩
       first | exact ⟨rfl, hb2⟩ | exact ⟨_, rfl, hb2, trivial, rfl⟩ | exact ⟨_, rfl, hb2, rfl⟩
      refine val_cons ?_ (fun v12 => ?_)
      ·intro L vs w1 hvs hat hb hI hF; try simp [factsI, Region.binds, Is] at hF
       have hc := (Grows.cells hb).1
       clear hI
       go_simp
       try simp [upd]
       try first | exact Grows.refl _ | exact trivial | exact ⟨Grows.refl _, trivial⟩
      refine val_cons ?_ (fun v13 => ?_)
      ·intro L vs w1 hvs hat hb hI hF; try simp [factsI, Region.binds, Is] at hF
       have D := (HB.out.2.2.1).grow (show Below _ _ _ from hb); have cD := D.cell; have lD := D.lt; clear D
       go_simp
       first | exact Grows.refl _ | exact ⟨Grows.refl _, trivial⟩
      refine val_cons ?_ (fun v14 => ?_)
      ·intro L vs w1 hvs hat hb hI hF; try simp [factsI, Region.binds, Is] at hF
       go_simp
       rw [cell_if y2 t2 (fun b => Result.ok (Next.value (Value.bool b)) w1)]
       exact ⟨Grows.refl _, by rw [← HQ.out.2.1]⟩
      refine val_cons ?_ (fun v15 => ?_)
      ·intro L vs w1 hvs hat hb hI hF; try simp [factsI, Region.binds, Is] at hF
       have hc := (Grows.cells hb).1
       clear hI
       go_simp
       try simp [upd]
       try first | exact Grows.refl _ | exact trivial | exact ⟨Grows.refl _, trivial⟩
      refine val_cons ?_ (fun v16 => ?_)
      ·intro L vs w1 hvs hat hb hI hF; try simp [factsI, Region.binds, Is] at hF
       have hc := (Grows.cells hb).1
       clear hI
       go_simp
       try simp [upd]
       try first | exact Grows.refl _ | exact trivial | exact ⟨Grows.refl _, trivial⟩
      refine val_cons ?_ (fun v17 => ?_)
      ·intro L vs w1 hvs hat hb hI hF; try simp [factsI, Region.binds, Is] at hF
       have hc := (Grows.cells hb).1
       clear hI
       go_simp
       try simp [upd]
       try first | exact Grows.refl _ | exact trivial | exact ⟨Grows.refl _, trivial⟩
      refine val_cons ?_ (fun v18 => ?_)
      ·intro L vs w1 hvs hat hb hI hF; try simp [factsI, Region.binds, Is] at hF
       have D := (HB.out.2.1).grow (show Below _ _ _ from hb); have cD := D.cell; have lD := D.lt; clear D
       go_simp
       first | exact Grows.refl _ | exact ⟨Grows.refl _, trivial⟩
      refine val_cons ?_ (fun v19 => ?_)
      ·intro L vs w1 hvs hat hb hI hF; try simp [factsI, Region.binds, Is] at hF
       have D := (HB.out.1).grow (show Below _ _ _ from hb); have cD := D.cell; have lD := D.lt; clear D
       go_simp
       first | exact Grows.refl _ | exact ⟨Grows.refl _, trivial⟩
      refine val_cons ?_ (fun v20 => ?_)
      ·intro L vs w1 hvs hat hb hI hF; try simp [factsI, Region.binds, Is] at hF
       have hb0 := hb
       go_simp
       refine (HC3i.out _).mono ?_
       rintro e w2 ⟨rfl, hb2⟩
       first | exact ⟨rfl, hb2⟩ | exact ⟨_, rfl, hb2, trivial, rfl⟩ | exact ⟨_, rfl, hb2, rfl⟩
      refine val_cons ?_ (fun v21 => ?_)
      ·intro L vs w1 hvs hat hb hI hF; try simp [factsI, Region.binds, Is] at hF
       have hc := (Grows.cells hb).1
       clear hI
       go_simp
       try simp [upd]
       try first | exact Grows.refl _ | exact trivial | exact ⟨Grows.refl _, trivial⟩
      refine val_cons ?_ (fun v22 => ?_)
      ·intro L vs w1 hvs hat hb hI hF; try simp [factsI, Region.binds, Is] at hF
       have D := (HB.out.2.2.1).grow (show Below _ _ _ from hb); have cD := D.cell; have lD := D.lt; clear D
       go_simp
       first | exact Grows.refl _ | exact ⟨Grows.refl _, trivial⟩
      refine val_cons ?_ (fun v23 => ?_)
      ·intro L vs w1 hvs hat hb hI hF; try simp [factsI, Region.binds, Is] at hF
       go_simp
       rw [cell_if y3 t3 (fun b => Result.ok (Next.value (Value.bool b)) w1)]
       exact ⟨Grows.refl _, by rw [← HQ.out.2.2]⟩
      refine val_cons ?_ (fun v24 => ?_)
      ·intro L vs w1 hvs hat hb hI hF; try simp [factsI, Region.binds, Is] at hF
       have hc := (Grows.cells hb).1
       clear hI
       go_simp
       try simp [upd]
       try first | exact Grows.refl _ | exact trivial | exact ⟨Grows.refl _, trivial⟩
      refine val_nil ?_
      intro vs w1 hvs hb hI hF
      simp [Is, Nat.forall_lt_succ_right] at hF
      simp only [Act.put, List.setIfInBounds_toArray, List.set_cons_succ, List.set_cons_zero, hF]
      clear hF
      have hbw : Below wB.heap.size wB w1 := hb
      have HE := Lib.hid (And.intro (HB.out.2.1.grow hbw) (And.intro (HB.out.2.2.1.grow hbw) (And.intro (HB.out.2.2.2.1.grow hbw) (bel_trans HB.out.2.2.2.2 hbw))))
      clear hb hI hvs hbw
      go_wp2_with fail
      go_roundw
      case rel => exact ⟨i + 1, by have := HIK.out; omega, by go_num, HE⟩
      case measure => simp [intOf]; omega
     ·simp at h
end Go.Proofs.YtkfimbonmnoglaaGreatDoor
end
