import Derived.Test.YtlbhjikkpbknnaaGreatDoorHQ8
/-
  Given contracts of functions of the program, and laws for them, one behind the other.
-/
set_option linter.unusedVariables false
set_option linter.unusedSimpArgs false
set_option linter.unusedSectionVars false
section
namespace Go.Proofs.YtlbhjikkpbknnaaGreatDoor
open Go.RowKit Go.Rel Go.Draw
set_option maxRecDepth 100000
/-! the program's CheckGo, and Holds in all cases -/
theorem gone_set {m : List Sol} (hm : m.length ≤ 12) {gone : List Int} {G : U} (h : setI m.length gone = some G) : ∀ i, i < m.length → G.getLsbD i = gone.contains (i : Int) := fun i _ => by
 have e := setI_list hm h
 rw [e, contains_listU]
theorem free_stand {m : List Sol} {gone : List Int} {a b c : Nat} {G : U} (h12 : m.length ≤ 12) (hg : goodM m = true) (hs : setI m.length gone = some G) (hx : IsMv m.length (a, b, c)) : freeM m (a, b, c) G = !(standM m gone (a, b, c)).isSome := by
 rw [free_holds m (by omega), holds_stand m (good_apart hg) (a, b, c) hx G gone (gone_set h12 hs)]
set_option maxHeartbeats 8000000 in
theorem CheckGo_spec {w : World} {v gv : Value} {m : List Sol} {gone : List Int} {a b c : Int} (H : SlS w v m) (HG : SlI w gv gone) : Calls Tryz.prog 17 #[v, gv, .agg #[.int .i64 a, .int .i64 b, .int .i64 c]] w fun e w' => e = .returned (.tuple #[.bool (decide (movedE m gone (a, b, c) = 0) && !(standE m gone (a, b, c)).isSome), .int .i64 (movedE m gone (a, b, c))]) ∧ Below w.heap.size w w' := by
 obtain ⟨R, hR⟩ : ∃ R, R = (decide (movedE m gone (a, b, c) = 0) && !(standE m gone (a, b, c)).isSome) := ⟨_, rfl⟩
 rw [← hR]
 have HH := Lib.hid (And.intro H (And.intro HG hR))
 clear H HG hR
 go_enter Tryz.func17, Tryz.ntmps17
 go_wp2_with fail
 obtain ⟨w2, hw2⟩ : ∃ w2, w2 = w.alloc (.cells #[.int .i64 a, .int .i64 b, .int .i64 c] 25) := ⟨_, rfl⟩
 have H2 : Hid (Blk w2 w.heap.size #[.int .i64 a, .int .i64 b, .int .i64 c] 25 ∧ Below w.heap.size w w2) := Lib.hid (by
  subst hw2
  exact ⟨Blk.new _ _ _, bel_alloc (bel_refl _) _⟩)
 rw [← hw2]
 clear hw2
 refine (moved_spec (a := a) (b := b) (c := c) (HH.out.1.mono H2.out.2) (HH.out.2.1.mono H2.out.2)).mono ?_
 rintro e w3 ⟨hb, p, G, rfl, hx⟩
 have hB := H2.out.1.grow hb
 have cb0 := hB.cell 0; have cb1 := hB.cell 1; have cb2 := hB.cell 2; have lb := hB.lt
 simp only [List.getElem?_toArray, List.getElem?_cons_zero, List.getElem?_cons_succ] at cb0 cb1 cb2
 have hbb : Below w.heap.size w w3 := bel_trans H2.out.2 hb
 have hsz := H2.out.2.size
 obtain ⟨N0, hN0⟩ : ∃ N0, N0 = w.heap.size := ⟨_, rfl⟩
 rw [← hN0] at cb0 cb1 cb2 lb
 rw [← hN0]
 by_cases h0 : movedE m gone (a, b, c) = 0
 ·obtain ⟨hl, hE, hs, ha, hm, g, mb, rfl, hg, hmb, hM⟩ := hx h0
  obtain ⟨_, hgood, _, pa, pb, pc, rfl, rfl, rfl, hpa, hpb, hpc, hmv, hIs⟩ := movedE_zero h0
  have hall := (movesL_all (by omega) (movesL_mem (x := ((pa : Int), (pb : Int), (pc : Int))) (Int.natCast_nonneg pa) hmv)).2
  have HW := Lib.hid (free_spec hM hl (x := (pa, pb, pc)) (List.getElem?_eq_getElem hpa) hall G)
  have hfr := free_stand hl hgood hs hIs
  have hRe : R = !(standM m gone (pa, pb, pc)).isSome := by
   rw [HH.out.2.2, h0]
   unfold standE
   rw [if_pos h0]; rfl
  have HB := Lib.hid (And.intro hbb (And.intro (Nat.le_trans hsz hmb) (And.intro h0 (And.intro hN0 (hRe.trans hfr.symm)))))
  rw [h0]
  clear hb hx h0 hM hs ha hm hE hB hbb hsz hg hmb hN0 hfr hRe hgood hmv hIs hall
  go_wp2_with fail
  refine HW.out.mono ?_
  rintro e w4 ⟨rfl, hW, hgr⟩
  have hb4 := gb_base HB.out.1 hgr HB.out.2.1
  rw [← HB.out.2.2.2.2]
  have HG := Lib.hid hb4
  clear hW hgr hb4
  go_wp2_with fail
  go_ret2
  exact ⟨by rw [HB.out.2.2.1]; rfl, HB.out.2.2.2.1 ▸ HG.out⟩
 ·have e0 : (movedE m gone (a, b, c) != 0) = true := by simpa using h0
  have hRe : R = false := by rw [HH.out.2.2, decide_eq_false h0]; rfl
  have HE := Lib.hid (And.intro hbb (And.intro h0 (And.intro hRe hN0)))
  clear hx h0 hB hb hbb hN0 hRe
  go_wp2_with fail
  go_ret2
  exact ⟨by rw [HE.out.2.2.1]; rfl, HE.out.1⟩
set_option maxHeartbeats 8000000 in
theorem moved_err {w : World} {v gv : Value} {l : List Sol} {gone : List Int} {a b c : Int} (H : SlS w v l) (HG : SlI w gv gone) (hEz : movedE l gone (a, b, c) ≠ 0) : Calls Tryz.prog 68 #[v, gv, .agg #[.int .i64 a, .int .i64 b, .int .i64 c]] w (fun e w' => Below w.heap.size w w' ∧ ∃ p G, e = .returned (.tuple #[.pointer p, .int .u64 (uI G), .int .i64 (movedE l gone (a, b, c))])) := by
 have HH := Lib.hid (And.intro H HG)
 have HEZ := Lib.hid hEz
 clear hEz
 clear H HG
 go_enter Tryz.func68, Tryz.ntmps68
 go_wp2_with fail
 obtain ⟨w2, hw2⟩ : ∃ w2, w2 = (w.alloc (.cells #[.int .i64 a, .int .i64 b, .int .i64 c] 25)).alloc (.cells #[.int .i64 a] 3) := ⟨_, rfl⟩
 have H2 : Hid (Blk w2 w.heap.size #[.int .i64 a, .int .i64 b, .int .i64 c] 25 ∧ Blk w2 (w.heap.size + 1) #[.int .i64 a] 3 ∧ Below w.heap.size w w2) := Lib.hid (by
  subst hw2
  exact ⟨(Blk.new _ _ _).alloc _, by have := Blk.new (w.alloc (.cells #[.int .i64 a, .int .i64 b, .int .i64 c] 25)) #[.int .i64 a] 3; simpa using this, bel_alloc (bel_alloc (bel_refl _) _) _⟩)
 rw [← hw2]
 clear hw2
 refine (asked_spec (of := [a]) (HH.out.1.mono H2.out.2.2) (HH.out.2.mono H2.out.2.2) (sl_news H2.out.2.1)).mono ?_
 rintro e w3 ⟨hb, p, G, rfl, hx, hn⟩
 have hB := H2.out.1.grow hb
 have cb := hB.cell; have lb := hB.lt
 have hbb : Below w.heap.size w w3 := bel_trans H2.out.2.2 hb
 obtain ⟨N0, hN0⟩ : ∃ N0, N0 = w.heap.size := ⟨_, rfl⟩
 have hsz := H2.out.2.2.size
 rw [← hN0] at cb lb ⊢
 clear hN0
 by_cases h0 : askE l gone [a] = 0
 ·obtain ⟨_, _, _, _, g, _, rfl, _, _, _⟩ := hx h0
  cases hm : isMoveI b c
  ·have hE : movedE l gone (a, b, c) = 1 := by unfold movedE; rw [if_neg (by simpa using h0)]; simp [hm]
   have HE := Lib.hid (And.intro hE (And.intro hbb hm))
   have HMV := Lib.hid (isMove_spec b c w3)
   rw [hm] at HMV
   rw [h0]
   clear hx hn h0 hB hb hbb hE hm
   go_wp2_with fail
   refine HMV.out.mono ?_
   rintro e w4 ⟨rfl, hw4⟩
   have hw5 := hw4.symm
   subst hw5
   clear hw4
   go_wp2_with fail
   refine bodyPost_ret (v := .tuple #[.pointer (some ⟨g, 0, none⟩), .int .u64 (uI G), .int .i64 1]) (by simp [results, Tryz.results68, go_sem]) rfl ?_
   exact ⟨HE.out.2.1, _, G, by rw [HE.out.1]⟩
  ·exact absurd (by unfold movedE; rw [if_neg (by simpa using h0)]; simp [hm]) HEZ.out
 ·have hE : movedE l gone (a, b, c) = askE l gone [a] := by unfold movedE; rw [if_pos h0]
  have e0 : (askE l gone [a] == 0) = false := by simpa using h0
  obtain ⟨rfl, rfl⟩ := hn h0
  have HE := Lib.hid (And.intro hE (And.intro hbb h0))
  clear hx hn h0 hB hb hbb hE
  go_wp2_with fail
  refine bodyPost_ret (v := .tuple #[.pointer none, .int .u64 (uI 0), .int .i64 (askE l gone [a])]) (by simp [results, Tryz.results68, go_sem]) rfl ?_
  exact ⟨HE.out.2.1, _, _, by rw [HE.out.1]⟩
def I4h (N0 : Nat) (E : Int) (W : World) : Prop := Blk W (N0 + 1) #[.int .i64 0] 3 ∧ Blk W (N0 + 1 + 1) #[.int .i64 0] 3 ∧ Blk W (N0 + 1 + 1 + 1) #[.bool false] 4 ∧ Blk W (N0 + 1 + 1 + 1 + 1) #[.int .i64 E] 29
set_option maxHeartbeats 8000000 in
theorem Holds_err {w : World} {v gv : Value} {l : List Sol} {gone : List Int} {a b c : Int} (H : SlS w v l) (HG : SlI w gv gone) (hE : movedE l gone (a, b, c) ≠ 0) :
  Calls Tryz.prog 15 #[v, gv, .agg #[.int .i64 a, .int .i64 b, .int .i64 c]] w fun e w' => e = .returned (hld4 none (movedE l gone (a, b, c))) ∧ Below w.heap.size w w' := by
 obtain ⟨E, hEE⟩ : ∃ E, E = movedE l gone (a, b, c) := ⟨_, rfl⟩
 rw [← hEE] at hE ⊢
 have HH := Lib.hid (And.intro H (And.intro HG hEE))
 clear H HG hEE
 refine (callsIn_wide (n := 9)).1 ?_
 refine callsIn_of_wp_marks Tryz.func15 rfl trivial ?_ rfl
 simp only [Tryz.ntmps15, List.size_toArray, List.length_cons, List.length_nil, Nat.reduceAdd, Nat.reduceSub, Array.replicate_succ, Array.replicate_zero, List.push_toArray, List.append_toArray, List.nil_append, List.cons_append]
 refine wpIn_wide.2 ?_
 go_wp2_with fail
 obtain ⟨w1, hw1⟩ : ∃ w1, w1 = ((((w.alloc (.cells #[.int .i64 a, .int .i64 b, .int .i64 c] 25)).alloc (.cells #[.int .i64 0] 3)).alloc (.cells #[.int .i64 0] 3)).alloc (.cells #[.bool false] 4)).alloc (.cells #[.int .i64 0] 29) := ⟨_, rfl⟩
 rw [← hw1]
 have b6 : Blk w1 (w.heap.size + 1) #[.int .i64 0] 3 := by subst hw1; exact (by repeat (first | with_reducible assumption | (refine Blk.at _ _ ?_; (simp; done)) | with_reducible refine Blk.alloc ?_ _ | with_reducible refine Blk.drew ?_ | with_reducible refine Blk.rowS ?_ _ | with_reducible refine Blk.rowO ?_ _ (by simp)))
 have b7 : Blk w1 (w.heap.size + 1 + 1) #[.int .i64 0] 3 := by subst hw1; exact (by repeat (first | with_reducible assumption | (refine Blk.at _ _ ?_; (simp; done)) | with_reducible refine Blk.alloc ?_ _ | with_reducible refine Blk.drew ?_ | with_reducible refine Blk.rowS ?_ _ | with_reducible refine Blk.rowO ?_ _ (by simp)))
 have b8 : Blk w1 (w.heap.size + 1 + 1 + 1) #[.bool false] 4 := by subst hw1; exact (by repeat (first | with_reducible assumption | (refine Blk.at _ _ ?_; (simp; done)) | with_reducible refine Blk.alloc ?_ _ | with_reducible refine Blk.drew ?_ | with_reducible refine Blk.rowS ?_ _ | with_reducible refine Blk.rowO ?_ _ (by simp)))
 have b9 : Blk w1 (w.heap.size + 1 + 1 + 1 + 1) #[.int .i64 0] 29 := by subst hw1; exact Blk.at _ _ (by simp)
 have hsz1 : w1.heap.size = w.heap.size + 1 + 1 + 1 + 1 + 1 := by subst hw1; simp
 have hb1 : Below w.heap.size w w1 := by subst hw1; exact (by repeat (first | with_reducible exact bel_refl _ | with_reducible assumption | with_reducible refine bel_drewN ?_ _ | with_reducible refine bel_drew ?_ | with_reducible refine bel_alloc ?_ _ | with_reducible refine bel_row ?_ ?_ _ | with_reducible refine bel_set ?_ ?_ _ | refine bel_trans ?_ (by with_reducible assumption) | (simp; done) | (simp; omega)))
 clear hw1
 refine (moved_err (HH.out.1.mono hb1) (HH.out.2.1.mono hb1) (by rw [← HH.out.2.2]; exact hE)).mono ?_
 rintro e w2 ⟨hb2, p, G2, rfl⟩
 rw [← HH.out.2.2]
 have c9 : ∀ o1 o2, ((w2.alloc o1).alloc o2).cell? ⟨w.heap.size + 1 + 1 + 1 + 1, 0, none⟩ = some (.int .i64 0) := fun o1 o2 => (((b9.grow hb2).alloc o1).alloc o2).cell 0
 have f9 : ∀ o1 o2, ((w2.alloc o1).alloc o2).frozen? ⟨w.heap.size + 1 + 1 + 1 + 1, 0, none⟩ = false := fun o1 o2 => (((b9.grow hb2).alloc o1).alloc o2).free 0
 have l9 := (b9.grow hb2).lt
 have hsz2 := hb2.size
 have n1 : w2.heap.size ≠ w.heap.size + 1 + 1 + 1 + 1 := by omega
 have n2 : w.heap.size + 1 + 1 + 1 + 1 ≠ w2.heap.size := by omega
 have H2 := Lib.hid (And.intro (b6.grow hb2) (And.intro (b7.grow hb2) (And.intro (b8.grow hb2) (And.intro (b9.grow hb2) (bel_trans hb1 hb2)))))
 clear hb1 hb2 b6 b7 b8 b9
 go_wp2_with fail
 obtain ⟨N0, hN0⟩ : ∃ N0, N0 = w.heap.size := ⟨_, rfl⟩
 obtain ⟨ws, hws⟩ : ∃ ws, ws = ((w2.alloc (.cells #[.pointer p] 80)).alloc (.cells #[.int .u64 (uI G2)] 81)).setCell ⟨w.heap.size + 1 + 1 + 1 + 1, 0, none⟩ (.int .i64 E) := ⟨_, rfl⟩
 rw [← hws]
 have hI0 : I4h N0 E ws := by
  subst hws hN0
  refine ⟨(((H2.out.1.alloc _).alloc _).other (by simp <;> omega) _), (((H2.out.2.1.alloc _).alloc _).other (by simp <;> omega) _), (((H2.out.2.2.1.alloc _).alloc _).other (by simp <;> omega) _), ?_⟩
  exact ((H2.out.2.2.2.1.alloc _).alloc _).set 0 (.int .i64 E)
 have hB0 : Below N0 w ws := by
  subst hws hN0
  exact bel_set (bel_alloc (bel_alloc H2.out.2.2.2.2 _) _) (by simp; omega) _
 rw [← hN0]
 have HI0 := Lib.hid (And.intro hI0 (And.intro hB0 hN0))
 clear hws hI0 hB0 hN0 c9 f9 l9 n1 n2 hsz2
 refine wp_region_val (Below N0) (fun L vs W => I4h N0 E W) [Is (.int .i64 E), AnyV, AnyV, AnyV, AnyV] (by kernel_rfl) (by kernel_rfl) rfl (Below.refl N0) (fun _ _ _ => Below.trans) (stable_mem ⟨fun _ _ _ h _ => h, fun _ _ _ h _ => h, fun _ _ _ h _ => h, fun _ _ _ h _ => h, fun _ _ _ h _ => h, trivial⟩) ws (Below.drew (Below.refl _ _)) HI0.out.1 ?_
 refine val_cons ?_ (fun v0 => ?_)
 ·intro L vs w1 hvs hat hb hI hF; try simp [factsI, Region.binds, Is] at hF
  have b := hI.2.2.2
  have c := b.cell 0
  have l := b.lt
  have HI2 := Lib.hid hI; clear hI b
  go_simp
  first | exact ⟨Below.refl _ _, HI2.out⟩ | exact HI2.out | exact ⟨HI2.out, trivial⟩
 refine val_cons ?_ (fun v1 => ?_)
 ·intro L vs w1 hvs hat hb hI hF; try simp [factsI, Region.binds, Is] at hF
  have b := hI.1
  have c := b.cell 0
  have f := b.free 0
  have l := b.lt
  have e := set_self1 b
  have HI2 := Lib.hid hI; clear hI b
  go_simp
  try rw [e]
  first | exact ⟨Below.refl _ _, HI2.out⟩ | exact HI2.out | exact ⟨HI2.out, trivial⟩ | exact ⟨Below.refl _ _, HI2.out, trivial⟩
 refine val_cons ?_ (fun v2 => ?_)
 ·intro L vs w1 hvs hat hb hI hF; try simp [factsI, Region.binds, Is] at hF
  have b := hI.2.1
  have c := b.cell 0
  have f := b.free 0
  have l := b.lt
  have e := set_self1 b
  have HI2 := Lib.hid hI; clear hI b
  go_simp
  try rw [e]
  first | exact ⟨Below.refl _ _, HI2.out⟩ | exact HI2.out | exact ⟨HI2.out, trivial⟩ | exact ⟨Below.refl _ _, HI2.out, trivial⟩
 refine val_cons ?_ (fun v3 => ?_)
 ·intro L vs w1 hvs hat hb hI hF; try simp [factsI, Region.binds, Is] at hF
  have b := hI.2.2.1
  have c := b.cell 0
  have f := b.free 0
  have l := b.lt
  have e := set_self1 b
  have HI2 := Lib.hid hI; clear hI b
  go_simp
  try rw [e]
  first | exact ⟨Below.refl _ _, HI2.out⟩ | exact HI2.out | exact ⟨HI2.out, trivial⟩ | exact ⟨Below.refl _ _, HI2.out, trivial⟩
 refine val_cons ?_ (fun v4 => ?_)
 ·intro L vs w1 hvs hat hb hI hF; try simp [factsI, Region.binds, Is] at hF
  have b := hI.2.2.2
  have c := b.cell 0
  have f := b.free 0
  have l := b.lt
  have e := set_self1 b
  have HI2 := Lib.hid hI; clear hI b
  go_simp
  try rw [e]
  first | exact ⟨Below.refl _ _, HI2.out⟩ | exact HI2.out | exact ⟨HI2.out, trivial⟩ | exact ⟨Below.refl _ _, HI2.out, trivial⟩
 refine val_nil ?_
 intro vs w1 hvs hb hI hF
 simp [Is, Nat.forall_lt_succ_right] at hF
 have e0 := hF.1.1.1.1
 have e1 := hF.1.1.1.2
 have e2 := hF.1.1.2
 have e3 := hF.1.2
 have e4 := hF.2
 clear hF
 simp only [Act.put, List.setIfInBounds_toArray, List.set_cons_succ, List.set_cons_zero, e0]
 clear e0
 have HZ := Lib.hid (And.intro hI (And.intro (HI0.out.2.1.trans hb) HI0.out.2.2))
 clear e1 e2 e3 e4 hvs hb hI
 go_wp2_with fail
 have c6P := HZ.out.1.1.cell
 have c7P := HZ.out.1.2.1.cell
 have c8P := HZ.out.1.2.2.1.cell
 have c9P := HZ.out.1.2.2.2.cell
 refine ⟨.tuple #[.int .i64 0, .int .i64 0, .bool false, .int .i64 E], by simp [results, Tryz.results15, go_sem, c6P, c7P, c8P, c9P], rfl, HZ.out.2.2 ▸ HZ.out.2.1⟩
theorem Holds_all {w : World} {v gv : Value} {m : List Sol} {gone : List Int} {a b c : Int} (H : SlS w v m) (HG : SlI w gv gone) (hT : Tab w) :
  Calls Tryz.prog 15 #[v, gv, .agg #[.int .i64 a, .int .i64 b, .int .i64 c]] w fun e w' => e = .returned (hld4 (standE m gone (a, b, c)) (movedE m gone (a, b, c))) ∧ Below w.heap.size w w' := by
 by_cases h0 : movedE m gone (a, b, c) = 0
 ·obtain ⟨hl, hgood, ⟨G, hs⟩, pa, pb, pc, rfl, rfl, rfl, hpa, hpb, hpc, hmv, hIs⟩ := movedE_zero h0
  have hall := (movesL_all (by omega) (movesL_mem (x := ((pa : Int), (pb : Int), (pc : Int))) (Int.natCast_nonneg pa) hmv)).2
  refine (Holds_spec (x := (pa, pb, pc)) H HG hT h0 hall hs hpa).mono ?_
  rintro e w2 ⟨hb, rfl⟩
  refine ⟨?_, hb⟩
  rw [h0]
  unfold standE
  rw [if_pos h0, holds_stand m (good_apart hgood) (pa, pb, pc) hIs G gone (gone_set hl hs)]
  show _ = Ending.returned (hld4 (standM m gone (pa, pb, pc)) 0)
  cases standM m gone (pa, pb, pc) <;> rfl
 ·rw [standE_err h0]
  exact Holds_err H HG h0
end Go.Proofs.YtlbhjikkpbknnaaGreatDoor
end
section
namespace Go.Proofs.YtlbhjikkpbknnaaGreatDoor
open Go.RowKit Go.Rel Go.Draw
set_option maxRecDepth 100000
/-! DrawWays -/
def wayO (m : List Sol) (x : MvI) : Bool := decide (movedE m [] x = 0) && (blockedM m (natMv x)).isSome
def wayLs (m : List Sol) (x : MvI) : List Int := if movedE m [] x = 0 then (match blockedM m (natMv x) with
 | some L => intsL L
 | none => []) else []
theorem refInWay_n {w : World} {v : Value} {m : List Sol} {a b c : Int} (H : SlS w v m) : Calls Tryz.prog 14 #[v, .agg #[.int .i64 a, .int .i64 b, .int .i64 c]] w fun e w' => ∃ u, e = .returned (.tuple #[u, .bool (wayO m (a, b, c)), .int .i64 (movedE m [] (a, b, c))]) ∧ SlI w' u (wayLs m (a, b, c)) ∧ Below w.heap.size w w' := by
 refine (refInWay_spec H).mono ?_
 rintro e w2 ⟨hb, u, o, rfl, h0, h1, h2⟩
 refine ⟨u, ?_, ?_, hb⟩
 ·congr 4
  by_cases h : movedE m [] (a, b, c) = 0
  ·unfold wayO; rw [(h0 h).1, decide_eq_true h]; rfl
  ·unfold wayO; rw [h2 h, decide_eq_false h]; rfl
 ·unfold wayLs
  by_cases h : movedE m [] (a, b, c) = 0
  ·rw [if_pos h]
   cases hb : blockedM m (natMv (a, b, c)) with
   | none => rw [h1 (by rw [(h0 h).1, hb]; rfl)]; exact sl_nil
   | some L => exact ((h0 h).2 L hb).sl
  ·rw [if_neg h, h1 (h2 h)]; exact sl_nil
theorem InWay_n {w : World} {v : Value} {m : List Sol} {a b c : Int} (H : SlS w v m) (hT : Tab w) : Calls Tryz.prog 13 #[v, .agg #[.int .i64 a, .int .i64 b, .int .i64 c]] w fun e w' => ∃ u, e = .returned (.tuple #[u, .bool (wayO m (a, b, c)), .int .i64 (movedE m [] (a, b, c))]) ∧ SlI w' u (wayLs m (a, b, c)) ∧ Below w.heap.size w w' := by
 refine (InWay_spec H hT).mono ?_
 rintro e w2 ⟨hb, u, o, rfl, h0, h1, h2⟩
 have hbl : movedE m [] (a, b, c) = 0 → blockedM m (natMv (a, b, c)) = if (inWayM m (natMv (a, b, c))).2 then none else some (listU (inWayM m (natMv (a, b, c))).1) := fun h => by
  obtain ⟨hl, hgood, _, pa, pb, pc, rfl, rfl, rfl, hpa, hpb, hpc, hmv, hIs⟩ := movedE_zero h
  exact blocked_eq m (good_apart hgood) (by omega) _ hIs
 refine ⟨u, ?_, ?_, hb⟩
 ·congr 4
  by_cases h : movedE m [] (a, b, c) = 0
  ·unfold wayO; rw [(h0 h).1, decide_eq_true h, hbl h]
   cases (inWayM m (natMv (a, b, c))).2 <;> rfl
  ·unfold wayO; rw [h2 h, decide_eq_false h]; rfl
 ·unfold wayLs
  by_cases h : movedE m [] (a, b, c) = 0
  ·rw [if_pos h, hbl h]
   cases hi : (inWayM m (natMv (a, b, c))).2 with
   | true => rw [if_pos rfl, h1 (by rw [(h0 h).1, hi]; rfl)]; exact sl_nil
   | false => rw [if_neg (by simp)]; exact ((h0 h).2 (by rw [(h0 h).1, hi]; rfl)).sl
  ·rw [if_neg h, h1 (h2 h)]; exact sl_nil
theorem lit_one {W : World} {b : Nat} {x : Value} {l : List Int} {t : TypeId} (h : Blk W b #[x] t) (hx : SlI W x l) : SlLL W (.slice (some ⟨b, 0, none⟩) 1 1) [l] :=
 lit_lists (us := [x]) h (by simp) rfl (fun i u z => by
  match i, u, z with
  | 0, _, _ =>
   intro hu hl
   simp at hu hl
   subst hu hl
   exact hx
  | (i + 1), _, _ =>
   intro hu hl
   simp at hu)
section
open Go.ChangeShapes Go.WideShapes
variable {H : Type} {enc : TypeId × Value → H} {W : World} {base : Nat} {sp : Nat → Bool} {held : Bool} {r : Reach} {b0 : Nat} {v : Value} {d : DataW H} {p : List MemPlace}
theorem open_mv1 (hv : Value.okWide Tryz.prog W r b0 25 v) (h : DataW.Trod enc Tryz.prog W base sp held 25 v d p) : ∃ x : MvI, v = mvIV x := by
 simp only [Value.okWide, Tryz.underlying25] at hv
 obtain ⟨cs, rfl, h2, _⟩ := hv
 obtain ⟨fuel, hf⟩ := h
 obtain ⟨s, hs⟩ := trod_mv hf
 refine ⟨s, ?_⟩
 have e : cs.toList = mvIL s := hs
 have e2 : cs = (mvIL s).toArray := by rw [← e]
 rw [e2]
end
theorem hld4_open (r : Option (Int × Int)) (E : Int) : ∃ (p q : Int) (i : Bool), hld4 r E = .tuple #[.int .i64 p, .int .i64 q, .bool i, .int .i64 E] := by
 cases r with
 | none => exact ⟨_, _, _, rfl⟩
 | some r => obtain ⟨p, q⟩ := r; exact ⟨_, _, _, rfl⟩
set_option maxHeartbeats 8000000 in
theorem DrawWays_walk {W : World} {v gv : Value} {m : List Sol} {gone : List Int} {x : MvI} (H : SlS W v m) (HG : SlI W gv gone) (hT : Tab W) : Calls Tryz.prog 3 #[v, gv, mvIV x] W fun e w' => e = .returned (.bool true) ∧ Below W.heap.size W w' := by
 obtain ⟨a, b, c⟩ := x
 have HFW := Lib.hid fun W1 (h : Below W.heap.size W W1) => few_spec 12 (H.mono h)
 obtain ⟨pa, ca, rfl, hma, -⟩ := ints_open HG
 have HAR := Lib.hid fun W1 (h : Below W.heap.size W W1) => (show SlS W1 v m ∧ SlI W1 (.slice pa gone.length ca) gone ∧ Tab W1 from ⟨H.mono h, HG.mono h, hT.grow h⟩)
 have HC := Lib.hid fun W1 (h : Below W.heap.size W W1) => cast_spec (hT.grow h)
 clear H HG hT hma
 go_enter Tryz.func3, Tryz.ntmps3
 go_wp2_with fail
 obtain ⟨wb, hwb⟩ : ∃ wb, wb = W.alloc (.cells #[.int .i64 a, .int .i64 b, .int .i64 c] 25) := ⟨_, rfl⟩
 have hb0 : Below W.heap.size W wb := by subst hwb; exact bel_alloc (bel_refl _) _
 have HBX : Hid (∀ W1, Below wb.heap.size wb W1 → W1.cell? ⟨W.heap.size, 0, none⟩ = some (.int .i64 a) ∧ W1.cell? ⟨W.heap.size, 1, none⟩ = some (.int .i64 b) ∧ W1.cell? ⟨W.heap.size, 2, none⟩ = some (.int .i64 c) ∧ W.heap.size < W1.heap.size ∧ Below W.heap.size W W1) := Lib.hid (by
  intro W1 h
  have B : Blk wb W.heap.size #[.int .i64 a, .int .i64 b, .int .i64 c] 25 := by subst hwb; exact Blk.new _ _ _
  have B1 := B.grow h
  exact ⟨B1.cell 0, B1.cell 1, B1.cell 2, B1.lt, bel_trans hb0 h⟩)
 rw [← hwb]
 have HB0 := Lib.hid hb0
 clear hwb hb0
 obtain ⟨N0, hN0⟩ : ∃ N0, N0 = W.heap.size := ⟨_, rfl⟩
 have HN0 := Lib.hid hN0
 rw [← hN0] at HBX ⊢
 clear hN0
 refine (HFW.out _ HB0.out).mono ?_
 rintro e w1 ⟨rfl, hw1⟩
 have hw2 := hw1.symm
 subst hw2
 clear hw1
 obtain ⟨F, hF⟩ : ∃ F, F = (decide ((m.length : Int) ≤ 12) || (decide (12 < m.length) && decide (m.length ≤ 15))) := ⟨_, rfl⟩
 rw [← hF]
 clear hF
 have hb1 : Below wb.heap.size wb (wb.alloc (.cells #[.slice pa gone.length ca] 23)) := bel_alloc (bel_refl wb) _
 have HSh := Lib.hid (short_spec (lit_one (Blk.new wb #[.slice pa gone.length ca] 23) (HAR.out _ (bel_trans HB0.out hb1)).2.1))
 have HB1 := Lib.hid hb1
 clear hb1
 cases F
 ·go_wp2_with fail
  refine (HC.out _ HB0.out).mono ?_
  rintro e w4 ⟨rfl, hb4⟩
  have H4 := Lib.hid hb4; clear hb4
  go_wp2_with fail
  go_ret
  exact ⟨rfl, HN0.out ▸ bel_trans HB0.out H4.out⟩
 ·go_wp2_with fail
  refine HSh.out.mono ?_
  rintro e w1 ⟨rfl, hw1⟩
  obtain ⟨S, hS⟩ : ∃ S, S = ([gone].all fun q => decide (q.length ≤ 20)) := ⟨_, rfl⟩
  rw [← hS]
  have HB2 : Hid (Below wb.heap.size wb w1) := Lib.hid (by rw [hw1]; exact HB1.out)
  clear hS hw1 HSh HB1
  cases S
  ·go_wp2_with fail
   refine (HC.out _ (bel_trans HB0.out HB2.out)).mono ?_
   rintro e w4 ⟨rfl, hb4⟩
   have H4 := Lib.hid hb4; clear hb4
   go_wp2_with fail
   go_ret
   exact ⟨rfl, HN0.out ▸ bel_trans HB0.out (bel_trans HB2.out H4.out)⟩
  ·obtain ⟨O, hO⟩ : ∃ O, O = wayO m (a, b, c) := ⟨_, rfl⟩
   obtain ⟨E, hE⟩ : ∃ E, E = movedE m [] (a, b, c) := ⟨_, rfl⟩
   obtain ⟨LL, hLL⟩ : ∃ LL, LL = wayLs m (a, b, c) := ⟨_, rfl⟩
   obtain ⟨E2, hE2⟩ : ∃ E, E = movedE m gone (a, b, c) := ⟨_, rfl⟩
   obtain ⟨R, hR⟩ : ∃ R, R = standE m gone (a, b, c) := ⟨_, rfl⟩
   obtain ⟨G, hG⟩ : ∃ G, G = (decide (E2 = 0) && !R.isSome) := ⟨_, rfl⟩
   obtain ⟨rp, rq, ri, hh4⟩ := hld4_open R E2
   have S1 := Lib.hid fun W1 (h : Below wb.heap.size wb W1) => InWay_n (a := a) (b := b) (c := c) (HAR.out W1 (bel_trans HB0.out h)).1 (HAR.out W1 (bel_trans HB0.out h)).2.2
   have S2 := Lib.hid fun W1 (h : Below wb.heap.size wb W1) => refInWay_n (a := a) (b := b) (c := c) (HAR.out W1 (bel_trans HB0.out h)).1
   have S3 := Lib.hid fun W1 (h : Below wb.heap.size wb W1) => Holds_all (a := a) (b := b) (c := c) (HAR.out W1 (bel_trans HB0.out h)).1 (HAR.out W1 (bel_trans HB0.out h)).2.1 (HAR.out W1 (bel_trans HB0.out h)).2.2
   have S4 := Lib.hid fun W1 (h : Below wb.heap.size wb W1) => refHolds_spec (a := a) (b := b) (c := c) (HAR.out W1 (bel_trans HB0.out h)).1 (HAR.out W1 (bel_trans HB0.out h)).2.1
   have S5 := Lib.hid fun W1 (h : Below wb.heap.size wb W1) => CheckGo_spec (a := a) (b := b) (c := c) (HAR.out W1 (bel_trans HB0.out h)).1 (HAR.out W1 (bel_trans HB0.out h)).2.1
   have S6 := Lib.hid fun W1 (h : Below wb.heap.size wb W1) => refCheckGo_spec (a := a) (b := b) (c := c) (HAR.out W1 (bel_trans HB0.out h)).1 (HAR.out W1 (bel_trans HB0.out h)).2.1
   simp only [← hO, ← hE, ← hLL] at S1 S2
   simp only [← hE2, ← hR, hh4] at S3 S4
   simp only [← hE2, ← hR, ← hG] at S5 S6
   clear hO hE hLL hE2 hR hG hh4
   obtain ⟨c0, c1, c2, lb, -⟩ := HBX.out _ HB2.out
   go_wp2_with fail
   refine (S1.out _ HB2.out).mono ?_
   rintro e w3 ⟨u1, rfl, hs, hb⟩
   have HB3 := Lib.hid (bel_trans HB2.out hb)
   have HU3 := Lib.hid hs
   clear c0 c1 c2 lb hb hs
   obtain ⟨c0, c1, c2, lb, -⟩ := HBX.out _ HB3.out
   go_wp2_with fail
   refine (S2.out _ HB3.out).mono ?_
   rintro e w4 ⟨u2, rfl, hs, hb⟩
   have HB4 := Lib.hid (bel_trans HB3.out hb)
   have HU4 := Lib.hid hs
   replace HU3 := Lib.hid (HU3.out.mono hb)
   clear c0 c1 c2 lb hb hs
   obtain ⟨c0, c1, c2, lb, -⟩ := HBX.out _ HB4.out
   go_wp2_with fail
   refine (S3.out _ HB4.out).mono ?_
   rintro e w5 ⟨rfl, hb⟩
   have HB5 := Lib.hid (bel_trans HB4.out hb)
   replace HU3 := Lib.hid (HU3.out.mono hb)
   replace HU4 := Lib.hid (HU4.out.mono hb)
   clear c0 c1 c2 lb hb
   obtain ⟨c0, c1, c2, lb, -⟩ := HBX.out _ HB5.out
   go_wp2_with fail
   refine (S4.out _ HB5.out).mono ?_
   rintro e w6 ⟨rfl, hb⟩
   have HB6 := Lib.hid (bel_trans HB5.out hb)
   replace HU3 := Lib.hid (HU3.out.mono hb)
   replace HU4 := Lib.hid (HU4.out.mono hb)
   clear c0 c1 c2 lb hb
   obtain ⟨c0, c1, c2, lb, -⟩ := HBX.out _ HB6.out
   go_wp2_with fail
   refine (S5.out _ HB6.out).mono ?_
   rintro e w7 ⟨rfl, hb⟩
   have HB7 := Lib.hid (bel_trans HB6.out hb)
   replace HU3 := Lib.hid (HU3.out.mono hb)
   replace HU4 := Lib.hid (HU4.out.mono hb)
   clear c0 c1 c2 lb hb
   obtain ⟨c0, c1, c2, lb, -⟩ := HBX.out _ HB7.out
   go_wp2_with fail
   refine (S6.out _ HB7.out).mono ?_
   rintro e w8 ⟨rfl, hb⟩
   have HB8 := Lib.hid (bel_trans HB7.out hb)
   replace HU3 := Lib.hid (HU3.out.mono hb)
   replace HU4 := Lib.hid (HU4.out.mono hb)
   clear c0 c1 c2 lb hb
   go_wp2_with fail
   refine (HC.out _ (bel_trans HB0.out HB8.out)).mono ?_
   rintro e w9 ⟨rfl, hb⟩
   have HB9 := Lib.hid (bel_trans HB8.out hb)
   have HS := Lib.hid (SameInts_spec (HU3.out.mono hb) (HU4.out.mono hb))
   clear hb
   go_wp2_with fail
   refine HS.out.mono ?_
   rintro e wA ⟨rfl, hbA⟩
   rw [beq_self_eq_true]
   have HA := Lib.hid (bel_trans HB9.out hbA)
   clear hbA
   go_wp2_with fail
   go_ret
   exact ⟨ret_bool (by simp), HN0.out ▸ bel_trans HB0.out HA.out⟩
end Go.Proofs.YtlbhjikkpbknnaaGreatDoor
end
section
namespace Go.Proofs.YtlbhjikkpbknnaaGreatDoor
open Go.RowKit Go.Rel Go.Draw
set_option maxRecDepth 100000
/-! lists of lists in memory of one's own, by what their elements are; the reference's ways -/
theorem own_keptT {W W' : World} {base base2 : Nat} {e e2 : TypeId} {size size2 : Nat} {u o : Value} {n n2 : Nat} {zs ys : List Value} (hu : W.ownsRow base e size u n zs) (hO : W.ownsRow base2 e2 size2 o n2 ys) (he : e ≠ e2) (hg : W.grownBy W' o.ownBlock) : W'.ownsRow base e size u n zs := by
 obtain ⟨hl, h | ⟨g, cap, cur, hv, hb, hh, hr⟩⟩ := hu
 ·exact ⟨hl, .inl h⟩
 ·refine ⟨hl, .inr ⟨g, cap, cur, hv, hb, ?_, hr⟩⟩
  refine (hg.block g ((Array.getElem?_eq_some_iff.1 hh).1) fun eo => ?_).trans hh
  obtain ⟨_, h | ⟨g2, cap2, cur2, hv2, _, hh2, _⟩⟩ := hO
  ·rw [h.1] at eo; cases eo
  ·rw [hv2] at eo
   cases eo
   rw [hh] at hh2
   injection hh2 with h1
   injection h1 with _ h2
   exact he h2
def OwnG {α : Type} (φ : World → Value → α → Prop) (e : TypeId) (W : World) (base : Nat) (v : Value) (ls : List α) : Prop :=
 ∃ us : List Value, W.ownsRow base e 1 v us.length us ∧ us.length = ls.length ∧ ∀ (i : Nat) (u : Value) (l : α), us[i]? = some u → ls[i]? = some l → φ W u l
/-- kept when a row of that element type grows -/
def KeptBy {α : Type} (φ : World → Value → α → Prop) (e : TypeId) : Prop := ∀ (W W' : World) (base n size : Nat) (o : Value) (ys : List Value) (u : Value) (l : α), W.ownsRow base e size o n ys → W.grownBy W' o.ownBlock → φ W u l → φ W' u l
def Grown {α : Type} (φ : World → Value → α → Prop) : Prop := ∀ (W W' : World) (u : Value) (l : α), Below W.heap.size W W' → φ W u l → φ W' u l
theorem ownI_kept {base : Nat} {e : TypeId} (he : 3 ≠ e) : KeptBy (fun W u (l : List Nat) => OwnI W base u (intsL l)) e := fun _ _ _ _ _ _ _ _ _ hO hg h => own_keptT h hO he hg
theorem ownM_kept {base : Nat} {e : TypeId} (he : 25 ≠ e) : KeptBy (fun W u (l : List Mo) => OwnM W base u l) e := fun _ _ _ _ _ _ _ _ _ hO hg h => own_keptT h hO he hg
theorem ownI_grown {base : Nat} : Grown (fun W u (l : List Nat) => OwnI W base u (intsL l)) := fun _ _ _ _ hb h => own_bel h hb
theorem ownM_grown {base : Nat} : Grown (fun W u (l : List Mo) => OwnM W base u l) := fun _ _ _ _ hb h => own_bel h hb
theorem OwnG.nil {α : Type} (φ : World → Value → α → Prop) (e : TypeId) (W : World) (base : Nat) : OwnG φ e W base (.slice none 0 0) [] := ⟨[], World.ownsRow_nil _ _ _ _, rfl, fun i u l h => by simp at h⟩
theorem OwnG.kept {α : Type} {φ : World → Value → α → Prop} {e e2 : TypeId} {base : Nat} (hk : KeptBy φ e2) (he : e ≠ e2) : KeptBy (fun W u (l : List α) => OwnG φ e W base u l) e2 := fun _ _ _ _ _ _ _ _ _ hO hg ⟨us, h1, h2, h3⟩ =>
 ⟨us, own_keptT h1 hO he hg, h2, fun i u l hu hl => hk _ _ _ _ _ _ _ _ _ hO hg (h3 i u l hu hl)⟩
theorem OwnG.grown {α : Type} {φ : World → Value → α → Prop} {e : TypeId} {base : Nat} (hk : Grown φ) : Grown (fun W u (l : List α) => OwnG φ e W base u l) := fun _ _ _ _ hb ⟨us, h1, h2, h3⟩ =>
 ⟨us, own_bel h1 hb, h2, fun i u l hu hl => hk _ _ _ _ hb (h3 i u l hu hl)⟩
theorem own_ll {W : World} {base : Nat} {v : Value} {ls : List (List Nat)} : OwnLL W base v ls ↔ OwnG (fun W u (l : List Nat) => OwnI W base u (intsL l)) 23 W base v ls := Iff.rfl
/-- one more: the row grew by u, of which φ is known -/
theorem OwnG.join {α : Type} {φ : World → Value → α → Prop} {e : TypeId} {base : Nat} {w5 w7 : World} {out : List α} {l : α} {v v' u : Value} {us : List Value} (hg : Grown φ) (hk : KeptBy φ e) (hO : w5.ownsRow base e 1 v us.length us) (hul : us.length = out.length)
  (hin : ∀ (i : Nat) (u : Value) (l : α), us[i]? = some u → out[i]? = some l → φ w5 u l) (hu : φ w5 u l) {cs : Array Value} {ty : TypeId} (hown' : w7.ownsRow base e 1 v' (us.length + 1) (us ++ [u])) (hgrow7 : (w5.alloc (.cells cs ty)).grownBy w7 v.ownBlock) : OwnG φ e w7 base v' (out ++ [l]) := by
 have hO7 := hO.alloc (.cells cs ty)
 refine ⟨us ++ [u], by rw [List.length_append]; exact hown', by simp [hul], fun i x y hx hy => ?_⟩
 by_cases hi : i < us.length
 ·rw [List.getElem?_append_left hi] at hx
  rw [List.getElem?_append_left (by rw [← hul]; exact hi)] at hy
  exact hk _ _ _ _ _ _ _ _ _ hO7 hgrow7 (hg _ _ _ _ (bel_alloc (bel_refl _) _) (hin i x y hx hy))
 ·rw [List.getElem?_append_right (by omega)] at hx
  rw [List.getElem?_append_right (by rw [← hul]; omega), ← hul] at hy
  have h0 : i - us.length = 0 := by
   obtain ⟨h, _⟩ := List.getElem?_eq_some_iff.1 hx
   simp at h; omega
  rw [h0] at hx hy
  simp only [List.getElem?_cons_zero, Option.some.injEq] at hx hy
  subst hx hy
  exact hk _ _ _ _ _ _ _ _ _ hO7 hgrow7 (hg _ _ _ _ (bel_alloc (bel_refl _) _) hu)
/-- kept when a row below the base changes -/
def KeptLow {α : Type} (φ : World → Value → α → Prop) (base : Nat) : Prop := ∀ (W W' : World) (mb : Nat) (u : Value) (l : α), W.grownBy W' (some mb) → mb < base → φ W u l → φ W' u l
theorem own_low {W W' : World} {base mb : Nat} {e : TypeId} {size : Nat} {u : Value} {n : Nat} {zs : List Value} (h : W.ownsRow base e size u n zs) (hg : W.grownBy W' (some mb)) (hm : mb < base) : W'.ownsRow base e size u n zs := h.kept hg (.inr (fun e => by have := (h.lt _ e).1; omega))
theorem OwnG.low {α : Type} {φ : World → Value → α → Prop} {e : TypeId} {base : Nat} (hk : KeptLow φ base) : KeptLow (fun W u (l : List α) => OwnG φ e W base u l) base := fun _ _ _ _ _ hg hm ⟨us, h1, h2, h3⟩ =>
 ⟨us, own_low h1 hg hm, h2, fun i u l hu hl => hk _ _ _ _ _ hg hm (h3 i u l hu hl)⟩
theorem ownI_low {base : Nat} : KeptLow (fun W u (l : List Nat) => OwnI W base u (intsL l)) base := fun _ _ _ _ _ hg hm h => own_low h hg hm
theorem ownM_low {base : Nat} : KeptLow (fun W u (l : List Mo) => OwnM W base u l) base := fun _ _ _ _ _ hg hm h => own_low h hg hm
/-! the moves one after the other: k = 8 side + far -/
def mvK (p k : Nat) : Mv := (p, k / 8, k % 8)
def stepK (m : List Sol) (p k : Nat) : List (Mv × List Nat) := if isMoveI ((k / 8 : Nat) : Int) ((k % 8 : Nat) : Int) then (match blockedM m (mvK p k) with
 | some l => [(mvK p k, l)]
 | none => []) else []
def wayK (m : List Sol) (p j : Nat) : List (Mv × List Nat) := (List.range j).flatMap (stepK m p)
theorem wayK_succ (m : List Sol) (p j : Nat) : wayK m p (j + 1) = wayK m p j ++ stepK m p j := by
 unfold wayK
 rw [List.range_succ, List.flatMap_append]; simp
theorem stepK_len (m : List Sol) (p k : Nat) : (stepK m p k).length ≤ 1 := by
 unfold stepK
 split
 ·split <;> simp
 ·simp
theorem wayK_len (m : List Sol) (p : Nat) : ∀ j, (wayK m p j).length ≤ j
 | 0 => by simp [wayK]
 | j + 1 => by
  rw [wayK_succ, List.length_append]
  have := wayK_len m p j
  have := stepK_len m p j
  omega
theorem mvK_moves (p : Nat) : ((List.range 40).filter fun k => isMoveI ((k / 8 : Nat) : Int) ((k % 8 : Nat) : Int)).map (mvK p) = movesL p := by
 have : ((List.range 40).filter fun k => isMoveI ((k / 8 : Nat) : Int) ((k % 8 : Nat) : Int)) = 0 :: (List.range 28).map fun k => 8 * (k / 7 + 1) + (k % 7 + 1) := by decide +kernel
 rw [this]
 unfold movesL
 rw [List.map_cons, List.map_map]
 congr 1
theorem flatMap_if {α β : Type} (q : α → Bool) (f : α → List β) : ∀ l : List α, (l.flatMap fun x => if q x then f x else []) = (l.filter q).flatMap f
 | [] => rfl
 | x :: l => by
  rw [List.flatMap_cons, flatMap_if q f l, List.filter_cons]
  cases q x <;> simp
theorem flatMap_opt {α β : Type} (f : α → Option β) : ∀ l : List α, (l.flatMap fun x => match f x with
  | some y => [(x, y)]
  | none => []) = l.filterMap fun x => (f x).map fun y => (x, y)
 | [] => rfl
 | x :: l => by
  rw [List.flatMap_cons, flatMap_opt f l, List.filterMap_cons]
  cases f x <;> rfl
theorem wayK_all (m : List Sol) (p : Nat) : wayK m p 40 = wayR m p := by
 unfold wayK wayR
 rw [show stepK m p = fun k => if isMoveI ((k / 8 : Nat) : Int) ((k % 8 : Nat) : Int) then (match blockedM m (mvK p k) with
  | some l => [(mvK p k, l)]
  | none => []) else [] from rfl, flatMap_if, ← flatMap_opt, ← mvK_moves p, List.flatMap_map]
 congr 1
 funext k
 cases blockedM m (mvK p k) <;> rfl
/-! what the ways are in memory -/
def WaysR (w : World) (mv nv : Value) (m : List Sol) : Prop :=
 (∃ us : List Value, Sl w 1 mv (us.map fun x => [x]) ∧ us.length = m.length ∧ ∀ (p : Nat) (u : Value), us[p]? = some u → SlM w u ((wayR m p).map (·.1))) ∧
 (∃ us : List Value, Sl w 1 nv (us.map fun x => [x]) ∧ us.length = m.length ∧ ∀ (p : Nat) (u : Value), us[p]? = some u → SlLL w u ((wayR m p).map fun y => intsL y.2))
theorem SlLL.mono {w w' : World} {v : Value} {ls : List (List Int)} (h : SlLL w v ls) (hb : Below w.heap.size w w') : SlLL w' v ls := by
 obtain ⟨us, h1, h2, h3⟩ := h
 exact ⟨us, h1.mono hb, h2, fun i u l hu hl => (h3 i u l hu hl).mono hb⟩
theorem WaysR.mono {w w' : World} {mv nv : Value} {m : List Sol} (h : WaysR w mv nv m) (hb : Below w.heap.size w w') : WaysR w' mv nv m := by
 obtain ⟨⟨us, h1, h2, h3⟩, vs, k1, k2, k3⟩ := h
 exact ⟨⟨us, h1.mono hb, h2, fun p u hu => (h3 p u hu).mono hb⟩, vs, k1.mono hb, k2, fun p u hu => (k3 p u hu).mono hb⟩
abbrev OwnMM (W : World) (base : Nat) (v : Value) (ls : List (List Mo)) : Prop := OwnG (fun W u (l : List Mo) => OwnM W base u l) 43 W base v ls
theorem OwnMM.low {W W' : World} {base mb : Nat} {v : Value} {ls : List (List Mo)} (h : OwnMM W base v ls) (hg : W.grownBy W' (some mb)) (hm : mb < base) : OwnMM W' base v ls := OwnG.low ownM_low _ _ _ _ _ hg hm h
abbrev OwnLLL (W : World) (base : Nat) (v : Value) (ls : List (List (List Nat))) : Prop := OwnG (fun W u (l : List (List Nat)) => OwnLL W base u l) 40 W base v ls
theorem OwnLLL.low {W W' : World} {base mb : Nat} {v : Value} {ls : List (List (List Nat))} (h : OwnLLL W base v ls) (hg : W.grownBy W' (some mb)) (hm : mb < base) : OwnLLL W' base v ls := OwnG.low (OwnG.low ownI_low) _ _ _ _ _ hg hm h
theorem ownV_sl {W : World} {base : Nat} {e : TypeId} {v : Value} {vs : List Value} (h : W.ownsRow base e 1 v vs.length vs) : Sl W 1 v (vs.map fun x => [x]) :=
 own_sl (fun r hr => by obtain ⟨i, _, rfl⟩ := List.mem_map.1 hr; rfl) (flat_sing vs) (by rw [List.length_map]; exact h)
theorem ways_own {W : World} {base : Nat} {mv nv : Value} {m : List Sol} (h : OwnMM W base mv ((List.range m.length).map fun p => (wayR m p).map (·.1))) (k : OwnLLL W base nv ((List.range m.length).map fun p => (wayR m p).map (·.2))) : WaysR W mv nv m := by
 obtain ⟨us, h1, h2, h3⟩ := h
 obtain ⟨vs, k1, k2, k3⟩ := k
 simp only [List.length_map, List.length_range] at h2 k2
 refine ⟨⟨us, ownV_sl h1, h2, fun p u hu => ?_⟩, vs, ownV_sl k1, k2, fun p u hu => ?_⟩
 ·have hp : p < m.length := by have := (List.getElem?_eq_some_iff.1 hu).1; omega
  exact OwnM.sl (h3 p u _ hu (by simp [hp]))
 ·have hp : p < m.length := by have := (List.getElem?_eq_some_iff.1 hu).1; omega
  have := OwnLL.sll (k3 p u ((wayR m p).map (·.2)) hu (by simp [hp]))
  rw [List.map_map] at this
  exact this
end Go.Proofs.YtlbhjikkpbknnaaGreatDoor
end
