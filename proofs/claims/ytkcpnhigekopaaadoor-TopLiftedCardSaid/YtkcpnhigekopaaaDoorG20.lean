import Derived.Test.YtkcpnhigekopaaaDoorG19
/-
  Given contracts of functions of the program, and laws for them, one behind the other.
-/
set_option linter.unusedVariables false
set_option linter.unusedSimpArgs false
set_option linter.unusedSectionVars false
section
namespace Go.Proofs.YtkcpnhigekopaaaDoor
open Go.RowKit Go.Rel Go.Draw
set_option maxRecDepth 100000
attribute [local go_sem] Oper.semAt_some
/-! what of all sets is wanted, in order -/
theorem filt_len {n : Nat} (P : U → Bool) (pre : List (SetOf n)) : ((pre.map (·.1)).filter P).length ≤ pre.length := by
 have := List.length_filter_le P (pre.map (·.1))
 simpa using this
def SI (N0 : Nat) (P : U → Bool) {n : Nat} (pre : List (SetOf n)) (W : World) : Prop := ∃ v, Blk W (N0 + 1) #[v] 67 ∧ OwnU W (N0 + 6) v ((pre.map (·.1)).filter P)
theorem si_abides {N0 : Nat} {P : U → Bool} {n : Nat} : AbidesC (N0 + 2) (N0 + 6) (fun (pre : List (SetOf n)) W => SI N0 P pre W) := fun pre W W' row hs hg hr => by
 obtain ⟨v, h1, h2⟩ := hs
 refine ⟨v, h1.gb hg (fun e => by have := hr _ e.symm; omega), h2.kept hg ?_⟩
 cases hv : v.ownBlock with
 | none => exact .inl rfl
 | some b => exact .inr (fun e => by have h3 := (h2.lt b hv).1; have := hr b e.symm; omega)
def SortedP (w : World) (mb : Nat) (m : List Sol) (P : U → Bool) (e : Ending) (w' : World) : Prop :=
 ∃ v, e = .returned v ∧ OwnU w' w.heap.size v (sortU ((setsL m.length 0 0).filter P)) ∧ Ways w' mb m ∧ w.grownBy w' (some mb)
set_option maxHeartbeats 8000000 in
theorem sorted_spec {w : World} {g mb bm : Nat} {m : List Sol} (hM : Mould w g mb m) (hm : m.length ≤ 12) (hT : Tab w) (hbm : Blk w bm #[.pointer (some ⟨g, 0, none⟩)] 42)
  {fw : Nat} {fst caps : Array Value} {P : U → Bool} (eg : ∀ args W, (callFunc fw args).run Tryd.prog W = .ok (.enter fw args) W)
  (HW : ∀ W, w.grownBy W (some mb) → Ways W mb m → ∀ S, Sub S (allU m.length) → Calls Tryd.prog fw (fst.push (.int .u64 (uI S)) ++ caps) W fun e w' => e = .returned (.bool (P S)) ∧ Ways w' mb m ∧ W.grownBy w' (some mb)) :
  Calls Tryd.prog 39 #[.func (.func 52) #[] #[.pointer (some ⟨bm, 0, none⟩)], .func (.func fw) fst caps, .func (.func 43) #[] #[]] w (SortedP w mb m P) := by
 obtain ⟨i0, hi, hz0, hz1, hz2⟩ := info_parts infoUint
 have HI0 := Lib.hid (And.intro hi (And.intro hz0 (And.intro hz1 hz2))); clear hi hz0 hz1 hz2
 have lG := hM.lt
 have lmb := hM.ways.lt
 have lbm := hbm.lt
 have nbm : bm ≠ mb := by
  obtain ⟨es, clock, h2⟩ := hM.ways.ismap
  intro e; subst e
  unfold Blk at hbm; rw [hbm] at h2; cases h2
 have HM := Lib.hid (And.intro hM (And.intro hbm (And.intro hT HW)))
 clear hM hbm hT HW
 refine (callsIn_wide (n := 9)).1 ?_
 refine callsIn_of_wp_marks Tryd.func39 rfl trivial ?_ rfl
 simp only [Tryd.ntmps39, List.size_toArray, List.length_cons, List.length_nil, Nat.reduceAdd, Nat.reduceSub, Array.replicate_succ, Array.replicate_zero, List.push_toArray, List.append_toArray, List.nil_append, List.cons_append]
 refine wpIn_wide.2 ?_
 go_wp2_with fail
 obtain ⟨w3, hw3⟩ : ∃ w3, w3 = (w.alloc (.cells #[.func (.func fw) fst caps] 92)).alloc (.cells #[.slice none 0 0] 67) := ⟨_, rfl⟩
 rw [← hw3]
 have b4 : Blk w3 w.heap.size #[.func (.func fw) fst caps] 92 := by subst hw3; exact (by repeat (first | with_reducible assumption | (refine Blk.at _ _ ?_; (simp; done)) | with_reducible refine Blk.alloc ?_ _ | with_reducible refine Blk.drew ?_ | with_reducible refine Blk.rowS ?_ _ | with_reducible refine Blk.rowO ?_ _ (by simp)))
 have b7 : Blk w3 (w.heap.size + 1) #[.slice none 0 0] 67 := by subst hw3; exact Blk.at _ _ (by simp)
 have hsz3 : w3.heap.size = w.heap.size + 1 + 1 := by subst hw3; simp
 have hb3 : Below w.heap.size w w3 := by subst hw3; exact (by repeat (first | with_reducible exact bel_refl _ | with_reducible assumption | with_reducible refine bel_drewN ?_ _ | with_reducible refine bel_drew ?_ | with_reducible refine bel_alloc ?_ _ | with_reducible refine bel_row ?_ ?_ _ | with_reducible refine bel_set ?_ ?_ _ | refine bel_trans ?_ (by with_reducible assumption) | (simp; done) | (simp; omega)))
 have H3 := Lib.hid (And.intro b4 (And.intro b7 (And.intro hsz3 (And.intro hb3 (And.intro (HM.out.1.grow hb3) (HM.out.2.1.grow hb3))))))
 clear hw3 b4 b7 hsz3 hb3
 refine (wpIn_wide (n := 9)).1 ?_
 refine wpIn_rangeFunc_C (α := SetOf m.length) rfl (by omega) (gf := 52) (lb := #[.pointer (some ⟨bm, 0, none⟩)]) rfl trivial (enters_of Tryd.func52 (by kernel_rfl) rfl) (wr := fun k => k = mb ∨ k = w.heap.size + 1 ∨ w.heap.size + 6 ≤ k) 2
  (fun W hbW _ => sets_seq (n := 9 - 1) (by omega) (H3.out.2.2.2.2.1.grow hbW) hm (H3.out.2.2.2.2.2.grow hbW) (by have := HM.out.1.ne; omega) (by omega)) (fun r h1 h2 => by have := H3.out.2.2.1; omega) (fun _ => rfl)
  (fun pre W => ((w.grownBy W (some mb) ∧ Ways W mb m) ∧ Blk W w.heap.size #[.func (.func fw) fst caps] 92) ∧ SI w.heap.size P pre W) (fun c pre W => False)
  (AbidesC.and (AbidesC.and (AbidesC.and (abides_gb (by have := H3.out.2.2.1; omega)) (abides_ways (by have := H3.out.2.2.1; omega))) (abides_blk (f := fun _ => #[.func (.func fw) fst caps]) (by have := H3.out.2.2.1; omega))) (by rw [H3.out.2.2.1]; exact si_abides)) (fun c _ _ _ _ h _ _ => h) ⟨⟨⟨gb_below (gb_refl w _) H3.out.2.2.2.1, H3.out.2.2.2.2.1.ways⟩, H3.out.1⟩, .slice none 0 0, H3.out.2.1, World.ownsRow_nil _ _ _ _⟩
  (fun z a' W => a' = { tmps := #[.func (.func 52) #[] #[.pointer (some ⟨bm, 0, none⟩)], .func (.func fw) fst caps, .func (.func 43) #[] #[], undef, .pointer (some ⟨w.heap.size, 0, none⟩), undef, .slice none 0 0, .pointer (some ⟨w.heap.size + 1, 0, none⟩), .int .u64 (uI z.1), .func (.func 52) #[] #[.pointer (some ⟨bm, 0, none⟩)], .int .u64 (uI z.1), undef, undef, undef, undef, undef, undef, undef, undef, undef, undef, undef], defers := [] })
  (fun z a' _ X Y row hs hg hr => hs)
  ?assign ?body ?done ?stop
 case assign =>
  rintro lp pre z W K HI hsz hK
  have HJ := Lib.hid HI; clear HI
  have hK' := fun a' W' => hK a' W'
  clear hK
  gi_wp2_with fail
  exact hK' _ _ (KeepsBut.refl _ _) HJ.out rfl
 case body =>
  rintro lp pre z a' W hsz HI rfl hlen
  have b4 := HI.1.2
  have c4 := b4.cell; have l4 := b4.lt
  have hsub : Sub z.1 (allU m.length) := (mem_sets m.length (by omega) z.1).1 z.2
  have HF := Lib.hid (HM.out.2.2.2 W HI.1.1.1 HI.1.1.2 z.1 hsub)
  have HJ := Lib.hid HI; clear HI b4
  have HS := Lib.hid hsub; clear hsub
  gi_wp2_with fail
  refine ⟨trivial, (CallsIn.inRound lp (callsIn_wide.2 HF.out)).mono ?_⟩
  rintro e w4 ⟨rfl, hw4, hg4⟩
  have hSI : SI w.heap.size P pre w4 := by
   obtain ⟨v, h1, h2⟩ := HJ.out.2
   exact ⟨v, h1.gb hg4 (by simp; omega), h2.kept hg4 (.inr (fun e => by have := (h2.lt _ e).1; omega))⟩
  have H4 := Lib.hid (And.intro hw4 (And.intro (HJ.out.1.1.1.trans hg4) (And.intro hg4 (And.intro (HJ.out.1.2.gb hg4 (by simp; omega)) hg4.size)))); clear hw4 hg4 c4 l4
  cases hP : P z.1
  ·have HP := Lib.hid hP; clear hP
   have HSI := Lib.hid hSI; clear hSI
   gi_wp2_with fail
   refine ⟨.gb H4.out.2.2.1 (fun r e => by cases e; exact .inl rfl), ⟨⟨H4.out.2.1, H4.out.1⟩, H4.out.2.2.2.1⟩, ?_⟩
   obtain ⟨v, h1, h2⟩ := HSI.out
   refine ⟨v, h1, ?_⟩
   rw [List.map_append, List.filter_append]
   simp only [List.map_cons, List.map_nil, List.filter_cons, HP.out, Bool.false_eq_true, if_false, List.filter_nil, List.append_nil]
   exact h2
  ·have HP := Lib.hid hP; clear hP
   obtain ⟨v, h1, h2⟩ := hSI
   obtain ⟨g0, n0, c0, rfl⟩ := own_shapeN h2
   have c7 := h1.cell; have l7 := h1.lt
   have hfl := filt_len P pre
   have hsz4 := H4.out.2.2.2.2
   have HX := Lib.hid (And.intro h2 h1); clear h1 h2
   gi_wp2_with (gi_at_builtin; refine wpListIn_append_own _ rfl _ _ 67 rfl (w.heap.size + 6) 57 i0 (.int .u64 0) 1 8 Tryd.underlying67 HI0.out.1 HI0.out.2.1 HI0.out.2.2.1 HI0.out.2.2.2 rfl (by decide) _ _ _ rfl (HX.out.1.alloc _) ⟨w4.heap.size, 0, none⟩ 1 1 [.int .u64 (uI z.1)] rfl rfl (cell_one_new _ _ _) (by simp [Value.oneCell']) (by unfold maxLen; omega) (by omega) (by have := H3.out.2.2.1; simp; omega) ?_; intro v' w5 hown' hgrow5 hnil5; obtain ⟨p5, n5, c5, rfl⟩ := own_shapeN hown'; have b7' := (HX.out.2.alloc (.cells #[.int .u64 (uI z.1)] 57)).gb hgrow5 (fun e => (by have := ((HX.out.1.alloc (.cells #[.int .u64 (uI z.1)] 57)).lt _ e.symm).1; omega)); have r7 := b7'.row; have l7' := b7'.lt; have HB7 := Lib.hid b7'; rw [← b7'.rw]; clear b7')
   have hgr : (w4.alloc (.cells #[.int .u64 (uI z.1)] 57)).grownBy w5 (Value.slice g0 n0 c0).ownBlock := hgrow5
   have hob : ∀ j, (Value.slice g0 n0 c0).ownBlock = some j → w.heap.size + 6 ≤ j := fun j e => ((HX.out.1.alloc (.cells #[.int .u64 (uI z.1)] 57)).lt _ e).1
   have hrow := gb_row (gb_refl w5 (some (w.heap.size + 1))) #[.slice p5 n5 c5]
   have hal := World.grownBy_alloc w4 (.cells #[.int .u64 (uI z.1)] 57) none
   refine ⟨(KeepsBut.gb H4.out.2.2.1 (fun r e => by cases e; exact .inl rfl)).trans (((KeepsBut.alloc _ w4 _).trans (KeepsBut.gb hgr (fun r e => .inr (.inr (hob r e))))).trans (KeepsBut.gb hrow (fun r e => by cases e; exact .inr (.inl rfl)))), ⟨⟨?_, ?_⟩, ?_⟩, ?_⟩
   ·exact gb_new (gb_new (gb_alloc H4.out.2.1 _) hgr (fun j e => by have := hob j e; omega)) hrow (fun j e => by cases e; omega)
   ·exact ((H4.out.1.kept hal (by simp)).kept hgr (fun e => by have := hob _ e.symm; omega)).kept hrow (by simp; omega)
   ·exact ((H4.out.2.2.2.1.gb hal (by simp)).gb hgr (fun e => by have := hob _ e.symm; omega)).gb hrow (by simp)
   ·refine ⟨_, HB7.out.rowS _, ?_⟩
    have e2 : ((pre ++ [z]).map (·.1)).filter P = (pre.map (·.1)).filter P ++ [z.1] := by
     rw [List.map_append, List.filter_append]
     simp only [List.map_cons, List.map_nil, List.filter_cons, HP.out, if_true, List.filter_nil]
    rw [e2]
    unfold OwnU
    rw [List.length_append, List.map_append]
    exact hown'.kept hrow (by
     cases hv : (Value.slice p5 n5 c5).ownBlock with
     | none => exact .inl rfl
     | some b => exact .inr (fun e => by have h3 := (hown'.lt b hv).1; cases e; omega))
 case done =>
  rintro D xs W hD hS HI hK
  obtain ⟨⟨⟨hg5, hw5⟩, _⟩, v, h1, h2⟩ := HI
  rw [hS] at h2
  have hD2 : D = w.heap.size + 2 := by have := H3.out.2.2.1; omega
  have c7 := h1.cell; have l7 := h1.lt
  obtain ⟨l, hl⟩ : ∃ l : List (SU m.length), l.map (·.1) = (setsL m.length 0 0).filter P := by
   refine ⟨((setsL m.length 0 0).filter P).attach.map fun x => ⟨x.1, (mem_sets m.length (by omega) x.1).1 ((List.mem_filter.1 x.2).1)⟩, ?_⟩
   rw [List.map_map]
   exact List.attach_map_subtype_val _
  have hll : l.length ≤ 4096 := by
   have e1 := congrArg List.length hl
   rw [List.length_map] at e1
   have e2 := List.length_filter_le P (setsL m.length 0 0)
   rw [setsL_len] at e2
   have e3 : 2 ^ m.length ≤ 2 ^ 12 := Nat.pow_le_pow_right (by omega) hm
   omega
  rw [← hl] at h2
  have HSo := Lib.hid (sortU_spec hm h2 (HM.out.2.2.1.gbm HM.out.1.ways hg5) (by omega) (by omega))
  have HZ := Lib.hid (And.intro hg5 (And.intro hw5 (And.intro h1 (And.intro hK (And.intro hl hD2))))); clear hg5 hw5 h1 h2 hK hl hS hll hD hD2
  clear c7 l7
  have c7 := HZ.out.2.2.1.cell; have l7 := HZ.out.2.2.1.lt
  gi_wp2_with fail
  go_wp2_with fail
  refine HSo.out.mono ?_
  rintro e w6 ⟨rfl, hO6, hb6⟩
  rw [HZ.out.2.2.2.2.1] at hO6
  have b7' := HZ.out.2.2.1.below hb6 (by omega)
  have hK6 : w6.heap[D]? = some (.deferred (some [])) := (hb6.block D (by have := HZ.out.2.2.2.2.2; omega)).trans HZ.out.2.2.2.1
  have H6 := Lib.hid (And.intro hO6 (And.intro hK6 (And.intro (HZ.out.2.1.below hb6 (by omega)) (gb_bel2 HZ.out.1 (hb6.mono (by omega))))))
  clear hO6 hK6 hb6 c7 l7
  have c7 := b7'.cell; have l7 := b7'.lt
  clear b7'
  go_wp2_with fail
  refine ⟨by simp, .inl ⟨_, _, rfl, run_takeDeferred H6.out.2.1, ?_⟩⟩
  have hgP := grownBy_putObj' w6 D (.deferred none)
  have hD2 := HZ.out.2.2.2.2.2
  refine ⟨v, by simp [results, Tryd.results39, go_sem], v, rfl, own_weak (H6.out.1.kept hgP ?_) (by omega), H6.out.2.2.1.kept hgP (by simp; omega), gb_new H6.out.2.2.2 hgP (fun j e => by cases e; omega)⟩
  cases hv : v.ownBlock with
  | none => exact .inl rfl
  | some b => exact .inr (fun e => by have h3 := (H6.out.1.lt b hv).1; cases e; omega)
 case stop =>
  rintro D c pre W hD hS hf hK
  exact hf.elim
end Go.Proofs.YtkcpnhigekopaaaDoor
end
section
namespace Go.Proofs.YtkcpnhigekopaaaDoor
open Go.RowKit Go.Rel Go.Draw
set_option maxRecDepth 100000
/-! all paths to a piece -/
def PathsP (w : World) (mb : Nat) (m : List Sol) (p : Nat) (e : Ending) (w' : World) : Prop :=
 ∃ v, e = .returned v ∧ OwnU w' w.heap.size v (pathsM m p) ∧ Ways w' mb m ∧ w.grownBy w' (some mb)
theorem own_cellU {W : World} {base : Nat} {v : Value} {L : List U} (h : OwnU W base v L) {k : Nat} {x : U} (hx : L[k]? = some x) : ∃ ib io c, v = .slice (some ⟨ib, io, none⟩) L.length c ∧ base ≤ ib ∧ ib < W.heap.size ∧ W.cell? ⟨ib, io + k, none⟩ = some (.int .u64 (uI x)) := by
 rcases h.2 with ⟨_, h0⟩ | ⟨g, cap, cur, rfl, hb, hg, _⟩
 ·have : L = [] := List.eq_nil_of_length_eq_zero h0
  subst this; simp at hx
 ·have hs := h.cells (g := g) rfl k (.int .u64 (uI x)) (by rw [List.getElem?_map, hx]; rfl)
  refine ⟨g, 0, cap, rfl, hb, (Array.getElem?_eq_some_iff.1 hg).1, ?_⟩
  have hadd : (⟨g, 0, none⟩ : Addr).add k = ⟨g, 0 + k, none⟩ := by unfold Addr.add; simp; omega
  rw [← hadd]; exact hs
set_option maxHeartbeats 8000000 in
theorem paths_spec {w : World} {g mb p : Nat} {m : List Sol} (hM : Mould w g mb m) (hm : m.length ≤ 12) (hT : Tab w) (hp : p < 64) :
  Calls Tryd.prog 25 #[.pointer (some ⟨g, 0, none⟩), .int .i64 (p : Int)] w (PathsP w mb m p) := by
 obtain ⟨i0, hi, hz0, hz1, hz2⟩ := info_parts infoUint
 have HI0 := Lib.hid (And.intro hi (And.intro hz0 (And.intro hz1 hz2))); clear hi hz0 hz1 hz2
 have lmb := hM.ways.lt
 have HM := Lib.hid (And.intro hM hT)
 clear hM hT
 go_enter Tryd.func25, Tryd.ntmps25
 go_wp2_with fail
 refine (sets_spec _ g).mono ?_
 rintro e w3 ⟨rfl, hw3⟩
 simp only [World.size_alloc] at hw3 ⊢
 have b2 : Blk w3 w.heap.size #[.pointer (some ⟨g, 0, none⟩)] 42 := by subst hw3; exact (by repeat (first | with_reducible assumption | (refine Blk.at _ _ ?_; (simp; done)) | with_reducible refine Blk.alloc ?_ _ | with_reducible refine Blk.drew ?_ | with_reducible refine Blk.rowS ?_ _ | with_reducible refine Blk.rowO ?_ _ (by simp)))
 have b3 : Blk w3 (w.heap.size + 1) #[.int .i64 (p : Int)] 3 := by subst hw3; exact (by repeat (first | with_reducible assumption | (refine Blk.at _ _ ?_; (simp; done)) | with_reducible refine Blk.alloc ?_ _ | with_reducible refine Blk.drew ?_ | with_reducible refine Blk.rowS ?_ _ | with_reducible refine Blk.rowO ?_ _ (by simp)))
 have b4 : Blk w3 (w.heap.size + 1 + 1) #[.pointer (some ⟨g, 0, none⟩)] 42 := by subst hw3; exact Blk.at _ _ (by simp)
 have hb3 : Below w.heap.size w w3 := by subst hw3; exact (by repeat (first | with_reducible exact bel_refl _ | with_reducible assumption | with_reducible refine bel_drewN ?_ _ | with_reducible refine bel_drew ?_ | with_reducible refine bel_alloc ?_ _ | with_reducible refine bel_row ?_ ?_ _ | with_reducible refine bel_set ?_ ?_ _ | refine bel_trans ?_ (by with_reducible assumption) | (simp; done) | (simp; omega)))
 have hsz3 : w3.heap.size = w.heap.size + 1 + 1 + 1 := by subst hw3; simp
 have hM3 := HM.out.1.grow hb3
 have hT3 := HM.out.2.grow hb3
 have eg : ∀ args W, (callFunc 41 args).run Tryd.prog W = .ok (.enter 41 args) W := enters_of Tryd.func41 (by kernel_rfl) rfl
 have HS := Lib.hid (sorted_spec (fst := #[]) (caps := #[.pointer (some ⟨w.heap.size + 1, 0, none⟩), .pointer (some ⟨w.heap.size, 0, none⟩)]) (P := fun S => S.getLsbD p && firstM m S) hM3 hm hT3 b4 eg (fun W hg hw S hS =>
  paths1_spec (b3.gb hg (by simp; omega)) (b2.gb hg (by simp; omega)) (hM3.grown hg hw) hm (hT3.gbm hM3.ways hg) hS hp))
 have H3 := Lib.hid (And.intro hb3 hsz3)
 clear hw3 b2 b3 b4 hb3 hsz3 hM3 hT3 eg
 go_wp2_with fail
 refine HS.out.mono ?_
 rintro e w5 ⟨v, rfl, hO, hw5, hg5⟩
 obtain ⟨L, hL⟩ : ∃ L, L = sortU ((setsL m.length 0 0).filter fun S => S.getLsbD p && firstM m S) := ⟨_, rfl⟩
 rw [← hL] at hO
 have hLl : L.length ≤ 4096 := by
  rw [hL, (sortU_perm _).length_eq]
  have e2 := List.length_filter_le (fun S => S.getLsbD p && firstM m S) (setsL m.length 0 0)
  rw [setsL_len] at e2
  have e3 : 2 ^ m.length ≤ 2 ^ 12 := Nat.pow_le_pow_right (by omega) hm
  omega
 obtain ⟨pv, cv, rfl, _⟩ := own_shape' hO
 have hg05 : w.grownBy w5 (some mb) := (gb_below (gb_refl w _) H3.out.1).trans hg5
 have h35 : w.heap.size ≤ w3.heap.size := H3.out.1.size
 have hp0 : L.foldl leastStep [] = pathsM m p := by rw [hL, paths_eq]
 have H5 := Lib.hid (And.intro hO (And.intro hw5 (And.intro hg05 (And.intro h35 hp0))))
 have s35 : w3.heap.size ≤ w5.heap.size := hg5.size
 clear hO hw5 hg05 h35 hg5 HS hL hp0 s35
 go_wp2_with fail
 go_loopw [15, 6] (fun iv ov wx => ∃ (k : Nat) (out : List U), k ≤ L.length ∧ iv = .int .i64 k ∧ Hid ((L.drop k).foldl leastStep out = pathsM m p ∧ out.length ≤ k ∧ OwnU wx w5.heap.size ov out ∧ Below w5.heap.size w5 wx)) (fun iv _ _ => L.length - (intOf iv).toNat)
 case atStart => exact ⟨0, [], Nat.zero_le _, rfl, Lib.hid ⟨H5.out.2.2.2.2, Nat.le_refl _, World.ownsRow_nil _ _ _ _, Below.refl _ _⟩⟩
 case round =>
  obtain ⟨k, out, hk, rfl, HI⟩ := hrel
  by_cases hlt : k < L.length
  ·obtain ⟨x, hx⟩ : ∃ x, L[k]? = some x := ⟨_, List.getElem?_eq_getElem hlt⟩
   obtain ⟨ib, io, c, hv, hib, lib, hc⟩ := own_cellU H5.out.1 hx
   simp only [Value.slice.injEq] at hv
   obtain ⟨rfl, _, rfl⟩ := hv
   have hck := (HI.out.2.2.2.cell (p := ⟨ib, io + k, none⟩) lib).trans hc
   have lck : ib < wr.heap.size := Nat.lt_of_lt_of_le lib HI.out.2.2.2.size
   have HX := Lib.hid (drop_atU hx)
   clear hx hc hib lib
   go_wp2_with fail
   have B8 : Blk (wr.alloc (.cells #[.int .u64 (uI x)] 57)) wr.heap.size #[.int .u64 (uI x)] 57 := Blk.new _ _ _
   have HC := Lib.hid (contains_sets (c0 := .pointer (some ⟨wr.heap.size, 0, none⟩)) (p := fun l => subB l x) (OwnU.sl (HI.out.2.2.1.alloc (.cells #[.int .u64 (uI x)] 57))) (fun l _ => paths2_spec l B8))
   refine HC.out.mono ?_
   rintro e w6 ⟨rfl, hw6⟩
   have hb6 : Below w5.heap.size w5 w6 := by rw [hw6]; exact bel_alloc HI.out.2.2.2 _
   have hO6 : OwnU w6 w5.heap.size u6 out := by rw [hw6]; exact HI.out.2.2.1.alloc (.cells #[.int .u64 (uI x)] 57)
   rw [← hw6] at B8
   have c8 := B8.cell; have l8 := B8.lt
   clear B8 HC hw6
   have hl6 := HI.out.2.1
   have hst := HI.out.1
   rw [HX.out, List.foldl_cons] at hst
   cases ha : out.any (fun l => subB l x)
   ·have e1 : leastStep out x = out ++ [x] := by unfold leastStep; rw [ha]; rfl
    rw [e1] at hst
    have H6 := Lib.hid (And.intro hb6 (And.intro hO6 (And.intro hl6 hst))); clear hb6 hO6 hl6 hst ha e1 hck lck
    have hs6 : w5.heap.size ≤ w6.heap.size := H6.out.1.size
    go_wp2_with (first
     | (at_builtin; refine wpList_append_own _ rfl _ _ 67 rfl w5.heap.size 57 i0 (.int .u64 0) 1 8 Tryd.underlying67 HI0.out.1 HI0.out.2.1 HI0.out.2.2.1 HI0.out.2.2.2 rfl (by decide) _ _ _ rfl (H6.out.2.1.alloc _) ⟨w6.heap.size, 0, none⟩ 1 1 [.int .u64 (uI x)] rfl rfl (cell_one_new _ _ _) (fun x hx => by simp at hx; subst hx; rfl) (by have := H6.out.2.2.1; unfold maxLen; omega) (by have := H6.out.2.2.1; omega) (by simp; omega) ?_; intro v' w7 hown' hgrow7 hnil7))
    have hb7 : Below w5.heap.size w5 w7 := (bel_alloc H6.out.1 (.cells #[.int .u64 (uI x)] 57)).grown hgrow7 (by simp; omega) (fun j hj => ((H6.out.2.1.alloc (.cells #[.int .u64 (uI x)] 57)).lt j hj).1)
    refine ⟨⟨k + 1, out ++ [x], by omega, by simp, Lib.hid ⟨H6.out.2.2.2, by have := H6.out.2.2.1; simp; omega, by unfold OwnU; rw [List.length_append, List.map_append]; exact hown', hb7⟩⟩, by simp [intOf]; omega⟩
   ·have e1 : leastStep out x = out := by unfold leastStep; rw [ha]; rfl
    rw [e1] at hst
    have H6 := Lib.hid (And.intro hb6 (And.intro hO6 (And.intro hl6 hst))); clear hb6 hO6 hl6 hst ha e1 hck lck
    go_wp2_with fail
    exact ⟨⟨k + 1, out, by omega, by simp, Lib.hid ⟨H6.out.2.2.2, by have := H6.out.2.2.1; omega, H6.out.2.1, H6.out.1⟩⟩, by simp [intOf]; omega⟩
  ·obtain rfl : k = L.length := by omega
   go_wp2_with fail
   go_ret
   have h1 := HI.out.1
   rw [List.drop_length] at h1
   have h1 : out = pathsM m p := h1
   refine ⟨_, rfl, ?_, H5.out.2.1.below HI.out.2.2.2 H5.out.2.1.lt, gb_bel2 H5.out.2.2.1 (HI.out.2.2.2.mono H5.out.2.2.1.size)⟩
   rw [← h1]
   exact own_weak HI.out.2.2.1 H5.out.2.2.1.size
end Go.Proofs.YtkcpnhigekopaaaDoor
end
section
namespace Go.Proofs.YtkcpnhigekopaaaDoor
open Go.RowKit Go.Rel Go.Draw
set_option maxRecDepth 100000
/-! Paths -/
theorem askE_p {l : List Sol} {p : Int} {G : U} (ha : [p].any (askF l.length G) = false) : ∃ q : Nat, p = (q : Int) ∧ q < l.length := by
 simp only [List.any_cons, List.any_nil, Bool.or_false] at ha
 unfold askF at ha
 simp only [Bool.or_eq_false_iff, decide_eq_false_iff_not] at ha
 exact ⟨p.toNat, by omega, by omega⟩
theorem least_len : ∀ (L out : List U), (L.foldl leastStep out).length ≤ out.length + L.length
 | [], out => by simp
 | s :: L, out => by
  have := least_len L (leastStep out s)
  have h2 : (leastStep out s).length ≤ out.length + 1 := by unfold leastStep; split <;> simp
  rw [List.foldl_cons, List.length_cons]; omega
theorem paths_few {m : List Sol} (hm : m.length ≤ 12) (p : Nat) : (pathsM m p).length ≤ 4096 := by
 rw [paths_eq]
 have h1 := least_len (sortU ((setsL m.length 0 0).filter fun s => s.getLsbD p && firstM m s)) []
 rw [(sortU_perm _).length_eq] at h1
 have e2 := List.length_filter_le (fun S => S.getLsbD p && firstM m S) (setsL m.length 0 0)
 rw [setsL_len] at e2
 have e3 : 2 ^ m.length ≤ 2 ^ 12 := Nat.pow_le_pow_right (by omega) hm
 rw [List.length_nil, Nat.zero_add] at h1
 omega
/-- a list of one's own joins a list of lists of one's own -/
theorem OwnLL.join {base B2 : Nat} {w5 w7 : World} {out : List (List Nat)} {l : List Nat} {v v' u : Value} {us : List Value} (hO : OwnL w5 base v us) (hul : us.length = out.length)
  (hin : ∀ (i : Nat) (u : Value) (l : List Nat), us[i]? = some u → out[i]? = some l → OwnI w5 base u (intsL l)) (hB : base ≤ B2) (hu : OwnI w5 B2 u (intsL l)) {cs : Array Value} {ty : TypeId} (hown' : OwnL w7 base v' (us ++ [u])) (hgrow7 : (w5.alloc (.cells cs ty)).grownBy w7 v.ownBlock) : OwnLL w7 base v' (out ++ [l]) := by
 have hO7 := hO.alloc (.cells cs ty)
 refine ⟨us ++ [u], hown', by simp [hul], fun i x y hx hy => ?_⟩
 by_cases hi : i < us.length
 ·rw [List.getElem?_append_left hi] at hx
  rw [List.getElem?_append_left (by rw [← hul]; exact hi)] at hy
  exact own_keptL ((hin i x y hx hy).alloc _) hO7 (by decide) hgrow7
 ·rw [List.getElem?_append_right (by omega)] at hx
  rw [List.getElem?_append_right (by rw [← hul]; omega), ← hul] at hy
  have h0 : i - us.length = 0 := by
   obtain ⟨h, _⟩ := List.getElem?_eq_some_iff.1 hx
   simp at h; omega
  rw [h0] at hx hy
  simp only [List.getElem?_cons_zero, Option.some.injEq] at hx hy
  subst hx hy
  exact own_keptL ((own_weak hu hB).alloc _) hO7 (by decide) hgrow7
end Go.Proofs.YtkcpnhigekopaaaDoor
end
section
namespace Go.Proofs.YtkcpnhigekopaaaDoor
open Go.RowKit Go.Rel Go.Draw
set_option maxRecDepth 100000
/-! Needs -/
def needE (l : List Sol) (p : Int) : Int := if askE l [] [p] ≠ 0 then askE l [] [p] else if (pathsM l p.toNat).isEmpty then 30 else 0
set_option maxHeartbeats 8000000 in
theorem Needs_spec {w : World} {v : Value} {l : List Sol} {p : Int} (H : SlS w v l) (hT : Tab w) : Calls Tryd.prog 10 #[v, .int .i64 p] w fun e w' => Below w.heap.size w w' ∧ ∃ u, e = .returned (.tuple #[u, .int .i64 (needE l p)]) ∧ (needE l p = 0 → OwnI w' w.heap.size u (intsL (listU (needsU l p.toNat)))) ∧ (needE l p ≠ 0 → u = .slice none 0 0) := by
 have HA := Lib.hid (asked_spec (gone := []) (of := [p]) (H.mono (bel_alloc (bel_refl w) (.cells #[.int .i64 p] 3))) sl_nil (sl_news (Blk.new w #[.int .i64 p] 3)))
 have HT := Lib.hid hT
 clear H hT
 go_enter Tryd.func10, Tryd.ntmps10
 go_wp2_with fail
 refine HA.out.mono ?_
 rintro e w1 ⟨hb1, a, G, rfl, hx, hn⟩
 have hb : Below w.heap.size w w1 := bel_trans (bel_alloc (bel_refl w) (.cells #[.int .i64 p] 3)) hb1
 by_cases h0 : askE l [] [p] = 0
 ·obtain ⟨hl, hE, hs, ha, g, mb, rfl, hg, hmb, hM⟩ := hx h0
  obtain ⟨q, rfl, hq⟩ := askE_p ha
  have HB := Lib.hid (And.intro hb (And.intro (show w.heap.size ≤ mb by simp at hmb; omega) (And.intro h0 hM)))
  have HP := Lib.hid (paths_spec hM hl (HT.out.grow hb) (p := q) (by omega))
  rw [h0]
  clear hb hb1 hx hn h0 hM hs ha hE hg hmb
  go_wp2_with fail
  refine HP.out.mono ?_
  rintro e w5 ⟨u, rfl, hO, hw5, hg5⟩
  have hb5 : Below w.heap.size w w5 := gb_base HB.out.1 hg5 HB.out.2.1
  obtain ⟨L, hL⟩ : ∃ L, L = pathsM l q := ⟨_, rfl⟩
  rw [← hL] at hO
  have hLl : L.length ≤ 4096 := by rw [hL]; exact paths_few hl q
  obtain ⟨pv, cv, rfl, _⟩ := own_shape' hO
  obtain ⟨pa, pc, hBk, _⟩ := (HB.out.2.2.2.grown hg5 hw5).blk
  have cg := hBk.cell; have lg := hBk.lt
  have H5 := Lib.hid (And.intro hO (And.intro hb5 hL))
  clear hO hb5 hg5 HP hw5 hBk
  by_cases hL0 : L = []
  ·have e0 : ((L.length : Int) == 0) = true := by rw [hL0]; rfl
   have HE : Hid (needE l q = 30) := Lib.hid (by unfold needE; rw [if_neg (by simpa using HB.out.2.2.1), if_pos (by rw [Int.toNat_natCast, ← hL, hL0]; rfl)])
   clear hL hL0
   go_wp2_with fail
   go_ret2
   exact ⟨H5.out.2.1, _, by rw [HE.out]; rfl, (fun h => by rw [HE.out] at h; cases h), fun _ => rfl⟩
  ·have e0 : ((L.length : Int) == 0) = false := by
    have := List.length_pos_iff.2 hL0
    simp; exact hL0
   have HE : Hid (needE l q = 0) := Lib.hid (by
    unfold needE
    rw [if_neg (by simpa using HB.out.2.2.1), if_neg]
    rw [Int.toNat_natCast, ← hL]; simpa using hL0)
   have HA := Lib.hid (fun W => all_spec pa l.length pc (by omega) W)
   have es := pow_u q (by omega)
   have em : min q 64 = q := Nat.min_eq_left (by omega)
   have ea := bits_andNot_u (allU l.length) (bit q)
   clear hL hL0
   go_wp2_with fail
   refine Go.Rel.region_still_tail 8 (by kernel_rfl) (by kernel_rfl) ?_
   simp only [List.take_succ_cons, List.take_zero, List.drop_succ_cons, List.drop_zero]
   iterate 4 (with_reducible refine wpStill_yes (by kernel_rfl) (fun K hK => ?_); go_simp; refine hK _ ?_; clear hK K)
   (with_reducible refine wpStill_yes (by kernel_rfl) (fun K hK => ?_); go_simp; refine ⟨_, (HA.out _), hK _ ?_⟩; clear hK K)
   iterate 3 (with_reducible refine wpStill_yes (by kernel_rfl) (fun K hK => ?_); go_simp; refine hK _ ?_; clear hK K)
   refine wpStill_nil ?_
   go_wp2_with fail
   go_loopw [40, 10] (fun iv gv wx => ∃ (k : Nat) (A : U), k ≤ L.length ∧ iv = .int .i64 k ∧ gv = .int .u64 (uI A) ∧ Hid ((L.drop k).foldl (· &&& ·) A = needsU l q) ∧ Hid (Below w5.heap.size w5 wx)) (fun iv _ _ => L.length - (intOf iv).toNat)
   case atStart => exact ⟨0, _, Nat.zero_le _, rfl, rfl, Lib.hid (by rw [H5.out.2.2]; rfl), Lib.hid (bel_drew (Below.refl _ _))⟩
   case round =>
    obtain ⟨k, A, hk, rfl, rfl, HI, HW⟩ := hrel
    by_cases hlt : k < L.length
    ·obtain ⟨x, hx⟩ : ∃ x, L[k]? = some x := ⟨_, List.getElem?_eq_getElem hlt⟩
     obtain ⟨ib, io, c, hv, hib, lib, hc⟩ := own_cellU H5.out.1 hx
     simp only [Value.slice.injEq] at hv
     obtain ⟨rfl, _, rfl⟩ := hv
     have hck := (HW.out.cell (p := ⟨ib, io + k, none⟩) lib).trans hc
     have lck : ib < wr.heap.size := Nat.lt_of_lt_of_le lib HW.out.size
     have HX := Lib.hid (drop_atU hx)
     have eq := bits_and_u A x
     clear hx hc hib lib
     go_wp2_with fail
     refine ⟨⟨k + 1, A &&& x, by omega, by simp, rfl, Lib.hid ?_, HW⟩, by simp [intOf]; omega⟩
     have := HI.out
     rw [HX.out] at this
     exact this
    ·obtain rfl : k = L.length := by omega
     have hA : A = needsU l q := by have := HI.out; rw [List.drop_length] at this; exact this
     have hbw := bel_trans H5.out.2.1 HW.out
     have HL := Lib.hid (list_spec A wr (HT.out.grow hbw))
     have HAA := Lib.hid (And.intro hA hbw)
     clear hA hbw
     go_wp2_with fail
     refine HL.out.mono ?_
     rintro e w6 ⟨u, rfl, hO6, hb6⟩
     have H6 := Lib.hid (And.intro hO6 hb6); clear hO6 hb6
     go_wp2_with fail
     go_ret2
     exact ⟨bel_trans HAA.out.2 H6.out.2, _, by rw [HE.out]; rfl, (fun _ => by rw [Int.toNat_natCast, ← HAA.out.1]; exact own_weak H6.out.1 HAA.out.2.size), fun h => absurd HE.out h⟩
 ·have e0 : (askE l [] [p] != 0) = true := by simpa using h0
  have HE : Hid (needE l p = askE l [] [p]) := Lib.hid (by unfold needE; rw [if_pos h0])
  have HB := Lib.hid (And.intro hb h0)
  clear hb hb1 hx hn h0
  go_wp2_with fail
  go_ret2
  exact ⟨HB.out.1, _, by rw [HE.out]; rfl, (fun h => by rw [HE.out] at h; exact absurd h HB.out.2), fun _ => rfl⟩
end Go.Proofs.YtkcpnhigekopaaaDoor
end
section
namespace Go.Proofs.YtkcpnhigekopaaaDoor
open Go.RowKit Go.Rel Go.Draw
set_option maxRecDepth 100000
/-! cast: the chapter's examples hold -/
theorem SlLL.up {w w' : World} {v : Value} {ls : List (List Int)} (h : SlLL w v ls) (hb : Below w.heap.size w w') : SlLL w' v ls := by
 obtain ⟨us, h1, h2, h3⟩ := h
 exact ⟨us, h1.mono hb, h2, fun i u l hu hl => (h3 i u l hu hl).mono hb⟩
theorem lit_moves {W : World} {b : Nat} {l : List MvI} {cs : Array Value} {t : TypeId} (h : Blk W b cs t) (hc : (l.map mvIL).flatten = cs.toList) (hl : l.length ≤ 1000) : SlX W (.slice (some ⟨b, 0, none⟩) l.length l.length) l := by
 have := sl_block (k := 3) (ls := l.map mvIL) h (by intro r hr; obtain ⟨x, _, rfl⟩ := List.mem_map.1 hr; rfl) hc (by simpa using hl)
 simpa using this
theorem lit_ints {W : World} {b : Nat} {l : List Int} {t : TypeId} (h : Blk W b (l.map (Value.int .i64)).toArray t) (hl : l.length ≤ 1000) : SlI W (.slice (some ⟨b, 0, none⟩) l.length l.length) l := by
 have := sl_block (ls := l.map intL) h (by intro r hr; obtain ⟨x, _, rfl⟩ := List.mem_map.1 hr; rfl) (by rw [flat_int]) (by simpa using hl)
 simpa using this
theorem lit_lists {W : World} {b : Nat} {us : List Value} {ls : List (List Int)} {t : TypeId} (h : Blk W b us.toArray t) (hl : us.length ≤ 1000) (hn : us.length = ls.length) (hi : ∀ (i : Nat) (u : Value) (l : List Int), us[i]? = some u → ls[i]? = some l → SlI W u l) : SlLL W (.slice (some ⟨b, 0, none⟩) us.length us.length) ls := by
 have := sl_block (ls := us.map fun x => [x]) h (by intro r hr; obtain ⟨x, _, rfl⟩ := List.mem_map.1 hr; rfl) (flat_sing us) (by simpa using hl)
 exact ⟨us, by simpa using this, hn, hi⟩
end Go.Proofs.YtkcpnhigekopaaaDoor
end
