import Derived.Test.YtkfimbonmnoglaaGreatDoorRPlaces36
import Derived.Deep.Cut
import Derived.Laws.AppendOwn
/-
  Given contracts of functions of the program, and laws for them, one behind the other.
-/
set_option linter.unusedVariables false
set_option linter.unusedSimpArgs false
set_option linter.unusedSectionVars false
section
namespace Go.Proofs.YtkfimbonmnoglaaGreatDoor
open Go.RowKit Go.Rel Go.Draw Go.Solid
set_option maxRecDepth 100000
attribute [local go_sem] Oper.semAt_some
theorem own_cells {W : World} {base : Nat} {v : Value} {l : List Sol} (h : OwnSo W base v l) {r : Nat} (hr : v.ownBlock = some r) : ∃ cur, W.heap[r]? = some (.cells cur 26) := by
 rcases h.2 with ⟨rfl, _⟩ | ⟨g, cap, cur, rfl, _, hg, _⟩
 ·cases hr
 ·cases hr
  exact ⟨cur, hg⟩
theorem sorted_nil (w : World) : Calls Tryz.prog 104 #[.slice none 0 0, .func (.func 102) #[] #[]] w fun e w' => e = .returned (.slice none 0 0) ∧ Below w.heap.size w w' := by
 have HS := Lib.hid fun W => sortSol_none none 0 (.func (.func 102) #[] #[]) W
 have HC := Lib.hid fun W => compact_short none (n := 0) (cap := 0) (by omega) W
 go_enter Tryz.func104, Tryz.ntmps104
 go_wp2_with fail
 refine (HS.out _).mono ?_
 rintro e w1 ⟨rfl, hw⟩
 have hw2 := hw.symm
 subst hw2
 clear hw
 go_wp2_with fail
 refine (HC.out _).mono ?_
 rintro e w2 ⟨rfl, hb⟩
 have HB := Lib.hid hb
 clear hb
 go_wp2_with fail
 go_ret
 exact ⟨rfl, HB.out⟩
theorem sorted_own {W : World} {base : Nat} {v : Value} {l : List Sol} (hO : OwnSo W base v l) (hb : base ≤ W.heap.size) (hl : l.length ≤ 1048576) :
  Calls Tryz.prog 104 #[v, .func (.func 102) #[] #[]] W fun e w' => ∃ u, e = .returned u ∧ SlS w' u (sortD l) ∧ Below base W w' := by
 rcases hO.2 with ⟨rfl, h0⟩ | ⟨g, cap, cur, rfl, hbg, hg, hnc, hcm, hcs, htake⟩
 ·have : l = [] := List.eq_nil_of_length_eq_zero h0
  subst this
  refine (sorted_nil W).mono ?_
  rintro e w' ⟨rfl, h⟩
  exact ⟨_, rfl, ⟨none, 0, rfl, by simp [sortD], by simp, .inl rfl⟩, h.mono hb⟩
 ·exact sorted_spec (T := 26) (cur := cur) ⟨hg, hcs, hnc, htake⟩ rfl hbg ⟨hl, by unfold maxLen at hcm; omega⟩
theorem sl_putObj {W : World} {v : Value} {l : List Sol} (h : SlS W v l) {D : Nat} {x : Option (List Deferred)} (hD : W.heap[D]? = some (.deferred x)) (o : Obj) : SlS (W.putObj D o) v l := by
 obtain ⟨a, c, hv, hc, hm, h | ⟨b, off, ha, hcs⟩⟩ := h
 ·exact ⟨a, c, hv, hc, hm, .inl h⟩
 ·cases l with
  | nil => exact ⟨a, c, hv, hc, hm, .inl rfl⟩
  | cons s l =>
   have hne : b ≠ D := fun e => by
    have h0 := hcs.2 0 0 (.int .u64 (pl s 0)) (by simp)
    rw [e] at h0
    simp [World.cell?, hD] at h0
   refine ⟨a, c, hv, hc, hm, .inr ⟨b, off, ha, by have := hcs.1; simpa [World.putObj] using this, fun i j u hu => (World.cell?_of_block (World.putObj_heap_other hne)).trans (hcs.2 i j u hu)⟩⟩
def PlI (w : World) (l : List Sol) (W : World) : Prop := Below w.heap.size w W ∧ ∃ v, Blk W (w.heap.size + 1 + 1) #[v] 41 ∧ OwnSo W (w.heap.size + 1 + 1 + 1 + 1 + 1 + 1 + 1) v l
theorem PlI.kept {w : World} {l : List Sol} {W W' : World} {r : Option Nat} (hI : PlI w l W) (hg : W.grownBy W' r) (hr : ∀ k, r = some k → w.heap.size + 1 + 1 + 1 ≤ k ∧ k < w.heap.size + 1 + 1 + 1 + 1 + 1 + 1 + 1) : PlI w l W' := by
 obtain ⟨h1, v, h5, h6⟩ := hI
 refine ⟨h1.grown hg h1.size (fun k e => by have := hr k e; omega), v, h5.gb hg ?_, ?_⟩
 ·intro e; have := hr _ e.symm; omega
 ·refine World.ownsRow.kept h6 hg ?_
  cases hv : v.ownBlock with
  | none => exact .inl rfl
  | some g =>
   refine .inr fun e => ?_
   have h1 := hr g e.symm
   have h2 := (World.ownsRow.lt h6 g hv).1
   omega
set_option maxHeartbeats 4000000 in
theorem places_zero (a b : Sol) (hb : b = 0) (w : World) : Calls Tryz.prog 61 #[solV a, solV b] w fun e w' => e = .returned (.tuple #[.slice none 0 0, .int .i64 1]) ∧ Below w.heap.size w w' := by
 have e0 : (b == 0#512) = true := by rw [beq_iff_eq]; exact hb
 clear hb
 go_enter Tryz.func61, Tryz.ntmps61
 go_wp2_with fail
 exact bodyPost_ret (v := .tuple #[.slice none 0 0, .int .i64 1]) (by simp [results, Tryz.results61, go_sem]) rfl ⟨rfl, (by repeat (first | with_reducible exact bel_refl _ | with_reducible assumption | with_reducible refine bel_drewN ?_ _ | with_reducible refine bel_drew ?_ | with_reducible refine bel_alloc ?_ _ | with_reducible refine bel_row ?_ ?_ _ | with_reducible refine bel_set ?_ ?_ _ | refine bel_trans ?_ (by with_reducible assumption) | (simp; done) | (simp; omega)))⟩
attribute [local irreducible] fitsL placesP
set_option maxHeartbeats 8000000 in
theorem places_main (a b : Sol) (hb : b ≠ 0) (w : World) (hT : Tab w) : Calls Tryz.prog 61 #[solV a, solV b] w fun e w' => ∃ u, e = .returned (.tuple #[u, .int .i64 0]) ∧ SlS w' u (placesP a b) ∧ Below w.heap.size w w' := by
 have e0 : (b == 0#512) = false := by rw [beq_eq_false_iff_ne]; exact hb
 have hflen := fits_len a hb
 obtain ⟨F, hF⟩ : ∃ F, F = fitsL a b := ⟨_, rfl⟩
 have hR : placesP a b = sortD (F.map fun y : Mt × Sol => y.2) := by rw [hF]; unfold placesP; rfl
 obtain ⟨R, hRR⟩ : ∃ R, R = placesP a b := ⟨_, rfl⟩
 rw [← hRR] at hR ⊢
 rw [← hF] at hflen
 have HF := Lib.hid (And.intro hF (And.intro hflen hR))
 have HT := Lib.hid hT
 have HBN := Lib.hid hb
 have htl := hT.lt
 have HTL := Lib.hid htl
 clear hb hT hF hflen hR hRR htl
 obtain ⟨i0, hi, hz0, hz1, hz2⟩ := info_parts infoSol
 have HI0 := Lib.hid (And.intro hi (And.intro hz0 (And.intro hz1 hz2))); clear hi hz0 hz1 hz2
 refine (callsIn_wide (n := 9)).1 ?_
 refine callsIn_of_wp_marks Tryz.func61 rfl trivial ?_ rfl
 simp only [Tryz.ntmps61, List.size_toArray, List.length_cons, List.length_nil, Nat.reduceAdd, Nat.reduceSub, Array.replicate_succ, Array.replicate_zero, List.push_toArray, List.append_toArray, List.nil_append, List.cons_append]
 refine wpIn_wide.2 ?_
 go_wp2_with fail
 refine (fits_spec a b _).mono ?_
 rintro e w3 ⟨rfl, hw3⟩
 simp only [World.size_alloc] at hw3 ⊢
 have b5 : Blk w3 (w.heap.size + 1 + 1 + 1) #[.int .u64 (pl a 0), .int .u64 (pl a 1), .int .u64 (pl a 2), .int .u64 (pl a 3), .int .u64 (pl a 4), .int .u64 (pl a 5), .int .u64 (pl a 6), .int .u64 (pl a 7)] 26 := by subst hw3; exact Blk.alloc (Blk.at _ _ (by simp)) _
 have b6 : Blk w3 (w.heap.size + 1 + 1 + 1 + 1) #[.int .u64 (pl b 0), .int .u64 (pl b 1), .int .u64 (pl b 2), .int .u64 (pl b 3), .int .u64 (pl b 4), .int .u64 (pl b 5), .int .u64 (pl b 6), .int .u64 (pl b 7)] 26 := by subst hw3; exact Blk.at _ _ (by simp)
 have hb3 : Below w.heap.size w w3 := by subst hw3; exact (by repeat (first | with_reducible exact bel_refl _ | with_reducible assumption | with_reducible refine bel_drewN ?_ _ | with_reducible refine bel_drew ?_ | with_reducible refine bel_alloc ?_ _ | with_reducible refine bel_row ?_ ?_ _ | with_reducible refine bel_set ?_ ?_ _ | refine bel_trans ?_ (by with_reducible assumption) | (simp; done) | (simp; omega)))
 have hsz3 : w3.heap.size = w.heap.size + 1 + 1 + 1 + 1 + 1 := by subst hw3; simp
 have hM : PlI w [] w3 := by
  refine ⟨hb3, .slice none 0 0, ?_, OwnSo.nil _ _⟩
  subst hw3; exact (by repeat (first | with_reducible assumption | (refine Blk.at _ _ ?_; (simp; done)) | with_reducible refine Blk.alloc ?_ _ | with_reducible refine Blk.drew ?_ | with_reducible refine Blk.rowS ?_ _ | with_reducible refine Blk.rowO ?_ _ (by simp)))
 have H3 := Lib.hid (And.intro (And.intro b5 b6) (And.intro hsz3 hM))
 have HT3 := Lib.hid (HT.out.grow hb3)
 clear hw3 b5 b6 hb3 hsz3 hM
 go_wp2_with fail
 refine (wpIn_wide (n := 9)).1 ?_
 refine wpIn_rangeFunc_T (α := Mt × Sol) rfl (by omega) (gf := 155) (lb := #[.pointer (some ⟨w.heap.size + 1 + 1 + 1, 0, none⟩), .pointer (some ⟨w.heap.size + 1 + 1 + 1 + 1, 0, none⟩)]) rfl trivial (enters_of Tryz.func155 (by kernel_rfl) rfl) (encs := fun y : Mt × Sol => #[motV (y.1.1 : Int) y.1.2, solV y.2]) (wr := fun k o => k = w.heap.size + 1 + 1 ∨ (w.heap.size + 1 + 1 + 1 + 1 + 1 + 1 + 1 ≤ k ∧ ∃ cs, o = .cells cs 26)) 0
  (fun W hbW hsW => fits_seqT (n := 9 - 1) (by omega) a b HBN.out (H3.out.1.1.grow hbW) (H3.out.1.2.grow hbW) (HT3.out.grow hbW) ⟨fun k c T hk hne hw => by
    have h3 := H3.out.2.1
    rcases hw with h | ⟨_, cs, h⟩
    ·omega
    ·injection h with _ h; exact hne h, fun o hw => by rcases hw with h | ⟨h, _⟩ <;> omega, fun o hw => by rcases hw with h | ⟨h, _⟩ <;> omega, fun o hw => by have := HTL.out; rcases hw with h | ⟨h, _⟩ <;> omega⟩) (fun r o h1 h2 hw => by have := H3.out.2.1; rcases hw with h | ⟨h, _⟩ <;> omega) (fun _ => rfl)
  (fun (pre : List (Mt × Sol)) W => PlI w (pre.map fun y : Mt × Sol => y.2) W) (fun _ (_ : List (Mt × Sol)) _ => False)
  (fun pre W W' r hi hg hr => hi.kept hg (fun k e => by have := hr k e; have := H3.out.2.1; omega)) (fun c pre W W' r hi hg hr => hi.elim) H3.out.2.2
  (fun z a' W => ∃ B8, w3.heap.size + 1 + 1 + 0 ≤ B8 ∧ Blk W B8 #[.int .u64 (pl z.2 0), .int .u64 (pl z.2 1), .int .u64 (pl z.2 2), .int .u64 (pl z.2 3), .int .u64 (pl z.2 4), .int .u64 (pl z.2 5), .int .u64 (pl z.2 6), .int .u64 (pl z.2 7)] 26 ∧ a' = { tmps := #[solV a, solV b, .pointer (some ⟨w.heap.size, 0, none⟩), .pointer (some ⟨w.heap.size + 1, 0, none⟩), .slice none 0 0, .int .i64 0, .pointer (some ⟨w.heap.size + 1 + 1, 0, none⟩), undef, .pointer (some ⟨B8, 0, none⟩), solV b, .agg #[.int .u64 0, .int .u64 0, .int .u64 0, .int .u64 0, .int .u64 0, .int .u64 0, .int .u64 0, .int .u64 0], .bool false, solV a, solV b, .func (.func 155) #[] #[.pointer (some ⟨w.heap.size + 1 + 1 + 1, 0, none⟩), .pointer (some ⟨w.heap.size + 1 + 1 + 1 + 1, 0, none⟩)], motV (z.1.1 : Int) z.1.2, solV z.2, undef, undef, undef, undef, undef, undef], defers := [] })
  (fun z a' _ X Y row hs hg hr => by obtain ⟨B8, e1, e2, e3⟩ := hs; exact ⟨B8, e1, e2.gb hg (fun e => by have := hr _ e.symm; omega), e3⟩)
  ?assign ?body ?done ?stop
 case assign =>
  rintro lp pre z W K hM hsz hK
  have HI := Lib.hid hM; clear hM
  have hK' := fun a' W' => hK a' W'
  clear hK
  gi_wp2_with fail
  exact hK' _ _ (KeepsT.alloc _ _ _) (HI.out.kept (World.grownBy_alloc _ _ none) (fun k e => by cases e)) ⟨W.heap.size, hsz, Blk.new _ _ _, rfl⟩
 case body =>
  rintro lp pre z a' W hsz hM ⟨B8, hB8, bB, rfl⟩ hlen
  have hM2 : PlI w (pre.map fun y : Mt × Sol => y.2) W := hM
  have hlp : (pre.map fun y : Mt × Sol => y.2).length ≤ 81000 := by
   rw [List.length_map]
   have h2 := HF.out.2.1
   rw [← HF.out.1] at hlen
   omega
  have hsn : ((pre ++ [z]).map fun y : Mt × Sol => y.2) = (pre.map fun y : Mt × Sol => y.2) ++ [z.2] := by rw [List.map_append]; rfl
  obtain ⟨p, hp⟩ : ∃ p, p = pre.map fun y : Mt × Sol => y.2 := ⟨_, rfl⟩
  rw [← hp] at hM2 hsn hlp
  have HN := Lib.hid hsn
  clear hM hp hsn hlen
  obtain ⟨⟨tt, d⟩, S⟩ := z
  simp only at bB
  obtain ⟨q1, v, q5, q6⟩ := hM2
  have c8 := bB.cell; have l8 := bB.lt
  have c2 := q5.cell; have l2 := q5.lt
  have hH3 := H3.out.2.1
  have HO := Lib.hid (And.intro q6 (And.intro q5 q1))
  clear q1 q5 q6 bB
  gi_wp2_with (first
   | (gi_at_builtin; refine wpListIn_append_own _ rfl _ _ 41 rfl (w.heap.size + 1 + 1 + 1 + 1 + 1 + 1 + 1) 26 i0 _ 8 64 Tryz.underlying41 HI0.out.1 HI0.out.2.1 HI0.out.2.2.1 HI0.out.2.2.2 rfl (by decide) _ _ _ rfl (World.ownsRow.alloc HO.out.1 _) ⟨W.heap.size, 0, none⟩ 1 1 (solL S) rfl rfl (blk_newsS (Blk.new W _ 26)) (fun y hy => by simp [solL] at hy; rcases hy with rfl | rfl | rfl | rfl | rfl | rfl | rfl | rfl <;> rfl) (by unfold maxLen; omega) (by omega) (by simp; omega) ?_; intro v' w7 hown' hgrow7 hnil7; clear hnil7; obtain ⟨pv, cv, hv, _, _⟩ := own_shape' hown'; subst hv; have B7 := (HO.out.2.1.alloc (.cells #[.int .u64 (pl S 0), .int .u64 (pl S 1), .int .u64 (pl S 2), .int .u64 (pl S 3), .int .u64 (pl S 4), .int .u64 (pl S 5), .int .u64 (pl S 6), .int .u64 (pl S 7)] 26)).gb hgrow7 (by intro e; have := World.ownsRow.lt HO.out.1 _ e.symm; omega); have r7 := B7.row; have l7 := B7.lt; have H7 := Lib.hid (And.intro B7 (And.intro hown' hgrow7)); rw [← B7.rw]; clear hown' hgrow7 B7))
  refine ⟨KeepsT.trans (.alloc _ _ _) (KeepsT.trans (.gb H7.out.2.2 (fun r o e ho => .inr ⟨(World.ownsRow.lt HO.out.1 r e).1, by
   obtain ⟨cur, hc⟩ := own_cells (World.ownsRow.alloc HO.out.1 (.cells #[.int .u64 (pl S 0), .int .u64 (pl S 1), .int .u64 (pl S 2), .int .u64 (pl S 3), .int .u64 (pl S 4), .int .u64 (pl S 5), .int .u64 (pl S 6), .int .u64 (pl S 7)] 26) : OwnSo _ _ _ _) e
   rw [hc] at ho
   exact ⟨cur, (Option.some.inj ho).symm⟩⟩)) (.gb (gb_row (gb_refl w7 (some (w.heap.size + 1 + 1))) _) (fun r o e _ => by cases e; exact .inl rfl))), ?_⟩
  show PlI w _ _
  rw [HN.out]
  refine ⟨bel_row ((bel_alloc HO.out.2.2 _).grown H7.out.2.2 (by simp; omega) (fun k e => by have := World.ownsRow.lt HO.out.1 k e; omega)) (by omega) _, _, H7.out.1.rowS _, ?_⟩
  refine World.ownsRow.kept (row := some (w.heap.size + 1 + 1)) ?_ (gb_row (gb_refl w7 _) _) ?_
  ·rw [List.length_append, List.map_append, List.flatten_append]
   simpa using H7.out.2.1
  ·refine .inr fun e => ?_
   have := World.ownsRow.lt H7.out.2.1 _ e
   omega
 case done =>
  rintro D xs W hD hS hM hK
  have hH3 := H3.out.2.1
  have hM2 : PlI w (xs.map fun y : Mt × Sol => y.2) W := hM
  clear hM
  have hS2 : xs = F := by rw [HF.out.1]; exact hS
  rw [hS2] at hM2
  obtain ⟨h1, v, h5, h6⟩ := hM2
  have lD := (Array.getElem?_eq_some_iff.1 hK).1
  have c5 := h5.cell; have l5 := h5.lt
  have HSo := Lib.hid (sorted_own (own_weak h6 (base' := D + 1) (by omega) : OwnSo W (D + 1) v _) (by omega) (by rw [List.length_map]; have := HF.out.2.1; omega))
  rw [← HF.out.2.2] at HSo
  have HZ := Lib.hid (And.intro h1 (And.intro hK hD))
  clear h1 h5 h6 hK hD hS hS2
  gi_wp2_with fail
  go_wp2_with fail
  refine HSo.out.mono ?_
  rintro e w8 ⟨u, rfl, hs, hb8⟩
  have hK8 := (hb8.block D (Nat.lt_succ_self D)).trans HZ.out.2.1
  have HY := Lib.hid (And.intro hs (And.intro hK8 (HZ.out.1.trans (hb8.mono (by have := HZ.out.2.2; omega)))))
  clear hs hb8 hK8
  go_wp2_with fail
  refine ⟨by simp, .inl ⟨_, _, rfl, run_takeDeferred HY.out.2.1, ?_⟩⟩
  have hgP := grownBy_putObj' w8 D (.deferred none)
  exact ⟨.tuple #[u, .int .i64 0], by simp [results, Tryz.results61, go_sem], u, rfl, sl_putObj HY.out.1 HY.out.2.1 _, HY.out.2.2.grown hgP HY.out.2.2.size (fun k e => by cases e; have := HZ.out.2.2; omega)⟩
 case stop =>
  rintro D c pre W hD hS hM hK
  exact hM.elim
end Go.Proofs.YtkfimbonmnoglaaGreatDoor
end
section
namespace Go.Proofs.YtkfimbonmnoglaaGreatDoor
open Go.RowKit Go.Rel Go.Draw Go.Solid
set_option maxRecDepth 100000
set_option maxHeartbeats 4000000 in
theorem refPlaces_zero (a b : Sol) (hb : b = 0) (w : World) : Calls Tryz.prog 62 #[solV a, solV b] w fun e w' => e = .returned (.tuple #[.slice none 0 0, .int .i64 1]) ∧ Below w.heap.size w w' := by
 have e0 : (b == 0#512) = true := by rw [beq_iff_eq]; exact hb
 clear hb
 go_enter Tryz.func62, Tryz.ntmps62
 go_wp2_with fail
 exact bodyPost_ret (v := .tuple #[.slice none 0 0, .int .i64 1]) (by simp [results, Tryz.results62, go_sem]) rfl ⟨rfl, (by repeat (first | with_reducible exact bel_refl _ | with_reducible assumption | with_reducible refine bel_drewN ?_ _ | with_reducible refine bel_drew ?_ | with_reducible refine bel_alloc ?_ _ | with_reducible refine bel_row ?_ ?_ _ | with_reducible refine bel_set ?_ ?_ _ | refine bel_trans ?_ (by with_reducible assumption) | (simp; done) | (simp; omega)))⟩
theorem plr_asc {RR acc rest : List Sol} (h : PlR RR acc rest) : Asc acc := h.2.2
attribute [local irreducible] rT rZ rY rX imgS PlR placesR placesP imagesS lastC tryP putS
set_option maxHeartbeats 32000000 in
theorem refPlaces_main (a b : Sol) (hb : b ≠ 0) (w : World) : Calls Tryz.prog 62 #[solV a, solV b] w fun e w' => ∃ u, e = .returned (.tuple #[u, .int .i64 0]) ∧ SlS w' u (placesP a b) ∧ Below w.heap.size w w' := by
 have e0 : (b == 0#512) = false := by rw [beq_eq_false_iff_ne]; exact hb
 have HIm := Lib.hid fun W => refImages_open b W
 have HPS := Lib.hid (plr_start (a := a) (b := b))
 have HPE := Lib.hid (places_eq (a := a) hb)
 have HLo := Lib.hid fun p (hp : p ∈ imagesS b) => image_lo hb hp
 have HMv := Lib.hid fun p (hp : p ∈ imagesS b) x y z hx hy hz => image_moved hb hp (x := x) (y := y) (z := z) hx hy hz
 have HIn := Lib.hid fun p W => refIn_spec p a W
 obtain ⟨L, hL⟩ : ∃ L, L = imagesS b := ⟨_, rfl⟩
 rw [← hL] at HIm HPS HLo HMv
 have hl24 : L.length ≤ 1000000 := by rw [hL, ← imgF_end]; have := imgF_len b 24; omega
 obtain ⟨n, hn⟩ : ∃ n, n = L.length := ⟨_, rfl⟩
 rw [← hn] at HIm hl24
 have HN := Lib.hid hn
 have HL24 := Lib.hid hl24
 obtain ⟨RR, hRR⟩ : ∃ R, R = placesR a b := ⟨_, rfl⟩
 rw [← hRR] at HPS HPE
 clear hL hn hRR hb hl24
 go_enter Tryz.func62, Tryz.ntmps62
 go_wp2_with fail
 obtain ⟨W0, hW0⟩ : ∃ W0, W0 = (w.alloc (.cells #[.int .u64 (pl a 0), .int .u64 (pl a 1), .int .u64 (pl a 2), .int .u64 (pl a 3), .int .u64 (pl a 4), .int .u64 (pl a 5), .int .u64 (pl a 6), .int .u64 (pl a 7)] 26)).alloc (.cells #[.int .u64 (pl b 0), .int .u64 (pl b 1), .int .u64 (pl b 2), .int .u64 (pl b 3), .int .u64 (pl b 4), .int .u64 (pl b 5), .int .u64 (pl b 6), .int .u64 (pl b 7)] 26) := ⟨_, rfl⟩
 have HB : Hid (Blk W0 w.heap.size #[.int .u64 (pl a 0), .int .u64 (pl a 1), .int .u64 (pl a 2), .int .u64 (pl a 3), .int .u64 (pl a 4), .int .u64 (pl a 5), .int .u64 (pl a 6), .int .u64 (pl a 7)] 26 ∧ Below w.heap.size w W0) := Lib.hid (by rw [hW0]; exact ⟨(by repeat (first | with_reducible assumption | (refine Blk.at _ _ ?_; (simp; done)) | with_reducible refine Blk.alloc ?_ _ | with_reducible refine Blk.drew ?_ | with_reducible refine Blk.rowS ?_ _ | with_reducible refine Blk.rowO ?_ _ (by simp))), (by repeat (first | with_reducible exact bel_refl _ | with_reducible assumption | with_reducible refine bel_drewN ?_ _ | with_reducible refine bel_drew ?_ | with_reducible refine bel_alloc ?_ _ | with_reducible refine bel_row ?_ ?_ _ | with_reducible refine bel_set ?_ ?_ _ | refine bel_trans ?_ (by with_reducible assumption) | (simp; done) | (simp; omega)))⟩)
 rw [← hW0]
 clear hW0
 refine (HIm.out _).mono ?_
 rintro e w1 ⟨⟨a7, c7, rfl, hO⟩, hb⟩
 have HB1 := Lib.hid (And.intro (HB.out.1.grow hb) (And.intro hO (bel_trans HB.out.2 hb)))
 clear hO hb HB
 go_wp2_with fail
 go_loopw [6, 8] (fun ov iv wx => ∃ (i : Nat) (acc : List Sol), i ≤ n ∧ iv = .int .i64 i ∧ Hid (PlR RR acc (rT a L i) ∧ (acc = [] → ov = .slice none 0 0) ∧ OwnSo wx w.heap.size ov acc ∧ Blk wx w.heap.size #[.int .u64 (pl a 0), .int .u64 (pl a 1), .int .u64 (pl a 2), .int .u64 (pl a 3), .int .u64 (pl a 4), .int .u64 (pl a 5), .int .u64 (pl a 6), .int .u64 (pl a 7)] 26 ∧ SlO wx a7 L ∧ Below w.heap.size w wx)) (fun _ iv _ => n - (intOf iv).toNat)
 case atStart => exact ⟨0, [], by omega, rfl, Lib.hid ⟨HPS.out, fun _ => rfl, OwnSo.nil _ _, HB1.out⟩⟩
 case round =>
  clear HB1 HPS
  obtain ⟨i, acc, hi, rfl, HM⟩ := hrel
  by_cases hlt : i < n
  ·obtain ⟨p, hp⟩ : ∃ x, L[i]? = some x := ⟨_, List.getElem?_eq_getElem (by rw [← HN.out]; exact hlt)⟩
   have hpm : p ∈ L := List.mem_iff_getElem?.2 ⟨i, hp⟩
   obtain ⟨hp0, hplo⟩ := HLo.out p hpm
   have HMp := Lib.hid fun x y z hx hy hz => HMv.out p hpm x y z hx hy hz
   have HBo := Lib.hid fun W => (refBounds_some hp0 W : Calls Tryz.prog 66 #[solV p] W fun e w' => e = .returned (.tuple #[boxV (loS p) (hiS p), .bool true]) ∧ Below W.heap.size W w')
   rw [hplo] at HBo
   have hrn := inG_iff.1 (hiS_in hp0)
   have hst := HM.out.1
   rw [rT_step a hp] at hst
   have hzs : ∀ z, z ≤ (lastC p).2.2 → rZ a L i p z = rY a L i p z 0 := fun z h => rZ_step h
   have hze : ∀ z, (lastC p).2.2 < z → rZ a L i p z = rT a L (i + 1) := fun z h => rZ_end h
   have hys : ∀ z y, y ≤ (lastC p).2.1 → rY a L i p z y = rX a L i p z y 0 := fun z y h => rY_step h
   have hye : ∀ z y, (lastC p).2.1 < y → rY a L i p z y = rZ a L i p (z + 1) := fun z y h => rY_end h
   have hxs : ∀ z y x, x ≤ (lastC p).1 → rX a L i p z y x = tryP a p z y x ++ rX a L i p z y (x + 1) := fun z y x h => rX_step h
   have hxe : ∀ z y x, (lastC p).1 < x → rX a L i p z y x = rY a L i p z (y + 1) := fun z y x h => rX_end h
   have hlc : lastC p = subC (7, 7, 7) (hiS p) := by unfold lastC; rfl
   rw [hlc] at hzs hze hys hye hxs hxe HMp
   obtain ⟨⟨h0, h1, h2⟩, hh⟩ : ∃ l, l = hiS p := ⟨_, rfl⟩
   rw [← hh] at HBo hrn hzs hze hys hye hxs hxe HMp
   simp only [subC] at hzs hze hys hye hxs hxe HMp hrn
   have m0 : IntKind.i64.wrap (7 - h0) = 7 - h0 := w64 ⟨by omega, by omega⟩
   have m1 : IntKind.i64.wrap (7 - h1) = 7 - h1 := w64 ⟨by omega, by omega⟩
   have m2 : IntKind.i64.wrap (7 - h2) = 7 - h2 := w64 ⟨by omega, by omega⟩
   have HST := Lib.hid (And.intro hzs (And.intro hze (And.intro hys (And.intro hye (And.intro hxs hxe)))))
   have HS0 := Lib.hid hst
   have HRG := Lib.hid hrn
   obtain ⟨b7, o7, rfl, hC7⟩ := HM.out.2.2.2.2.1.at hp
   have HX := Lib.hid hp
   obtain ⟨z0, z1, z2, z3, z4, z5, z6, z7⟩ := sol_cells hC7 hp
   have lz := hC7.1
   have hiI : (i : Int) < (n : Int) := by omega
   have hn6 := HL24.out
   clear hst hzs hze hys hye hxs hxe hrn hh hlc hp hpm hp0 hplo hC7
   go_wp2_with fail
   clear z0 z1 z2 z3 z4 z5 z6 z7 lz
   refine (HBo.out _).mono ?_
   rintro e1 w3 ⟨rfl, hb⟩
   obtain ⟨wB, hwB⟩ : ∃ x, x = w3.alloc (.cells #[.int .i64 0, .int .i64 0, .int .i64 0, .int .i64 h0, .int .i64 h1, .int .i64 h2] 62) := ⟨_, rfl⟩
   obtain ⟨g9, hg9⟩ : ∃ x, x = w3.heap.size := ⟨_, rfl⟩
   have HK : Hid (OwnSo wB w.heap.size _ acc ∧ Blk wB g9 #[.int .i64 0, .int .i64 0, .int .i64 0, .int .i64 h0, .int .i64 h1, .int .i64 h2] 62 ∧ Blk wB w.heap.size #[.int .u64 (pl a 0), .int .u64 (pl a 1), .int .u64 (pl a 2), .int .u64 (pl a 3), .int .u64 (pl a 4), .int .u64 (pl a 5), .int .u64 (pl a 6), .int .u64 (pl a 7)] 26 ∧ SlO wB (some ⟨b7, o7, none⟩) L ∧ Below w.heap.size w wB) := Lib.hid (by
    rw [hwB, hg9]
    exact ⟨World.ownsRow.alloc (own_wide HM.out.2.2.1 hb) _, Blk.new _ _ _, (HM.out.2.2.2.1.grow hb).alloc _, (HM.out.2.2.2.2.1.mono hb).mono (bel_alloc (bel_refl w3) _), bel_alloc (bel_trans HM.out.2.2.2.2.2 hb) _⟩)
   have HNil := Lib.hid HM.out.2.1
   go_upto_region 9 with fail
   rw [← hwB, ← hg9]
   clear hwB hg9 hb HM
   have c9 := HK.out.2.1.cell; have l9 := HK.out.2.1.lt
   go_wp2_with fail
   clear c9 l9
   go_loopw [6, 11] (fun ov zv wx => ∃ (z : Int) (acc : List Sol), 0 ≤ z ∧ z ≤ 8 ∧ zv = .int .i64 z ∧ Hid (PlR RR acc (rZ a L i p z) ∧ (acc = [] → ov = .slice none 0 0) ∧ OwnSo wx w.heap.size ov acc ∧ Below wB.heap.size wB wx)) (fun _ zv _ => (9 - intOf zv).toNat)
   case atStart => exact ⟨0, acc, by omega, by omega, rfl, Lib.hid ⟨HS0.out, HNil.out, HK.out.1, Below.refl _ _⟩⟩
   case round =>
    clear HS0 HNil
    obtain ⟨z, acc, hz1, hz8, rfl, HZ⟩ := hrel
    have c9 := (HK.out.2.1.grow HZ.out.2.2.2).cell; have l9 := (HK.out.2.1.grow HZ.out.2.2.2).lt
    by_cases hz2 : z ≤ 7 - h2
    ·have hst := HZ.out.1
     rw [HST.out.1 z hz2] at hst
     have HY0 := Lib.hid (And.intro hst HZ.out.2)
     have hz7 : z ≤ 7 := by have := HRG.out; omega
     have hwz : wrap64 (z + 1) = z + 1 := IntWalk.wrap64_in _ ⟨by omega, by omega⟩
     clear hst HZ
     go_wp2_with fail
     clear c9 l9
     go_loopw [6, 12] (fun ov yv wx => ∃ (y : Int) (acc : List Sol), 0 ≤ y ∧ y ≤ 8 ∧ yv = .int .i64 y ∧ Hid (PlR RR acc (rY a L i p z y) ∧ (acc = [] → ov = .slice none 0 0) ∧ OwnSo wx w.heap.size ov acc ∧ Below wB.heap.size wB wx)) (fun _ yv _ => (9 - intOf yv).toNat)
     case atStart => exact ⟨0, acc, by omega, by omega, rfl, HY0⟩
     case round =>
      clear HY0
      obtain ⟨y, acc, hy1, hy8, rfl, HY⟩ := hrel
      have c9 := (HK.out.2.1.grow HY.out.2.2.2).cell; have l9 := (HK.out.2.1.grow HY.out.2.2.2).lt
      by_cases hy2 : y ≤ 7 - h1
      ·have hst := HY.out.1
       rw [HST.out.2.2.1 z y hy2] at hst
       have HX0 := Lib.hid (And.intro hst HY.out.2)
       have hy7 : y ≤ 7 := by have := HRG.out; omega
       have hwy : wrap64 (y + 1) = y + 1 := IntWalk.wrap64_in _ ⟨by omega, by omega⟩
       clear hst HY
       go_wp2_with fail
       clear c9 l9
       go_loopw [6, 13] (fun ov xv wx => ∃ (x : Int) (acc : List Sol), 0 ≤ x ∧ x ≤ 8 ∧ xv = .int .i64 x ∧ Hid (PlR RR acc (rX a L i p z y x) ∧ (acc = [] → ov = .slice none 0 0) ∧ OwnSo wx w.heap.size ov acc ∧ Below wB.heap.size wB wx)) (fun _ xv _ => (9 - intOf xv).toNat)
       case atStart => exact ⟨0, acc, by omega, by omega, rfl, HX0⟩
       case round =>
        clear HX0
        obtain ⟨x, acc, hx1, hx8, rfl, HV⟩ := hrel
        have c9 := (HK.out.2.1.grow HV.out.2.2.2).cell; have l9 := (HK.out.2.1.grow HV.out.2.2.2).lt
        by_cases hx2 : x ≤ 7 - h0
        ·have hst := HV.out.1
         rw [HST.out.2.2.2.2.1 z y x hx2] at hst
         have hx7 : x ≤ 7 := by have := HRG.out; omega
         have hwx : wrap64 (x + 1) = x + 1 := IntWalk.wrap64_in _ ⟨by omega, by omega⟩
         have HM1 := Lib.hid fun W => refMoved_n p (x, y, z) W
         rw [HMp.out x y z ⟨hx1, hx2⟩ ⟨hy1, hy2⟩ ⟨hz1, hz2⟩] at HM1
         have htr : tryP a p z y x = if subS (imgS (movC (x, y, z)) p) a then [imgS (movC (x, y, z)) p] else [] := by unfold tryP; rfl
         rw [htr] at hst
         obtain ⟨Q, hQ⟩ : ∃ Q, Q = imgS (movC (x, y, z)) p := ⟨_, rfl⟩
         rw [← hQ] at hst HM1
         have HI1 := Lib.hid fun W => HIn.out Q W
         obtain ⟨q, hq⟩ : ∃ q, q = subS Q a := ⟨_, rfl⟩
         rw [← hq] at hst HI1
         have HSt := Lib.hid hst
         obtain ⟨b', o', hbo, hC7⟩ := (HK.out.2.2.2.1.mono HV.out.2.2.2).at HX.out
         cases hbo
         obtain ⟨z0, z1, z2, z3, z4, z5, z6, z7⟩ := sol_cells hC7 HX.out
         have lz := hC7.1
         clear hst htr hQ hq hC7
         go_wp2_with fail
         clear z0 z1 z2 z3 z4 z5 z6 z7 lz c9 l9
         refine (HM1.out _).mono ?_
         rintro e1 w4 ⟨rfl, hb⟩
         obtain ⟨wC, hwC⟩ : ∃ x, x = w4.alloc (.cells #[.int .u64 (pl Q 0), .int .u64 (pl Q 1), .int .u64 (pl Q 2), .int .u64 (pl Q 3), .int .u64 (pl Q 4), .int .u64 (pl Q 5), .int .u64 (pl Q 6), .int .u64 (pl Q 7)] 26) := ⟨_, rfl⟩
         obtain ⟨g14, hg14⟩ : ∃ x, x = w4.heap.size := ⟨_, rfl⟩
         have HC : Hid (OwnSo wC w.heap.size _ acc ∧ Blk wC g14 #[.int .u64 (pl Q 0), .int .u64 (pl Q 1), .int .u64 (pl Q 2), .int .u64 (pl Q 3), .int .u64 (pl Q 4), .int .u64 (pl Q 5), .int .u64 (pl Q 6), .int .u64 (pl Q 7)] 26 ∧ Below wB.heap.size wB wC) := Lib.hid (by
          rw [hwC, hg14]
          exact ⟨World.ownsRow.alloc (own_wide HV.out.2.2.1 hb) _, Blk.new _ _ _, bel_alloc (bel_trans HV.out.2.2.2 hb) _⟩)
         go_upto_region 19 with fail
         rw [← hwC, ← hg14]
         clear hwC hg14 hb
         have cq := HC.out.2.1.cell; have lq := HC.out.2.1.lt
         have ca := (HK.out.2.2.1.grow HC.out.2.2).cell; have la := (HK.out.2.2.1.grow HC.out.2.2).lt
         go_wp2_with fail
         clear cq lq ca la
         refine (HI1.out _).mono ?_
         rintro e1 w5 ⟨rfl, hb⟩
         have HD := Lib.hid (And.intro (own_wide HC.out.1 hb) (And.intro (HC.out.2.1.grow hb) (bel_trans HC.out.2.2 hb)))
         clear hb HC
         cases q
         ·have hst : PlR RR acc (rX a L i p z y (x + 1)) := HSt.out
          have HE := Lib.hid (And.intro hst (And.intro HV.out.2.1 (And.intro HD.out.1 HD.out.2.2)))
          clear hst HSt HV HD
          go_wp2_with fail
          go_roundw
          case rel => exact ⟨x + 1, acc, by omega, by omega, by go_num, HE⟩
          case measure => simp [intOf]; omega
         ·have hst : PlR RR acc (Q :: rX a L i p z y (x + 1)) := HSt.out
          have HPP := Lib.hid (refPut_spec (s := Q) HD.out.1 (Nat.le_trans HK.out.2.2.2.2.size HD.out.2.2.size) HV.out.2.1 (plr_len hst) (plr_asc hst))
          have HE0 := Lib.hid (plr_put hst)
          have cq := HD.out.2.1.cell; have lq := HD.out.2.1.lt
          clear hst HSt HV
          go_wp2_with fail
          clear cq lq
          refine HPP.out.mono ?_
          rintro e1 w6 ⟨u, rfl, hO, hb⟩
          have HE := Lib.hid (And.intro HE0.out (And.intro (show putS acc Q = [] → u = .slice none 0 0 from fun e => absurd e (put_ne _ _)) (And.intro hO (bel_trans HD.out.2.2 hb))))
          clear hO hb HD HE0 HPP
          go_wp2_with fail
          go_roundw
          case rel => exact ⟨x + 1, putS acc Q, by omega, by omega, by go_num, HE⟩
          case measure => simp [intOf]; omega
        ·have hst := HV.out.1
         rw [HST.out.2.2.2.2.2 z y x (by omega)] at hst
         have HE := Lib.hid (And.intro hst HV.out.2)
         clear hst HV
         go_wp2_with fail
         go_roundw
         case rel => exact ⟨y + 1, acc, by omega, by omega, by go_num, HE⟩
         case measure => simp [intOf]; omega
      ·have hst := HY.out.1
       rw [HST.out.2.2.2.1 z y (by omega)] at hst
       have HE := Lib.hid (And.intro hst HY.out.2)
       clear hst HY
       go_wp2_with fail
       go_roundw
       case rel => exact ⟨z + 1, acc, by omega, by omega, by go_num, HE⟩
       case measure => simp [intOf]; omega
    ·have hst := HZ.out.1
     rw [HST.out.2.1 z (by omega)] at hst
     have HE := Lib.hid (And.intro hst (And.intro HZ.out.2.1 (And.intro HZ.out.2.2.1 (And.intro (HK.out.2.2.1.grow HZ.out.2.2.2) (And.intro (HK.out.2.2.2.1.mono HZ.out.2.2.2) (bel_trans HK.out.2.2.2.2 HZ.out.2.2.2))))))
     clear hst HZ
     go_wp2_with fail
     go_roundw
     case rel => exact ⟨i + 1, acc, by omega, by go_num, HE⟩
     case measure => simp [intOf]; omega
  ·obtain rfl : i = n := by omega
   have hst := HM.out.1
   rw [rT_end a L (by rw [← HN.out]; exact Nat.le_refl _)] at hst
   have HE : Hid (OwnSo wr w.heap.size _ (placesP a b) ∧ Below w.heap.size w wr) := Lib.hid ⟨by rw [HPE.out, ← (plr_nil hst)]; exact HM.out.2.2.1, HM.out.2.2.2.2.2⟩
   clear hst
   go_wp2_with fail
   exact bodyPost_ret (v := .tuple #[_, .int .i64 0]) (by simp [results, Tryz.results62, go_sem]) rfl ⟨_, rfl, HE.out.1.sl, HE.out.2⟩
end Go.Proofs.YtkfimbonmnoglaaGreatDoor
end
section
namespace Go.Proofs.YtkfimbonmnoglaaGreatDoor
open Go.RowKit Go.Rel Go.Draw Go.Solid
set_option maxRecDepth 100000
attribute [local go_sem] Oper.semAt_some
def plE (b : Sol) : Int := if b = 0 then 1 else 0
def plL (a b : Sol) : List Sol := if b = 0 then [] else placesP a b
theorem plL_len (a b : Sol) : (plL a b).length ≤ 100000 := by
 unfold plL
 by_cases hb : b = 0
 ·rw [if_pos hb]; simp
 ·rw [if_neg hb, places_eq hb]
  have h := (plr_start (a := a) (b := b))
  have key : ∀ (rest acc : List Sol), (rest.foldl putS acc).length ≤ acc.length + rest.length := by
   intro rest
   induction rest with
   | nil => intro acc; simp
   | cons q rest ih =>
    intro acc
    have h1 := ih (putS acc q)
    have h2 := put_len q acc
    rw [List.foldl_cons, List.length_cons]
    omega
  have h1 := key (rT a (imagesS b) 0) []
  rw [h.1] at h1
  have := rT_len a b
  simp only [List.length_nil] at h1
  omega
theorem places_n (a b : Sol) (w : World) (hT : Tab w) : Calls Tryz.prog 61 #[solV a, solV b] w fun e w' => ∃ u, e = .returned (.tuple #[u, .int .i64 (plE b)]) ∧ SlS w' u (plL a b) ∧ Below w.heap.size w w' := by
 unfold plE plL
 by_cases hb : b = 0
 ·rw [if_pos hb, if_pos hb]
  refine (places_zero a b hb w).mono ?_
  rintro e w' ⟨rfl, h⟩
  exact ⟨_, rfl, ⟨none, 0, rfl, by simp, by simp, .inl rfl⟩, h⟩
 ·rw [if_neg hb, if_neg hb]
  exact places_main a b hb w hT
theorem refPlaces_n (a b : Sol) (w : World) : Calls Tryz.prog 62 #[solV a, solV b] w fun e w' => ∃ u, e = .returned (.tuple #[u, .int .i64 (plE b)]) ∧ SlS w' u (plL a b) ∧ Below w.heap.size w w' := by
 unfold plE plL
 by_cases hb : b = 0
 ·rw [if_pos hb, if_pos hb]
  refine (refPlaces_zero a b hb w).mono ?_
  rintro e w' ⟨rfl, h⟩
  exact ⟨_, rfl, ⟨none, 0, rfl, by simp, by simp, .inl rfl⟩, h⟩
 ·rw [if_neg hb, if_neg hb]
  exact refPlaces_main a b hb w
def IsBo (e : Ending) : Prop := ∃ q : Bool, e = .returned (.bool q)
set_option maxHeartbeats 4000000 in
theorem heavy_spec (a b : Sol) (w : World) : Calls Tryz.prog 60 #[solV a, solV b] w fun e w' => IsBo e ∧ Below w.heap.size w w' := by
 have HB := Lib.hid fun W => refCount_spec b W
 have HA := Lib.hid fun W => refCount_spec a W
 obtain ⟨n, hn⟩ : ∃ n, n = countS b := ⟨_, rfl⟩
 obtain ⟨m, hm⟩ : ∃ n, n = countS a := ⟨_, rfl⟩
 rw [← hn] at HB
 rw [← hm] at HA
 clear hn hm
 go_enter Tryz.func60, Tryz.ntmps60
 go_wp2_with fail
 obtain ⟨W0, hW0⟩ : ∃ W0, W0 = (w.alloc (.cells #[.int .u64 (pl a 0), .int .u64 (pl a 1), .int .u64 (pl a 2), .int .u64 (pl a 3), .int .u64 (pl a 4), .int .u64 (pl a 5), .int .u64 (pl a 6), .int .u64 (pl a 7)] 26)).alloc (.cells #[.int .u64 (pl b 0), .int .u64 (pl b 1), .int .u64 (pl b 2), .int .u64 (pl b 3), .int .u64 (pl b 4), .int .u64 (pl b 5), .int .u64 (pl b 6), .int .u64 (pl b 7)] 26) := ⟨_, rfl⟩
 have H0 : Hid (Blk W0 w.heap.size #[.int .u64 (pl a 0), .int .u64 (pl a 1), .int .u64 (pl a 2), .int .u64 (pl a 3), .int .u64 (pl a 4), .int .u64 (pl a 5), .int .u64 (pl a 6), .int .u64 (pl a 7)] 26 ∧ Below w.heap.size w W0) := Lib.hid (by rw [hW0]; exact ⟨(by repeat (first | with_reducible assumption | (refine Blk.at _ _ ?_; (simp; done)) | with_reducible refine Blk.alloc ?_ _ | with_reducible refine Blk.drew ?_ | with_reducible refine Blk.rowS ?_ _ | with_reducible refine Blk.rowO ?_ _ (by simp))), (by repeat (first | with_reducible exact bel_refl _ | with_reducible assumption | with_reducible refine bel_drewN ?_ _ | with_reducible refine bel_drew ?_ | with_reducible refine bel_alloc ?_ _ | with_reducible refine bel_row ?_ ?_ _ | with_reducible refine bel_set ?_ ?_ _ | refine bel_trans ?_ (by with_reducible assumption) | (simp; done) | (simp; omega)))⟩)
 rw [← hW0]
 clear hW0
 refine (HB.out _).mono ?_
 rintro e w1 ⟨rfl, hb⟩
 have H1 := Lib.hid (And.intro (H0.out.1.grow hb) (bel_trans H0.out.2 hb))
 clear hb H0
 by_cases h1 : (60 : Int) < n
 ·go_wp2_with fail
  go_ret
  exact ⟨⟨_, rfl⟩, H1.out.2⟩
 ·by_cases h2 : (0 : Int) < n
  ·by_cases h3 : (n : Int) < 30
   ·have ca := H1.out.1.cell; have la := H1.out.1.lt
    go_wp2_with fail
    clear ca la
    refine (HA.out _).mono ?_
    rintro e w2 ⟨rfl, hb⟩
    have H2 := Lib.hid (bel_trans H1.out.2 hb)
    clear hb
    go_wp2_with fail
    go_ret
    exact ⟨⟨_, rfl⟩, H2.out⟩
   ·go_wp2_with fail
    go_ret
    exact ⟨⟨_, rfl⟩, H1.out.2⟩
  ·go_wp2_with fail
   go_ret
   exact ⟨⟨_, rfl⟩, H1.out.2⟩
attribute [local irreducible] plL plE placesP
set_option maxHeartbeats 16000000 in
theorem SolidPlaces_walk (a b : Sol) (w : World) (hT : Tab w) (hC : ∀ W, Below w.heap.size w W → Calls Tryz.prog 25 #[] W fun e w' => e = .returned (.bool true) ∧ Below W.heap.size W w') :
  Calls Tryz.prog 13 #[solV a, solV b] w fun e w' => e = .returned (.bool true) ∧ Below w.heap.size w w' := by
 have HT := Lib.hid (fun W (hb : Below w.heap.size w W) => hT.grow hb)
 have HC := Lib.hid hC
 clear hT hC
 have HH := Lib.hid fun W (hb : Below w.heap.size w W) => heavy_spec a b W
 have HP1 := Lib.hid fun W (hb : Below w.heap.size w W) => places_n a b W (HT.out W hb)
 have HP2 := Lib.hid fun W (hb : Below w.heap.size w W) => refPlaces_n a b W
 have HL5 := Lib.hid (plL_len a b)
 obtain ⟨l, hl⟩ : ∃ l, l = plL a b := ⟨_, rfl⟩
 rw [← hl] at HP1 HP2 HL5
 obtain ⟨E, hE⟩ : ∃ l, l = plE b := ⟨_, rfl⟩
 rw [← hE] at HP1 HP2
 clear hl hE
 go_enter Tryz.func13, Tryz.ntmps13
 go_wp2_with fail
 obtain ⟨wS0, hwS⟩ : ∃ x, x = (w.alloc (.cells #[.int .u64 (pl a 0), .int .u64 (pl a 1), .int .u64 (pl a 2), .int .u64 (pl a 3), .int .u64 (pl a 4), .int .u64 (pl a 5), .int .u64 (pl a 6), .int .u64 (pl a 7)] 26)).alloc (.cells #[.int .u64 (pl b 0), .int .u64 (pl b 1), .int .u64 (pl b 2), .int .u64 (pl b 3), .int .u64 (pl b 4), .int .u64 (pl b 5), .int .u64 (pl b 6), .int .u64 (pl b 7)] 26) := ⟨_, rfl⟩
 have HS0 : Hid (Blk wS0 (w.heap.size) #[.int .u64 (pl a 0), .int .u64 (pl a 1), .int .u64 (pl a 2), .int .u64 (pl a 3), .int .u64 (pl a 4), .int .u64 (pl a 5), .int .u64 (pl a 6), .int .u64 (pl a 7)] 26 ∧ Blk wS0 (w.heap.size + 1) #[.int .u64 (pl b 0), .int .u64 (pl b 1), .int .u64 (pl b 2), .int .u64 (pl b 3), .int .u64 (pl b 4), .int .u64 (pl b 5), .int .u64 (pl b 6), .int .u64 (pl b 7)] 26 ∧ Below w.heap.size w wS0) := Lib.hid (by rw [hwS]; exact ⟨(by repeat (first | with_reducible assumption | (refine Blk.at _ _ ?_; (simp; done)) | with_reducible refine Blk.alloc ?_ _ | with_reducible refine Blk.drew ?_ | with_reducible refine Blk.rowS ?_ _ | with_reducible refine Blk.rowO ?_ _ (by simp))), Blk.at _ _ (by simp), (by repeat (first | with_reducible exact bel_refl _ | with_reducible assumption | with_reducible refine bel_drewN ?_ _ | with_reducible refine bel_drew ?_ | with_reducible refine bel_alloc ?_ _ | with_reducible refine bel_row ?_ ?_ _ | with_reducible refine bel_set ?_ ?_ _ | refine bel_trans ?_ (by with_reducible assumption) | (simp; done) | (simp; omega)))⟩)
 have HO0 : Hid True := Lib.hid trivial
 rw [← hwS]
 clear hwS
 refine (HH.out _ HS0.out.2.2).mono ?_
 rintro e1 w1 ⟨⟨q, rfl⟩, hb⟩
 have HS1 : Hid (Blk w1 (w.heap.size) #[.int .u64 (pl a 0), .int .u64 (pl a 1), .int .u64 (pl a 2), .int .u64 (pl a 3), .int .u64 (pl a 4), .int .u64 (pl a 5), .int .u64 (pl a 6), .int .u64 (pl a 7)] 26 ∧ Blk w1 (w.heap.size + 1) #[.int .u64 (pl b 0), .int .u64 (pl b 1), .int .u64 (pl b 2), .int .u64 (pl b 3), .int .u64 (pl b 4), .int .u64 (pl b 5), .int .u64 (pl b 6), .int .u64 (pl b 7)] 26 ∧ Below w.heap.size w w1) := Lib.hid ⟨HS0.out.1.grow hb, HS0.out.2.1.grow hb, bel_trans HS0.out.2.2 hb⟩
 clear hb HS0
 cases q with
 | true =>
  go_wp2_with fail
  refine (HC.out _ HS1.out.2.2).mono ?_
  rintro e1 w90 ⟨rfl, hb⟩
  have HE90 := Lib.hid (bel_trans HS1.out.2.2 hb)
  clear hb
  go_wp2_with fail
  go_ret
  exact ⟨rfl, HE90.out⟩
 | false =>
  have ca := HS1.out.1.cell; have la := HS1.out.1.lt
  have cb := HS1.out.2.1.cell; have lb := HS1.out.2.1.lt
  go_wp2_with fail
  clear ca la cb lb
  refine (HP1.out _ HS1.out.2.2).mono ?_
  rintro e1 w2 ⟨u, rfl, hs, hb⟩
  obtain ⟨pu, cu, rfl, hsu⟩ := SlS.opened hs
  have HS2 := Lib.hid (And.intro (HS1.out.1.grow hb) (And.intro (HS1.out.2.1.grow hb) (And.intro hsu (bel_trans HS1.out.2.2 hb))))
  clear hb hs hsu HS1
  have ca := HS2.out.1.cell; have la := HS2.out.1.lt
  have cb := HS2.out.2.1.cell; have lb := HS2.out.2.1.lt
  go_wp2_with fail
  clear ca la cb lb
  refine (HP2.out _ HS2.out.2.2.2).mono ?_
  rintro e1 w3 ⟨v, rfl, hs, hb⟩
  obtain ⟨pv, cv, rfl, hsv⟩ := SlS.opened hs
  have HS3 := Lib.hid (And.intro (HS2.out.2.2.1.mono hb) (And.intro hsv (bel_trans HS2.out.2.2.2 hb)))
  clear hb hs hsv HS2
  go_wp2_with fail
  refine (HC.out _ HS3.out.2.2).mono ?_
  rintro e1 w4 ⟨rfl, hb⟩
  have HS4 := Lib.hid (And.intro (HS3.out.1.mono hb) (And.intro (HS3.out.2.1.mono hb) (bel_trans HS3.out.2.2 hb)))
  clear hb HS3
  have HSS := Lib.hid (same_sols (ca := cu) (cb := cv) HS4.out.1 HS4.out.2.1 (by have := HL5.out; omega))
  go_wp2_with fail
  refine HSS.out.mono ?_
  rintro e1 w5 ⟨rfl, hb⟩
  have HS5 := Lib.hid (bel_trans HS4.out.2.2 hb)
  clear hb
  go_wp2_with fail
  go_ret
  exact ⟨ret_bool (by simp), HS5.out⟩
end Go.Proofs.YtkfimbonmnoglaaGreatDoor
end
