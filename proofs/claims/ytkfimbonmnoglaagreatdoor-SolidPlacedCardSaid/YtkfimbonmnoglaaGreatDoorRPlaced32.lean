import Derived.Test.YtkfimbonmnoglaaGreatDoorRPlaced31
import Derived.Deep.Cut
import Derived.Laws.AppendOwn
/-
  Given contracts of functions of the program, and laws for them, one behind the other.
-/
set_option linter.unusedVariables false
set_option linter.unusedSimpArgs false
set_option linter.unusedSectionVars false
section
namespace Go.Proofs.YtkfimbonmnoglaaGreatDoor
open Go.RowKit Go.Rel Go.Draw Go.Solid
set_option maxRecDepth 100000
attribute [local go_sem] Oper.semAt_some
theorem own_cells {W : World} {base : Nat} {v : Value} {l : List Sol} (h : OwnSo W base v l) {r : Nat} (hr : v.ownBlock = some r) : ∃ cur, W.heap[r]? = some (.cells cur 26) := by
 rcases h.2 with ⟨rfl, _⟩ | ⟨g, cap, cur, rfl, _, hg, _⟩
 ·cases hr
 ·cases hr
  exact ⟨cur, hg⟩
theorem sorted_nil (w : World) : Calls Tryz.prog 104 #[.slice none 0 0, .func (.func 102) #[] #[]] w fun e w' => e = .returned (.slice none 0 0) ∧ Below w.heap.size w w' := by
 have HS := Lib.hid fun W => sortSol_none none 0 (.func (.func 102) #[] #[]) W
 have HC := Lib.hid fun W => compact_short none (n := 0) (cap := 0) (by omega) W
 go_enter Tryz.func104, Tryz.ntmps104
 go_wp2_with fail
 refine (HS.out _).mono ?_
 rintro e w1 ⟨rfl, hw⟩
 have hw2 := hw.symm
 subst hw2
 clear hw
 go_wp2_with fail
 refine (HC.out _).mono ?_
 rintro e w2 ⟨rfl, hb⟩
 have HB := Lib.hid hb
 clear hb
 go_wp2_with fail
 go_ret
 exact ⟨rfl, HB.out⟩
theorem sorted_own {W : World} {base : Nat} {v : Value} {l : List Sol} (hO : OwnSo W base v l) (hb : base ≤ W.heap.size) (hl : l.length ≤ 1048576) :
  Calls Tryz.prog 104 #[v, .func (.func 102) #[] #[]] W fun e w' => ∃ u, e = .returned u ∧ SlS w' u (sortD l) ∧ Below base W w' := by
 rcases hO.2 with ⟨rfl, h0⟩ | ⟨g, cap, cur, rfl, hbg, hg, hnc, hcm, hcs, htake⟩
 ·have : l = [] := List.eq_nil_of_length_eq_zero h0
  subst this
  refine (sorted_nil W).mono ?_
  rintro e w' ⟨rfl, h⟩
  exact ⟨_, rfl, ⟨none, 0, rfl, by simp [sortD], by simp, .inl rfl⟩, h.mono hb⟩
 ·exact sorted_spec (T := 26) (cur := cur) ⟨hg, hcs, hnc, htake⟩ rfl hbg ⟨hl, by unfold maxLen at hcm; omega⟩
theorem sl_putObj {W : World} {v : Value} {l : List Sol} (h : SlS W v l) {D : Nat} {x : Option (List Deferred)} (hD : W.heap[D]? = some (.deferred x)) (o : Obj) : SlS (W.putObj D o) v l := by
 obtain ⟨a, c, hv, hc, hm, h | ⟨b, off, ha, hcs⟩⟩ := h
 ·exact ⟨a, c, hv, hc, hm, .inl h⟩
 ·cases l with
  | nil => exact ⟨a, c, hv, hc, hm, .inl rfl⟩
  | cons s l =>
   have hne : b ≠ D := fun e => by
    have h0 := hcs.2 0 0 (.int .u64 (pl s 0)) (by simp)
    rw [e] at h0
    simp [World.cell?, hD] at h0
   refine ⟨a, c, hv, hc, hm, .inr ⟨b, off, ha, by have := hcs.1; simpa [World.putObj] using this, fun i j u hu => (World.cell?_of_block (World.putObj_heap_other hne)).trans (hcs.2 i j u hu)⟩⟩
def PlI (w : World) (l : List Sol) (W : World) : Prop := Below w.heap.size w W ∧ ∃ v, Blk W (w.heap.size + 1 + 1) #[v] 41 ∧ OwnSo W (w.heap.size + 1 + 1 + 1 + 1 + 1 + 1 + 1) v l
theorem PlI.kept {w : World} {l : List Sol} {W W' : World} {r : Option Nat} (hI : PlI w l W) (hg : W.grownBy W' r) (hr : ∀ k, r = some k → w.heap.size + 1 + 1 + 1 ≤ k ∧ k < w.heap.size + 1 + 1 + 1 + 1 + 1 + 1 + 1) : PlI w l W' := by
 obtain ⟨h1, v, h5, h6⟩ := hI
 refine ⟨h1.grown hg h1.size (fun k e => by have := hr k e; omega), v, h5.gb hg ?_, ?_⟩
 ·intro e; have := hr _ e.symm; omega
 ·refine World.ownsRow.kept h6 hg ?_
  cases hv : v.ownBlock with
  | none => exact .inl rfl
  | some g =>
   refine .inr fun e => ?_
   have h1 := hr g e.symm
   have h2 := (World.ownsRow.lt h6 g hv).1
   omega
set_option maxHeartbeats 4000000 in
theorem places_zero (a b : Sol) (hb : b = 0) (w : World) : Calls Tryz.prog 61 #[solV a, solV b] w fun e w' => e = .returned (.tuple #[.slice none 0 0, .int .i64 1]) ∧ Below w.heap.size w w' := by
 have e0 : (b == 0#512) = true := by rw [beq_iff_eq]; exact hb
 clear hb
 go_enter Tryz.func61, Tryz.ntmps61
 go_wp2_with fail
 exact bodyPost_ret (v := .tuple #[.slice none 0 0, .int .i64 1]) (by simp [results, Tryz.results61, go_sem]) rfl ⟨rfl, (by repeat (first | with_reducible exact bel_refl _ | with_reducible assumption | with_reducible refine bel_drewN ?_ _ | with_reducible refine bel_drew ?_ | with_reducible refine bel_alloc ?_ _ | with_reducible refine bel_row ?_ ?_ _ | with_reducible refine bel_set ?_ ?_ _ | refine bel_trans ?_ (by with_reducible assumption) | (simp; done) | (simp; omega)))⟩
attribute [local irreducible] fitsL placesP
set_option maxHeartbeats 8000000 in
theorem places_main (a b : Sol) (hb : b ≠ 0) (w : World) (hT : Tab w) : Calls Tryz.prog 61 #[solV a, solV b] w fun e w' => ∃ u, e = .returned (.tuple #[u, .int .i64 0]) ∧ SlS w' u (placesP a b) ∧ Below w.heap.size w w' := by
 have e0 : (b == 0#512) = false := by rw [beq_eq_false_iff_ne]; exact hb
 have hflen := fits_len a hb
 obtain ⟨F, hF⟩ : ∃ F, F = fitsL a b := ⟨_, rfl⟩
 have hR : placesP a b = sortD (F.map fun y : Mt × Sol => y.2) := by rw [hF]; unfold placesP; rfl
 obtain ⟨R, hRR⟩ : ∃ R, R = placesP a b := ⟨_, rfl⟩
 rw [← hRR] at hR ⊢
 rw [← hF] at hflen
 have HF := Lib.hid (And.intro hF (And.intro hflen hR))
 have HT := Lib.hid hT
 have HBN := Lib.hid hb
 have htl := hT.lt
 have HTL := Lib.hid htl
 clear hb hT hF hflen hR hRR htl
 obtain ⟨i0, hi, hz0, hz1, hz2⟩ := info_parts infoSol
 have HI0 := Lib.hid (And.intro hi (And.intro hz0 (And.intro hz1 hz2))); clear hi hz0 hz1 hz2
 refine (callsIn_wide (n := 9)).1 ?_
 refine callsIn_of_wp_marks Tryz.func61 rfl trivial ?_ rfl
 simp only [Tryz.ntmps61, List.size_toArray, List.length_cons, List.length_nil, Nat.reduceAdd, Nat.reduceSub, Array.replicate_succ, Array.replicate_zero, List.push_toArray, List.append_toArray, List.nil_append, List.cons_append]
 refine wpIn_wide.2 ?_
 go_wp2_with fail
 refine (fits_spec a b _).mono ?_
 rintro e w3 ⟨rfl, hw3⟩
 simp only [World.size_alloc] at hw3 ⊢
 have b5 : Blk w3 (w.heap.size + 1 + 1 + 1) #[.int .u64 (pl a 0), .int .u64 (pl a 1), .int .u64 (pl a 2), .int .u64 (pl a 3), .int .u64 (pl a 4), .int .u64 (pl a 5), .int .u64 (pl a 6), .int .u64 (pl a 7)] 26 := by subst hw3; exact Blk.alloc (Blk.at _ _ (by simp)) _
 have b6 : Blk w3 (w.heap.size + 1 + 1 + 1 + 1) #[.int .u64 (pl b 0), .int .u64 (pl b 1), .int .u64 (pl b 2), .int .u64 (pl b 3), .int .u64 (pl b 4), .int .u64 (pl b 5), .int .u64 (pl b 6), .int .u64 (pl b 7)] 26 := by subst hw3; exact Blk.at _ _ (by simp)
 have hb3 : Below w.heap.size w w3 := by subst hw3; exact (by repeat (first | with_reducible exact bel_refl _ | with_reducible assumption | with_reducible refine bel_drewN ?_ _ | with_reducible refine bel_drew ?_ | with_reducible refine bel_alloc ?_ _ | with_reducible refine bel_row ?_ ?_ _ | with_reducible refine bel_set ?_ ?_ _ | refine bel_trans ?_ (by with_reducible assumption) | (simp; done) | (simp; omega)))
 have hsz3 : w3.heap.size = w.heap.size + 1 + 1 + 1 + 1 + 1 := by subst hw3; simp
 have hM : PlI w [] w3 := by
  refine ⟨hb3, .slice none 0 0, ?_, OwnSo.nil _ _⟩
  subst hw3; exact (by repeat (first | with_reducible assumption | (refine Blk.at _ _ ?_; (simp; done)) | with_reducible refine Blk.alloc ?_ _ | with_reducible refine Blk.drew ?_ | with_reducible refine Blk.rowS ?_ _ | with_reducible refine Blk.rowO ?_ _ (by simp)))
 have H3 := Lib.hid (And.intro (And.intro b5 b6) (And.intro hsz3 hM))
 have HT3 := Lib.hid (HT.out.grow hb3)
 clear hw3 b5 b6 hb3 hsz3 hM
 go_wp2_with fail
 refine (wpIn_wide (n := 9)).1 ?_
 refine wpIn_rangeFunc_T (α := Mt × Sol) rfl (by omega) (gf := 155) (lb := #[.pointer (some ⟨w.heap.size + 1 + 1 + 1, 0, none⟩), .pointer (some ⟨w.heap.size + 1 + 1 + 1 + 1, 0, none⟩)]) rfl trivial (enters_of Tryz.func155 (by kernel_rfl) rfl) (encs := fun y : Mt × Sol => #[motV (y.1.1 : Int) y.1.2, solV y.2]) (wr := fun k o => k = w.heap.size + 1 + 1 ∨ (w.heap.size + 1 + 1 + 1 + 1 + 1 + 1 + 1 ≤ k ∧ ∃ cs, o = .cells cs 26)) 0
  (fun W hbW hsW => fits_seqT (n := 9 - 1) (by omega) a b HBN.out (H3.out.1.1.grow hbW) (H3.out.1.2.grow hbW) (HT3.out.grow hbW) ⟨fun k c T hk hne hw => by
    have h3 := H3.out.2.1
    rcases hw with h | ⟨_, cs, h⟩
    ·omega
    ·injection h with _ h; exact hne h, fun o hw => by rcases hw with h | ⟨h, _⟩ <;> omega, fun o hw => by rcases hw with h | ⟨h, _⟩ <;> omega, fun o hw => by have := HTL.out; rcases hw with h | ⟨h, _⟩ <;> omega⟩) (fun r o h1 h2 hw => by have := H3.out.2.1; rcases hw with h | ⟨h, _⟩ <;> omega) (fun _ => rfl)
  (fun (pre : List (Mt × Sol)) W => PlI w (pre.map fun y : Mt × Sol => y.2) W) (fun _ (_ : List (Mt × Sol)) _ => False)
  (fun pre W W' r hi hg hr => hi.kept hg (fun k e => by have := hr k e; have := H3.out.2.1; omega)) (fun c pre W W' r hi hg hr => hi.elim) H3.out.2.2
  (fun z a' W => ∃ B8, w3.heap.size + 1 + 1 + 0 ≤ B8 ∧ Blk W B8 #[.int .u64 (pl z.2 0), .int .u64 (pl z.2 1), .int .u64 (pl z.2 2), .int .u64 (pl z.2 3), .int .u64 (pl z.2 4), .int .u64 (pl z.2 5), .int .u64 (pl z.2 6), .int .u64 (pl z.2 7)] 26 ∧ a' = { tmps := #[solV a, solV b, .pointer (some ⟨w.heap.size, 0, none⟩), .pointer (some ⟨w.heap.size + 1, 0, none⟩), .slice none 0 0, .int .i64 0, .pointer (some ⟨w.heap.size + 1 + 1, 0, none⟩), undef, .pointer (some ⟨B8, 0, none⟩), solV b, .agg #[.int .u64 0, .int .u64 0, .int .u64 0, .int .u64 0, .int .u64 0, .int .u64 0, .int .u64 0, .int .u64 0], .bool false, solV a, solV b, .func (.func 155) #[] #[.pointer (some ⟨w.heap.size + 1 + 1 + 1, 0, none⟩), .pointer (some ⟨w.heap.size + 1 + 1 + 1 + 1, 0, none⟩)], motV (z.1.1 : Int) z.1.2, solV z.2, undef, undef, undef, undef, undef, undef], defers := [] })
  (fun z a' _ X Y row hs hg hr => by obtain ⟨B8, e1, e2, e3⟩ := hs; exact ⟨B8, e1, e2.gb hg (fun e => by have := hr _ e.symm; omega), e3⟩)
  ?assign ?body ?done ?stop
 case assign =>
  rintro lp pre z W K hM hsz hK
  have HI := Lib.hid hM; clear hM
  have hK' := fun a' W' => hK a' W'
  clear hK
  gi_wp2_with fail
  exact hK' _ _ (KeepsT.alloc _ _ _) (HI.out.kept (World.grownBy_alloc _ _ none) (fun k e => by cases e)) ⟨W.heap.size, hsz, Blk.new _ _ _, rfl⟩
 case body =>
  rintro lp pre z a' W hsz hM ⟨B8, hB8, bB, rfl⟩ hlen
  have hM2 : PlI w (pre.map fun y : Mt × Sol => y.2) W := hM
  have hlp : (pre.map fun y : Mt × Sol => y.2).length ≤ 81000 := by
   rw [List.length_map]
   have h2 := HF.out.2.1
   rw [← HF.out.1] at hlen
   omega
  have hsn : ((pre ++ [z]).map fun y : Mt × Sol => y.2) = (pre.map fun y : Mt × Sol => y.2) ++ [z.2] := by rw [List.map_append]; rfl
  obtain ⟨p, hp⟩ : ∃ p, p = pre.map fun y : Mt × Sol => y.2 := ⟨_, rfl⟩
  rw [← hp] at hM2 hsn hlp
  have HN := Lib.hid hsn
  clear hM hp hsn hlen
  obtain ⟨⟨tt, d⟩, S⟩ := z
  simp only at bB
  obtain ⟨q1, v, q5, q6⟩ := hM2
  have c8 := bB.cell; have l8 := bB.lt
  have c2 := q5.cell; have l2 := q5.lt
  have hH3 := H3.out.2.1
  have HO := Lib.hid (And.intro q6 (And.intro q5 q1))
  clear q1 q5 q6 bB
  gi_wp2_with (first
   | (gi_at_builtin; refine wpListIn_append_own _ rfl _ _ 41 rfl (w.heap.size + 1 + 1 + 1 + 1 + 1 + 1 + 1) 26 i0 _ 8 64 Tryz.underlying41 HI0.out.1 HI0.out.2.1 HI0.out.2.2.1 HI0.out.2.2.2 rfl (by decide) _ _ _ rfl (World.ownsRow.alloc HO.out.1 _) ⟨W.heap.size, 0, none⟩ 1 1 (solL S) rfl rfl (blk_newsS (Blk.new W _ 26)) (fun y hy => by simp [solL] at hy; rcases hy with rfl | rfl | rfl | rfl | rfl | rfl | rfl | rfl <;> rfl) (by unfold maxLen; omega) (by omega) (by simp; omega) ?_; intro v' w7 hown' hgrow7 hnil7; clear hnil7; obtain ⟨pv, cv, hv, _, _⟩ := own_shape' hown'; subst hv; have B7 := (HO.out.2.1.alloc (.cells #[.int .u64 (pl S 0), .int .u64 (pl S 1), .int .u64 (pl S 2), .int .u64 (pl S 3), .int .u64 (pl S 4), .int .u64 (pl S 5), .int .u64 (pl S 6), .int .u64 (pl S 7)] 26)).gb hgrow7 (by intro e; have := World.ownsRow.lt HO.out.1 _ e.symm; omega); have r7 := B7.row; have l7 := B7.lt; have H7 := Lib.hid (And.intro B7 (And.intro hown' hgrow7)); rw [← B7.rw]; clear hown' hgrow7 B7))
  refine ⟨KeepsT.trans (.alloc _ _ _) (KeepsT.trans (.gb H7.out.2.2 (fun r o e ho => .inr ⟨(World.ownsRow.lt HO.out.1 r e).1, by
   obtain ⟨cur, hc⟩ := own_cells (World.ownsRow.alloc HO.out.1 (.cells #[.int .u64 (pl S 0), .int .u64 (pl S 1), .int .u64 (pl S 2), .int .u64 (pl S 3), .int .u64 (pl S 4), .int .u64 (pl S 5), .int .u64 (pl S 6), .int .u64 (pl S 7)] 26) : OwnSo _ _ _ _) e
   rw [hc] at ho
   exact ⟨cur, (Option.some.inj ho).symm⟩⟩)) (.gb (gb_row (gb_refl w7 (some (w.heap.size + 1 + 1))) _) (fun r o e _ => by cases e; exact .inl rfl))), ?_⟩
  show PlI w _ _
  rw [HN.out]
  refine ⟨bel_row ((bel_alloc HO.out.2.2 _).grown H7.out.2.2 (by simp; omega) (fun k e => by have := World.ownsRow.lt HO.out.1 k e; omega)) (by omega) _, _, H7.out.1.rowS _, ?_⟩
  refine World.ownsRow.kept (row := some (w.heap.size + 1 + 1)) ?_ (gb_row (gb_refl w7 _) _) ?_
  ·rw [List.length_append, List.map_append, List.flatten_append]
   simpa using H7.out.2.1
  ·refine .inr fun e => ?_
   have := World.ownsRow.lt H7.out.2.1 _ e
   omega
 case done =>
  rintro D xs W hD hS hM hK
  have hH3 := H3.out.2.1
  have hM2 : PlI w (xs.map fun y : Mt × Sol => y.2) W := hM
  clear hM
  have hS2 : xs = F := by rw [HF.out.1]; exact hS
  rw [hS2] at hM2
  obtain ⟨h1, v, h5, h6⟩ := hM2
  have lD := (Array.getElem?_eq_some_iff.1 hK).1
  have c5 := h5.cell; have l5 := h5.lt
  have HSo := Lib.hid (sorted_own (own_weak h6 (base' := D + 1) (by omega) : OwnSo W (D + 1) v _) (by omega) (by rw [List.length_map]; have := HF.out.2.1; omega))
  rw [← HF.out.2.2] at HSo
  have HZ := Lib.hid (And.intro h1 (And.intro hK hD))
  clear h1 h5 h6 hK hD hS hS2
  gi_wp2_with fail
  go_wp2_with fail
  refine HSo.out.mono ?_
  rintro e w8 ⟨u, rfl, hs, hb8⟩
  have hK8 := (hb8.block D (Nat.lt_succ_self D)).trans HZ.out.2.1
  have HY := Lib.hid (And.intro hs (And.intro hK8 (HZ.out.1.trans (hb8.mono (by have := HZ.out.2.2; omega)))))
  clear hs hb8 hK8
  go_wp2_with fail
  refine ⟨by simp, .inl ⟨_, _, rfl, run_takeDeferred HY.out.2.1, ?_⟩⟩
  have hgP := grownBy_putObj' w8 D (.deferred none)
  exact ⟨.tuple #[u, .int .i64 0], by simp [results, Tryz.results61, go_sem], u, rfl, sl_putObj HY.out.1 HY.out.2.1 _, HY.out.2.2.grown hgP HY.out.2.2.size (fun k e => by cases e; have := HZ.out.2.2; omega)⟩
 case stop =>
  rintro D c pre W hD hS hM hK
  exact hM.elim
end Go.Proofs.YtkfimbonmnoglaaGreatDoor
end
section
namespace Go.Proofs.YtkfimbonmnoglaaGreatDoor
open Go.RowKit Go.Rel Go.Draw Go.Solid
set_option maxRecDepth 100000
attribute [local go_sem] Oper.semAt_some
def plE (b : Sol) : Int := if b = 0 then 1 else 0
def plL (a b : Sol) : List Sol := if b = 0 then [] else placesP a b
theorem plL_len (a b : Sol) : (plL a b).length ≤ 100000 := by
 unfold plL
 by_cases hb : b = 0
 ·rw [if_pos hb]; simp
 ·rw [if_neg hb, places_eq hb]
  have h := (plr_start (a := a) (b := b))
  have key : ∀ (rest acc : List Sol), (rest.foldl putS acc).length ≤ acc.length + rest.length := by
   intro rest
   induction rest with
   | nil => intro acc; simp
   | cons q rest ih =>
    intro acc
    have h1 := ih (putS acc q)
    have h2 := put_len q acc
    rw [List.foldl_cons, List.length_cons]
    omega
  have h1 := key (rT a (imagesS b) 0) []
  rw [h.1] at h1
  have := rT_len a b
  simp only [List.length_nil] at h1
  omega
theorem places_n (a b : Sol) (w : World) (hT : Tab w) : Calls Tryz.prog 61 #[solV a, solV b] w fun e w' => ∃ u, e = .returned (.tuple #[u, .int .i64 (plE b)]) ∧ SlS w' u (plL a b) ∧ Below w.heap.size w w' := by
 unfold plE plL
 by_cases hb : b = 0
 ·rw [if_pos hb, if_pos hb]
  refine (places_zero a b hb w).mono ?_
  rintro e w' ⟨rfl, h⟩
  exact ⟨_, rfl, ⟨none, 0, rfl, by simp, by simp, .inl rfl⟩, h⟩
 ·rw [if_neg hb, if_neg hb]
  exact places_main a b hb w hT
def IsBo (e : Ending) : Prop := ∃ q : Bool, e = .returned (.bool q)
set_option maxHeartbeats 4000000 in
theorem heavy_spec (a b : Sol) (w : World) : Calls Tryz.prog 60 #[solV a, solV b] w fun e w' => IsBo e ∧ Below w.heap.size w w' := by
 have HB := Lib.hid fun W => refCount_spec b W
 have HA := Lib.hid fun W => refCount_spec a W
 obtain ⟨n, hn⟩ : ∃ n, n = countS b := ⟨_, rfl⟩
 obtain ⟨m, hm⟩ : ∃ n, n = countS a := ⟨_, rfl⟩
 rw [← hn] at HB
 rw [← hm] at HA
 clear hn hm
 go_enter Tryz.func60, Tryz.ntmps60
 go_wp2_with fail
 obtain ⟨W0, hW0⟩ : ∃ W0, W0 = (w.alloc (.cells #[.int .u64 (pl a 0), .int .u64 (pl a 1), .int .u64 (pl a 2), .int .u64 (pl a 3), .int .u64 (pl a 4), .int .u64 (pl a 5), .int .u64 (pl a 6), .int .u64 (pl a 7)] 26)).alloc (.cells #[.int .u64 (pl b 0), .int .u64 (pl b 1), .int .u64 (pl b 2), .int .u64 (pl b 3), .int .u64 (pl b 4), .int .u64 (pl b 5), .int .u64 (pl b 6), .int .u64 (pl b 7)] 26) := ⟨_, rfl⟩
 have H0 : Hid (Blk W0 w.heap.size #[.int .u64 (pl a 0), .int .u64 (pl a 1), .int .u64 (pl a 2), .int .u64 (pl a 3), .int .u64 (pl a 4), .int .u64 (pl a 5), .int .u64 (pl a 6), .int .u64 (pl a 7)] 26 ∧ Below w.heap.size w W0) := Lib.hid (by rw [hW0]; exact ⟨(by repeat (first | with_reducible assumption | (refine Blk.at _ _ ?_; (simp; done)) | with_reducible refine Blk.alloc ?_ _ | with_reducible refine Blk.drew ?_ | with_reducible refine Blk.rowS ?_ _ | with_reducible refine Blk.rowO ?_ _ (by simp))), (by repeat (first | with_reducible exact bel_refl _ | with_reducible assumption | with_reducible refine bel_drewN ?_ _ | with_reducible refine bel_drew ?_ | with_reducible refine bel_alloc ?_ _ | with_reducible refine bel_row ?_ ?_ _ | with_reducible refine bel_set ?_ ?_ _ | refine bel_trans ?_ (by with_reducible assumption) | (simp; done) | (simp; omega)))⟩)
 rw [← hW0]
 clear hW0
 refine (HB.out _).mono ?_
 rintro e w1 ⟨rfl, hb⟩
 have H1 := Lib.hid (And.intro (H0.out.1.grow hb) (bel_trans H0.out.2 hb))
 clear hb H0
 by_cases h1 : (60 : Int) < n
 ·go_wp2_with fail
  go_ret
  exact ⟨⟨_, rfl⟩, H1.out.2⟩
 ·by_cases h2 : (0 : Int) < n
  ·by_cases h3 : (n : Int) < 30
   ·have ca := H1.out.1.cell; have la := H1.out.1.lt
    go_wp2_with fail
    clear ca la
    refine (HA.out _).mono ?_
    rintro e w2 ⟨rfl, hb⟩
    have H2 := Lib.hid (bel_trans H1.out.2 hb)
    clear hb
    go_wp2_with fail
    go_ret
    exact ⟨⟨_, rfl⟩, H2.out⟩
   ·go_wp2_with fail
    go_ret
    exact ⟨⟨_, rfl⟩, H1.out.2⟩
  ·go_wp2_with fail
   go_ret
   exact ⟨⟨_, rfl⟩, H1.out.2⟩
attribute [local irreducible] plL plE placesP
end Go.Proofs.YtkfimbonmnoglaaGreatDoor
end
