import Derived.Test.YtkfimbonmnoglaaGreatDoorRSets29
import Derived.Deep.Cut
/-
  Given contracts of functions of the program, and laws for them, one behind the other.
-/
set_option linter.unusedVariables false
set_option linter.unusedSimpArgs false
set_option linter.unusedSectionVars false
section
namespace Go.Proofs.YtkfimbonmnoglaaGreatDoor
open Go.RowKit Go.Rel Go.Draw Go.Solid
set_option maxRecDepth 100000
attribute [local go_sem] Oper.semAt_some
def ApI (w : World) (l : List Cl) (W : World) : Prop := Below w.heap.size w W ∧ ∃ v, Blk W (w.heap.size) #[v] 71 ∧ OwnCl W (w.heap.size + 1 + 1 + 1) v l
theorem ApI.kept {w : World} {l : List Cl} {W W' : World} {r : Option Nat} (hI : ApI w l W) (hg : W.grownBy W' r) (hr : ∀ k, r = some k → w.heap.size + 1 ≤ k ∧ k < w.heap.size + 1 + 1 + 1) : ApI w l W' := by
 obtain ⟨h1, v, h5, h6⟩ := hI
 refine ⟨h1.grown hg h1.size (fun k e => by have := hr k e; omega), v, h5.gb hg ?_, ?_⟩
 ·intro e; have := hr _ e.symm; omega
 ·refine World.ownsRow.kept h6 hg ?_
  cases hv : v.ownBlock with
  | none => exact .inl rfl
  | some g =>
   refine .inr fun e => ?_
   have h1 := hr g e.symm
   have h2 := (World.ownsRow.lt h6 g hv).1
   omega
theorem cellsLen (s : Sol) : (cellsS s).length ≤ 512 := cellsS_len s
set_option maxHeartbeats 8000000 in
theorem appendSeq_spec {w : World} (s : Sol) {bs : Nat} (hbs : Blk w bs #[.int .u64 (pl s 0), .int .u64 (pl s 1), .int .u64 (pl s 2), .int .u64 (pl s 3), .int .u64 (pl s 4), .int .u64 (pl s 5), .int .u64 (pl s 6), .int .u64 (pl s 7)] 26) (hT : Tab w) :
  Calls Tryz.prog 158 #[.slice none 0 0, .func (.func 147) #[] #[.pointer (some ⟨bs, 0, none⟩)]] w fun e w' => (∃ u, e = .returned u ∧ OwnCl w' w.heap.size u (cellsS s)) ∧ Below w.heap.size w w' := by
 obtain ⟨i0, hi, hz0, hz1, hz2⟩ := info_parts infoCell
 have HI0 := Lib.hid (And.intro hi (And.intro hz0 (And.intro hz1 hz2))); clear hi hz0 hz1 hz2
 have HS := Lib.hid (And.intro hbs (And.intro hT hT.lt))
 have hbl := hbs.lt
 clear hbs hT
 refine (callsIn_wide (n := 9)).1 ?_
 refine callsIn_of_wp_marks Tryz.func158 rfl trivial ?_ rfl
 simp only [Tryz.ntmps158, List.size_toArray, List.length_cons, List.length_nil, Nat.reduceAdd, Nat.reduceSub, Array.replicate_succ, Array.replicate_zero, List.push_toArray, List.append_toArray, List.nil_append, List.cons_append]
 refine wpIn_wide.2 ?_
 go_wp2_with fail
 obtain ⟨w3, hw3⟩ : ∃ x, x = w.alloc (.cells #[.slice none 0 0] 71) := ⟨_, rfl⟩
 have b5 : Blk w3 bs #[.int .u64 (pl s 0), .int .u64 (pl s 1), .int .u64 (pl s 2), .int .u64 (pl s 3), .int .u64 (pl s 4), .int .u64 (pl s 5), .int .u64 (pl s 6), .int .u64 (pl s 7)] 26 := by rw [hw3]; exact HS.out.1.alloc _
 have hb3 : Below w.heap.size w w3 := by rw [hw3]; exact (by repeat (first | with_reducible exact bel_refl _ | with_reducible assumption | with_reducible refine bel_drewN ?_ _ | with_reducible refine bel_drew ?_ | with_reducible refine bel_alloc ?_ _ | with_reducible refine bel_row ?_ ?_ _ | with_reducible refine bel_set ?_ ?_ _ | refine bel_trans ?_ (by with_reducible assumption) | (simp; done) | (simp; omega)))
 have hsz3 : w3.heap.size = w.heap.size + 1 := by rw [hw3]; simp
 have hM : ApI w [] w3 := ⟨hb3, .slice none 0 0, by rw [hw3]; exact Blk.new _ _ _, World.ownsRow_nil _ _ _ _⟩
 rw [← hw3]
 have H3 := Lib.hid (And.intro b5 (And.intro hsz3 hM))
 have HT3 := Lib.hid (HS.out.2.1.grow hb3)
 clear hw3 b5 hb3 hsz3 hM
 have hTl := HS.out.2.2
 refine (wpIn_wide (n := 9)).1 ?_
 refine wpIn_rangeFunc_C (α := GCl) rfl (by omega) (gf := 147) (lb := #[.pointer (some ⟨bs, 0, none⟩)]) rfl trivial (enters_of Tryz.func147 (by kernel_rfl) rfl) (encs := fun y : GCl => #[clV y.1]) (wr := fun k => k = w.heap.size ∨ w.heap.size + 1 + 1 + 1 ≤ k) 0
  (fun W hbW _ => cells_seq (n := 9 - 1) (by omega) s (H3.out.1.grow hbW) (HT3.out.grow hbW) (by omega)) (fun r h1 h2 => by have := H3.out.2.1; omega) (fun _ => rfl)
  (fun (pre : List GCl) W => ApI w (pre.map fun y : GCl => y.1) W) (fun _ (_ : List GCl) _ => False)
  (fun pre W W' r hi hg hr => hi.kept hg (fun k e => by have := hr k e; have := H3.out.2.1; omega)) (fun c pre W W' r hi hg hr => hi.elim) H3.out.2.2
  (fun z a' W => ∃ B8, w3.heap.size + 1 + 1 + 0 ≤ B8 ∧ Blk W B8 #[.int .i64 z.1.1, .int .i64 z.1.2.1, .int .i64 z.1.2.2] 60 ∧ a' = { tmps := #[.slice none 0 0, .func (.func 147) #[] #[.pointer (some ⟨bs, 0, none⟩)], .pointer (some ⟨w.heap.size, 0, none⟩), undef, .slice none 0 0, .pointer (some ⟨B8, 0, none⟩), .func (.func 147) #[] #[.pointer (some ⟨bs, 0, none⟩)], clV z.1, undef, undef, undef, undef, undef], defers := [] })
  (fun z a' _ X Y row hs hg hr => by obtain ⟨B8, e1, e2, e3⟩ := hs; exact ⟨B8, e1, e2.gb hg (fun e => by have := hr _ e.symm; omega), e3⟩)
  ?assign ?body ?done ?stop
 case assign =>
  rintro lp pre z W K hM hsz hK
  have HI := Lib.hid hM; clear hM
  have hK' := fun a' W' => hK a' W'
  clear hK
  gi_wp2_with fail
  exact hK' _ _ (KeepsBut.alloc _ _ _) (HI.out.kept (World.grownBy_alloc _ _ none) (fun k e => by cases e)) ⟨W.heap.size, hsz, Blk.new _ _ _, rfl⟩
 case body =>
  rintro lp pre z a' W hsz hM ⟨B8, hB8, bB, rfl⟩ hlen
  have hM2 : ApI w (pre.map fun y : GCl => y.1) W := hM
  have hlp : (pre.map fun y : GCl => y.1).length ≤ 512 := by
   rw [List.length_map]
   have h2 := cellsLen s
   omega
  have hsn : ((pre ++ [z]).map fun y : GCl => y.1) = (pre.map fun y : GCl => y.1) ++ [z.1] := by rw [List.map_append]; rfl
  obtain ⟨p, hp⟩ : ∃ p, p = pre.map fun y : GCl => y.1 := ⟨_, rfl⟩
  rw [← hp] at hM2 hsn hlp
  have HN := Lib.hid hsn
  clear hM hp hsn hlen
  obtain ⟨c, hc⟩ := z
  obtain ⟨x, y, z⟩ := c
  simp only at bB
  obtain ⟨q1, v, q5, q6⟩ := hM2
  have c8 := bB.cell; have l8 := bB.lt
  have c2 := q5.cell; have l2 := q5.lt
  have hH3 := H3.out.2.1
  have HO := Lib.hid (And.intro q6 (And.intro q5 q1))
  clear q1 q5 q6 bB
  gi_wp2_with (first
   | (gi_at_builtin; refine wpListIn_append_own _ rfl _ _ 71 rfl (w.heap.size + 1 + 1 + 1) 60 i0 _ 3 24 Tryz.underlying71 HI0.out.1 HI0.out.2.1 HI0.out.2.2.1 HI0.out.2.2.2 rfl (by decide) _ _ _ rfl (HO.out.1.alloc _) ⟨W.heap.size, 0, none⟩ 1 1 (clL (x, y, z)) rfl rfl (blk_newsS (Blk.new W _ 60)) (fun y hy => by simp [clL] at hy; rcases hy with rfl | rfl | rfl <;> rfl) (by unfold maxLen; omega) (by omega) (by simp; omega) ?_; intro v' w7 hown' hgrow7 hnil7; clear hnil7; obtain ⟨pv, cv, hv, _, _⟩ := own_shape' hown'; subst hv; have B7 := (HO.out.2.1.alloc (.cells #[.int .i64 x, .int .i64 y, .int .i64 z] 60)).gb hgrow7 (by intro e; have := World.ownsRow.lt HO.out.1 _ e.symm; omega); have r7 := B7.row; have l7 := B7.lt; have H7 := Lib.hid (And.intro B7 (And.intro hown' hgrow7)); rw [← B7.rw]; clear hown' hgrow7 B7))
  refine ⟨KeepsBut.trans (.alloc _ _ _) (KeepsBut.trans (.gb H7.out.2.2 (fun r e => .inr (World.ownsRow.lt HO.out.1 r e).1)) (.gb (gb_row (gb_refl w7 (some (w.heap.size))) _) (fun r e => by cases e; exact .inl rfl))), ?_⟩
  show ApI w _ _
  rw [HN.out]
  refine ⟨bel_row ((bel_alloc HO.out.2.2 _).grown H7.out.2.2 (by simp; omega) (fun k e => by have := World.ownsRow.lt HO.out.1 k e; omega)) (by omega) _, _, H7.out.1.rowS _, ?_⟩
  refine World.ownsRow.kept (row := some (w.heap.size)) ?_ (gb_row (gb_refl w7 _) _) ?_
  ·rw [List.length_append, List.map_append, List.flatten_append]
   simpa using H7.out.2.1
  ·refine .inr fun e => ?_
   have := World.ownsRow.lt H7.out.2.1 _ e
   omega
 case done =>
  rintro D xs W hD hS hM hK
  have hH3 := H3.out.2.1
  have hM2 : ApI w (xs.map fun y : GCl => y.1) W := hM
  clear hM
  have hS2 : (xs.map fun y : GCl => y.1) = cellsS s := hS
  rw [hS2] at hM2
  obtain ⟨h1, v, h5, h6⟩ := hM2
  have lD := (Array.getElem?_eq_some_iff.1 hK).1
  have c5 := h5.cell; have l5 := h5.lt
  obtain ⟨pv, cv, hv, _, _⟩ := own_shape' h6
  subst hv
  have HZ := Lib.hid (And.intro h1 (And.intro h5 (And.intro h6 (And.intro hK hD))))
  clear h1 h5 h6 hK hD hS hS2
  gi_wp2_with fail
  go_wp2_with fail
  refine ⟨by simp, .inl ⟨_, _, rfl, run_takeDeferred HZ.out.2.2.2.1, ?_⟩⟩
  have hgP := grownBy_putObj' W D (.deferred none)
  refine ⟨_, by simp [results, Tryz.results158, go_sem], ⟨_, rfl, World.ownsRow.kept (own_weak HZ.out.2.2.1 (by omega)) hgP ?_⟩, HZ.out.1.grown hgP HZ.out.1.size (fun k e => by cases e; have := HZ.out.2.2.2.2; omega)⟩
  refine .inr fun e => ?_
  have := World.ownsRow.lt HZ.out.2.2.1 _ e
  have := HZ.out.2.2.2.2
  omega
 case stop =>
  rintro D c pre W hD hS hM hK
  exact hM.elim
set_option maxHeartbeats 4000000 in
theorem collect_spec {w : World} (s : Sol) {bs : Nat} (hbs : Blk w bs #[.int .u64 (pl s 0), .int .u64 (pl s 1), .int .u64 (pl s 2), .int .u64 (pl s 3), .int .u64 (pl s 4), .int .u64 (pl s 5), .int .u64 (pl s 6), .int .u64 (pl s 7)] 26) (hT : Tab w) :
  Calls Tryz.prog 133 #[.func (.func 147) #[] #[.pointer (some ⟨bs, 0, none⟩)]] w fun e w' => (∃ u, e = .returned u ∧ OwnCl w' w.heap.size u (cellsS s)) ∧ Below w.heap.size w w' := by
 have HA := Lib.hid (appendSeq_spec s hbs hT)
 clear hbs hT
 go_enter Tryz.func133, Tryz.ntmps133
 go_wp2_with fail
 refine HA.out.mono ?_
 rintro e w1 ⟨⟨u, rfl, hO⟩, hB⟩
 have HO := Lib.hid (And.intro hO hB); clear hO hB
 go_wp2_with fail
 go_ret
 exact ⟨⟨_, rfl, HO.out.1⟩, HO.out.2⟩
set_option maxHeartbeats 4000000 in
theorem cellsList_spec {w : World} (s : Sol) (hT : Tab w) :
  Calls Tryz.prog 82 #[solV s] w fun e w' => (∃ a c, e = .returned (.slice a (cellsS s).length c) ∧ ClO w.heap.size w' a (cellsS s)) ∧ Below w.heap.size w w' := by
 have HT := Lib.hid hT
 clear hT
 go_enter Tryz.func82, Tryz.ntmps82
 go_wp2_with fail
 refine (cells_spec _ s).mono ?_
 rintro e w3 ⟨rfl, hw3⟩
 obtain ⟨b, hb⟩ : ∃ b, b = (w.alloc (.cells #[.int .u64 (pl s 0), .int .u64 (pl s 1), .int .u64 (pl s 2), .int .u64 (pl s 3), .int .u64 (pl s 4), .int .u64 (pl s 5), .int .u64 (pl s 6), .int .u64 (pl s 7)] 26)).heap.size := ⟨_, rfl⟩
 rw [← hb]
 have hX : Blk w3 b #[.int .u64 (pl s 0), .int .u64 (pl s 1), .int .u64 (pl s 2), .int .u64 (pl s 3), .int .u64 (pl s 4), .int .u64 (pl s 5), .int .u64 (pl s 6), .int .u64 (pl s 7)] 26 ∧ Below w.heap.size w w3 := by
  rw [hw3, hb]
  exact ⟨Blk.new _ _ _, (by repeat (first | with_reducible exact bel_refl _ | with_reducible assumption | with_reducible refine bel_drewN ?_ _ | with_reducible refine bel_drew ?_ | with_reducible refine bel_alloc ?_ _ | with_reducible refine bel_row ?_ ?_ _ | with_reducible refine bel_set ?_ ?_ _ | refine bel_trans ?_ (by with_reducible assumption) | (simp; done) | (simp; omega)))⟩
 have HX := Lib.hid hX
 have HA := Lib.hid (collect_spec s hX.1 (HT.out.grow hX.2))
 clear hX hw3 hb
 go_wp2_with fail
 refine HA.out.mono ?_
 rintro e w1 ⟨⟨u, rfl, hO⟩, hB⟩
 obtain ⟨a, c, rfl, hC⟩ := OwnCl.opened (own_weak hO HX.out.2.size : OwnCl w1 w.heap.size u (cellsS s))
 have HO := Lib.hid (And.intro hC (bel_trans HX.out.2 hB)); clear hO hB hC
 go_wp2_with fail
 go_ret
 exact ⟨⟨_, _, rfl, HO.out.1⟩, HO.out.2⟩
end Go.Proofs.YtkfimbonmnoglaaGreatDoor
end
