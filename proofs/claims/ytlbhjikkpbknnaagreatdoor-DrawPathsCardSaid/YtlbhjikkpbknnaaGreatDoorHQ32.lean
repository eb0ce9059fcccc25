import Derived.Test.YtlbhjikkpbknnaaGreatDoorHQ27
/-
  Given contracts of functions of the program, and laws for them, one behind the other.
-/
set_option linter.unusedVariables false
set_option linter.unusedSimpArgs false
set_option linter.unusedSectionVars false
section
namespace Go.Proofs.YtlbhjikkpbknnaaGreatDoor
open Go.RowKit Go.Rel Go.Draw
set_option maxRecDepth 100000
/-! Quick -/
def qkB (m : List Sol) (p : Int) : Bool := decide (askE m [] [p] = 0) && !(pathsM m p.toNat).isEmpty
def QuickL (m : List Sol) (P : Nat) (l : List MvI) : Prop := ∃ (S : U) (rest : List U) (out : List Mv) (x : Mv), pathsM m P = S :: rest ∧ l = (out ++ [x]).map intMv ∧ madeM m l = some S ∧ l.length = (listU S).length ∧ x.1 = P
set_option maxHeartbeats 8000000 in
theorem Quick_n {w : World} {v : Value} {m : List Sol} {p : Int} (H : SlS w v m) (hT : Tab w) : Calls Tryz.prog 24 #[v, .int .i64 p] w fun e w' => ∃ u l, e = .returned (.tuple #[u, .bool (qkB m p), .int .i64 (askE m [] [p])]) ∧ SlX w' u l ∧ (qkB m p = false → l = []) ∧ (qkB m p = true → QuickL m p.toNat l) ∧ Below w.heap.size w w' := by
 obtain ⟨i0, hi, hz0, hz1, hz2⟩ := info_parts infoMove
 have HI0 := Lib.hid (And.intro hi (And.intro hz0 (And.intro hz1 hz2))); clear hi hz0 hz1 hz2
 have HA := Lib.hid (asked_spec (gone := []) (of := [p]) (H.mono (bel_alloc (bel_refl w) (.cells #[.int .i64 p] 3))) sl_nil (sl_news (Blk.new w #[.int .i64 p] 3)))
 have HT := Lib.hid hT
 obtain ⟨QB, hQB⟩ : ∃ b, b = qkB m p := ⟨_, rfl⟩
 rw [← hQB]
 have HQB := Lib.hid hQB
 clear H hT hQB
 go_enter Tryz.func24, Tryz.ntmps24
 go_wp2_with fail
 refine HA.out.mono ?_
 rintro e w1 ⟨hb1, a, G, rfl, hx, hn⟩
 have hb : Below w.heap.size w w1 := bel_trans (bel_alloc (bel_refl w) (.cells #[.int .i64 p] 3)) hb1
 by_cases h0 : askE m [] [p] = 0
 ·obtain ⟨hl, hE, hs, ha, g, mb, rfl, hg, hmb, hM⟩ := hx h0
  obtain ⟨q, rfl, hq⟩ := askE_p ha
  have HB := Lib.hid (And.intro hb (And.intro (show w.heap.size ≤ mb by simp at hmb; omega) (And.intro h0 (And.intro hM hl))))
  have HP := Lib.hid (paths_spec hM hl (HT.out.grow hb) (p := q) (by omega))
  have HQK := Lib.hid (show QB = !(pathsM m q).isEmpty by rw [HQB.out]; unfold qkB; rw [decide_eq_true h0]; rfl)
  rw [h0]
  clear hb hb1 hx hn h0 hM hs ha hE hg hmb
  go_wp2_with fail
  refine HP.out.mono ?_
  rintro e w5 ⟨u, rfl, hO, hW5, hg5⟩
  obtain ⟨L, hL⟩ : ∃ L, L = pathsM m q := ⟨_, rfl⟩
  rw [← hL] at hO HQK
  have hM5 := HB.out.2.2.2.1.grown hg5 hW5
  have hT5 := (HT.out.grow HB.out.1).gbm HB.out.2.2.2.1.ways hg5
  have hb5 : Below w.heap.size w w5 := gb_base HB.out.1 hg5 HB.out.2.1
  obtain ⟨pv, cv, rfl, _⟩ := own_shape' hO
  have H5 := Lib.hid (And.intro hO (And.intro hb5 (And.intro hL (And.intro hM5 hT5))))
  clear hO hb5 hL hM5 hT5 hg5 hW5 HP
  cases L with
  | nil =>
   go_wp2_with fail
   refine bodyPost_ret (v := .tuple #[.slice none 0 0, .bool false, .int .i64 0]) (by simp [results, Tryz.results24, go_sem]) rfl ?_
   have hq1 : QB = false := HQK.out
   subst hq1
   exact ⟨.slice none 0 0, [], by rw [HB.out.2.2.1], sl_nil, (fun _ => rfl), (fun h => by cases h), H5.out.2.1⟩
  | cons S rest =>
   obtain ⟨ib, io, c, hv, hib, lib, hc⟩ := own_cellU H5.out.1 (k := 0) (x := S) rfl
   simp only [Value.slice.injEq] at hv
   obtain ⟨rfl, _, rfl⟩ := hv
   have hS : S ∈ pathsM m q := by rw [← H5.out.2.2.1]; exact List.mem_cons_self
   obtain ⟨out, x, ho1, ho2, ho3, ho4, ho5⟩ := quick_law HB.out.2.2.2.2 hq hS
   have hsub : Sub (S &&& ~~~(bit q)) (allU m.length) := (sub_andnot _ _).trans (paths_mem HB.out.2.2.2.2 hS).1
   have HQ := Lib.hid (And.intro ho1 (And.intro ho2 (And.intro ho3 (And.intro ho4 (And.intro ho5 hsub)))))
   have hol : out.length ≤ 1000 := by
    rw [List.length_append] at ho4
    have := cardU_le S
    unfold cardU at this
    simp at ho4; omega
   clear ho1 ho2 ho3 ho4 ho5 hsub hS
   have HC5 := Lib.hid fun W (h : Below w5.heap.size w5 W) => (show W.cell? ⟨ib, io, none⟩ = some (.int .u64 (uI S)) ∧ ib < W.heap.size from ⟨(h.cell (p := ⟨ib, io, none⟩) lib).trans hc, Nat.lt_of_lt_of_le lib h.size⟩)
   have es := pow_u q (by omega)
   have em : min q 64 = q := Nat.min_eq_left (by omega)
   have ea := bits_andNot_u S (bit q)
   clear hc lib hib
   go_wp2_with fail
   refine wp_region_val Grows (fun _ _ _ => True) [Is (.slice (some ⟨ib, io, none⟩) (rest.length + 1) cv), Is (.pointer (some ⟨ib, io, none⟩)), Is (.int .u64 (uI S)), Is (.int .i64 (q : Int)), Is (.int .u64 (uI (bit q))), Is (.int .u64 (uI (S &&& ~~~(bit q)))), Is (.int .u64 (uI (S &&& ~~~(bit q))))] (by kernel_rfl) (by kernel_rfl) rfl Grows.refl (fun _ _ _ => Grows.trans) (stable_mem ⟨fun _ _ _ h _ => h, fun _ _ _ h _ => h, fun _ _ _ h _ => h, fun _ _ _ h _ => h, fun _ _ _ h _ => h, fun _ _ _ h _ => h, fun _ _ _ h _ => h, trivial⟩) w5 (Below.drew (Below.refl _ _)) trivial ?_
   refine val_cons ?_ (fun v0 => ?_)
   ·intro L vs w1 hvs hat hb hI hF; try simp [factsI, Region.binds, Is] at hF
    have hc := (Grows.cells hb).1
    clear hI
    go_simp
    try simp [upd]
    try first | exact Grows.refl _ | exact trivial | exact ⟨Grows.refl _, trivial⟩
   refine val_cons ?_ (fun v1 => ?_)
   ·intro L vs w1 hvs hat hb hI hF; try simp [factsI, Region.binds, Is] at hF
    have hc := (Grows.cells hb).1
    clear hI
    go_simp
    try simp [upd]
    try first | exact Grows.refl _ | exact trivial | exact ⟨Grows.refl _, trivial⟩
   refine val_cons ?_ (fun v2 => ?_)
   ·intro L vs w1 hvs hat hb hI hF; try simp [factsI, Region.binds, Is] at hF
    obtain ⟨c0, l3⟩ := HC5.out w1 hb
    clear hI
    go_simp
    try simp [upd]
    try exact Grows.refl _
   refine val_cons ?_ (fun v3 => ?_)
   ·intro L vs w1 hvs hat hb hI hF; try simp [factsI, Region.binds, Is] at hF
    have hc := (Grows.cells hb).1
    clear hI
    go_simp
    try simp [upd]
    try first | exact Grows.refl _ | exact trivial | exact ⟨Grows.refl _, trivial⟩
   refine val_cons ?_ (fun v4 => ?_)
   ·intro L vs w1 hvs hat hb hI hF; try simp [factsI, Region.binds, Is] at hF
    have hc := (Grows.cells hb).1
    clear hI
    go_simp
    try simp [upd]
    try first | exact Grows.refl _ | exact trivial | exact ⟨Grows.refl _, trivial⟩
   refine val_cons ?_ (fun v5 => ?_)
   ·intro L vs w1 hvs hat hb hI hF; try simp [factsI, Region.binds, Is] at hF
    have hc := (Grows.cells hb).1
    clear hI
    go_simp
    try simp [upd]
    try first | exact Grows.refl _ | exact trivial | exact ⟨Grows.refl _, trivial⟩
   refine val_cons ?_ (fun v6 => ?_)
   ·intro L vs w1 hvs hat hb hI hF; try simp [factsI, Region.binds, Is] at hF
    have hc := (Grows.cells hb).1
    clear hI
    go_simp
    try simp [upd]
    try first | exact Grows.refl _ | exact trivial | exact ⟨Grows.refl _, trivial⟩
   refine val_nil ?_
   intro vs w1 hvs hb hI hF
   simp [Is, Nat.forall_lt_succ_right] at hF
   simp only [Act.put, List.setIfInBounds_toArray, List.set_cons_succ, List.set_cons_zero, hF]
   clear hF
   have hM6 := H5.out.2.2.2.1.grow hb
   have hT6 := H5.out.2.2.2.2.grow hb
   have HOR := Lib.hid (order_spec hM6 HB.out.2.2.2.2 hT6 (S &&& ~~~(bit q)) HQ.out.2.2.2.2.2)
   have H6 := Lib.hid (And.intro (bel_trans H5.out.2.1 hb) (And.intro hM6 hT6))
   clear hb hI hvs hM6 hT6
   go_wp2_with fail
   refine HOR.out.mono ?_
   rintro e w7 ⟨⟨ol, u, ho, rfl, hO⟩ | ⟨ho, rfl⟩, hW, hgr⟩
   ·have hol2 : ol = out := by rw [HQ.out.1] at ho; exact (Option.some.inj ho).symm
    subst hol2
    have hM7 := H6.out.2.1.grown hgr hW
    have HGO := Lib.hid (goes_spec hM7 HB.out.2.2.2.2 hq (S &&& ~~~(bit q)))
    rw [HQ.out.2.1] at HGO
    obtain ⟨pu, nu, cu, hu⟩ := own_shapeN hO
    subst hu
    have hmlt : mb < w1.heap.size := H6.out.2.1.ways.lt
    have H7 := Lib.hid (And.intro (gb_base H6.out.1 hgr HB.out.2.1) (And.intro hO (And.intro hmlt hgr.size)))
    obtain ⟨x0, x1, x2⟩ := x
    simp only [goesR, mvV] at HGO
    clear ho hO hW hgr hM7 hmlt
    go_wp2_with fail
    refine HGO.out.mono ?_
    rintro e w8 ⟨rfl, hW8, hg8⟩
    have hO8 : OwnM w8 w1.heap.size (.slice pu nu cu) ol := H7.out.2.1.kept hg8 (by
     cases hv : (Value.slice pu nu cu).ownBlock with
     | none => exact .inl rfl
     | some j => exact .inr (fun e => by
       have h1 := (H7.out.2.1.lt j hv).1
       have h2 : j = mb := by simpa using e
       have := H7.out.2.2.1; omega))
    have H8 := Lib.hid (And.intro (gb_base H7.out.1 hg8 HB.out.2.1) (And.intro hO8 (Nat.le_trans H7.out.2.2.2 hg8.size)))
    clear hW8 hg8 hO8 HGO HOR
    have hx8 := H8.out.2.1
    unfold OwnM at hx8
    obtain ⟨K, hK⟩ : ∃ K, K = ol.length := ⟨_, rfl⟩
    rw [← hK] at hx8 hol
    have HX := Lib.hid (And.intro hx8 hK)
    have h18 : w1.heap.size ≤ w8.heap.size := H8.out.2.2
    clear hx8 hK
    have hnew := blk_news (Blk.new (w8.alloc (.cells #[.int .i64 (x0 : Int), .int .i64 (x1 : Int), .int .i64 (x2 : Int)] 25)) #[.int .i64 (x0 : Int), .int .i64 (x1 : Int), .int .i64 (x2 : Int)] 25)
    rw [show (w8.alloc (.cells #[.int .i64 (x0 : Int), .int .i64 (x1 : Int), .int .i64 (x2 : Int)] 25)).heap.size = w8.heap.size + 1 by simp] at hnew
    have HNW := Lib.hid hnew
    clear hnew
    go_wp2_with (first
     | (at_builtin; refine wpList_append_own _ rfl _ _ 43 rfl w1.heap.size 25 i0 _ 3 24 Tryz.underlying43 HI0.out.1 HI0.out.2.1 HI0.out.2.2.1 HI0.out.2.2.2 rfl (by decide) _ _ _ rfl ((HX.out.1.alloc _).alloc _) ⟨w8.heap.size + 1, 0, none⟩ 1 1 (mvL (x0, x1, x2)) rfl rfl HNW.out (fun y hy => by simp [mvL] at hy; rcases hy with rfl | rfl | rfl <;> rfl) (by unfold maxLen; omega) (by omega) (by simp; omega) ?_; intro v9 w9 hown9 hgrow9 hnil9))
    have hb9 : Below w1.heap.size w8 w9 := ((bel_alloc (bel_alloc (bel_refl w8) _) _).mono h18).grown hgrow9 (by simp; omega) (fun j hj => (HX.out.1.lt j hj).1)
    have hO9 : OwnM w9 w1.heap.size v9 (ol ++ [(x0, x1, x2)]) := by
     unfold OwnM
     rw [List.length_append, ← HX.out.2, List.map_append, List.flatten_append]
     simpa using hown9
    have HE := Lib.hid (And.intro hb9 hO9)
    clear hb9 hO9 hown9 hgrow9 hnil9
    refine bodyPost_ret (v := .tuple #[v9, .bool true, .int .i64 0]) (by simp [results, Tryz.results24, go_sem]) rfl ?_
    have hq1 : QB = true := HQK.out
    subst hq1
    exact ⟨v9, (ol ++ [(x0, x1, x2)]).map intMv, by rw [HB.out.2.2.1], mvs_X (OwnM.sl HE.out.2), (fun h => by cases h), (fun _ => ⟨S, rest, ol, (x0, x1, x2), H5.out.2.2.1.symm, rfl, HQ.out.2.2.1, by rw [List.length_map]; exact HQ.out.2.2.2.1, HQ.out.2.2.2.2.1⟩), H8.out.1.trans (HE.out.1.mono H6.out.1.size)⟩
   ·rw [HQ.out.1] at ho; cases ho
 ·have e0 : (askE m [] [p] != 0) = true := by simpa using h0
  have HB := Lib.hid (And.intro hb h0)
  have hqk : QB = false := by rw [HQB.out]; unfold qkB; rw [decide_eq_false h0]; rfl
  have HQF := Lib.hid hqk
  clear hb hb1 hx hn h0 hqk
  go_wp2_with fail
  refine bodyPost_ret (v := .tuple #[.slice none 0 0, .bool false, .int .i64 (askE m [] [p])]) (by simp [results, Tryz.results24, go_sem, HQF.out]) rfl ?_
  have hq1 := HQF.out
  subst hq1
  exact ⟨.slice none 0 0, [], rfl, sl_nil, (fun _ => rfl), (fun h => by cases h), HB.out.1⟩
end Go.Proofs.YtlbhjikkpbknnaaGreatDoor
end
