import Derived.Test.YtlbhjikkpbknnaaGreatDoorHQ15
/-
  Given contracts of functions of the program, and laws for them, one behind the other.
-/
set_option linter.unusedVariables false
set_option linter.unusedSimpArgs false
set_option linter.unusedSectionVars false
section
namespace Go.Proofs.YtlbhjikkpbknnaaGreatDoor
open Go.RowKit Go.Rel Go.Draw
set_option maxRecDepth 100000
/-! the greedy sequence -/
def lenV : Value → Nat
 | .slice _ n _ => n
 | _ => 0
def I6 (B : Nat) (a9 a10 : Bool) (y x0 x1 x2 : Value) (W : World) : Prop := B ≤ W.heap.size ∧ (a9 = true → ∃ b, y = .pointer (some ⟨b, 0, none⟩) ∧ B ≤ b ∧ (a10 = true → Blk W b #[x0, x1, x2] 25) ∧ (a10 = false → ∃ z0 z1 z2, Blk W b #[z0, z1, z2] 25))
theorem I6.bel {B : Nat} {a c : Bool} {y x0 x1 x2 : Value} {W W' : World} (h : I6 B a c y x0 x1 x2 W) (hb : Below W.heap.size W W') : I6 B a c y x0 x1 x2 W' := ⟨Nat.le_trans h.1 hb.size, fun e => by
 obtain ⟨b, h1, h2, h3, h4⟩ := h.2 e
 exact ⟨b, h1, h2, fun k => (h3 k).grow hb, fun k => by obtain ⟨z0, z1, z2, hz⟩ := h4 k; exact ⟨z0, z1, z2, hz.grow hb⟩⟩⟩
theorem nodup_le {g : List Nat} (h : g.Nodup) (hb : ∀ i ∈ g, i < 12) : g.length ≤ 12 := by
 have h64 : ∀ i ∈ g, i < 64 := fun i hi => by have := hb i hi; omega
 rw [setF_len h h64, ← card_all 12 (by omega)]
 apply sub_card
 intro i hi
 rw [setF_bit g h64] at hi
 rw [allU_bit _ _ (by omega), decide_eq_true (hb i (List.contains_iff_mem.1 hi))]
set_option maxHeartbeats 8000000 in
theorem greedy_spec {w : World} {mv nv ov : Value} {m : List Sol} {of : List Nat} (HW : WaysR w mv nv m) (HO : SlI w ov (intsL of)) (hof : ∀ p ∈ of, p < m.length) (hm : m.length ≤ 12) (hlen : of.length ≤ 1000) : Calls Tryz.prog 82 #[.agg #[mv, nv], ov] w fun e w' => Below w.heap.size w w' ∧ ∃ a b, e = .returned (.tuple #[a, b]) ∧ OwnI w' w.heap.size a (intsL (greedyF m of 12 [] []).1) ∧ OwnM w' w.heap.size b (greedyF m of 12 [] []).2 := by
 obtain ⟨i0, hi, hz0, hz1, hz2⟩ := info_parts infoInt
 have HI0 := Lib.hid (And.intro hi (And.intro hz0 (And.intro hz1 hz2))); clear hi hz0 hz1 hz2
 obtain ⟨i1, hi, hz0, hz1, hz2⟩ := info_parts infoMove
 have HI1 := Lib.hid (And.intro hi (And.intro hz0 (And.intro hz1 hz2))); clear hi hz0 hz1 hz2
 obtain ⟨us, vs', hs1, hs2⟩ : ∃ us vs : List Value, Sl w 1 mv (us.map fun x => [x]) ∧ Sl w 1 nv (vs.map fun x => [x]) := by
  obtain ⟨⟨us, h1, _, _⟩, vs, k1, _, _⟩ := HW
  exact ⟨us, vs, h1, k1⟩
 obtain ⟨bm, cm, hmv, -, -⟩ := vals_open hs1
 obtain ⟨bn, cn, hnv, -, -⟩ := vals_open hs2
 obtain ⟨nm, hnm⟩ : ∃ n, n = us.length := ⟨_, rfl⟩
 obtain ⟨nn, hnn⟩ : ∃ n, n = vs'.length := ⟨_, rfl⟩
 rw [← hnm] at hmv
 rw [← hnn] at hnv
 subst hmv hnv
 have HR := Lib.hid fun W (h : Below w.heap.size w W) gv g (hg : SlI W gv (intsL g)) => readyR_spec (HW.mono h) (HO.mono h) hg hof hlen
 have HF := Lib.hid fun W (h : Below w.heap.size w W) gv g (hg : SlI W gv (intsL g)) p (hp : p < m.length) => firstR_spec (HW.mono h) hg hp
 have HH := Lib.hid (And.intro hof hm)
 obtain ⟨A, hA⟩ : ∃ A, A = greedyF m of 12 [] [] := ⟨_, rfl⟩
 rw [← hA]
 have HA := Lib.hid hA
 clear HW HO hs1 hs2 hnm hnn hof hm hA us vs'
 go_enter Tryz.func82, Tryz.ntmps82
 go_wp2_with fail
 obtain ⟨wb, hwb⟩ : ∃ wb, wb = w.alloc (.cells #[.slice bm nm cm, .slice bn nn cn] 111) := ⟨_, rfl⟩
 have hb : Below w.heap.size w wb := by subst hwb; exact (by repeat (first | with_reducible exact bel_refl _ | with_reducible assumption | with_reducible refine bel_drewN ?_ _ | with_reducible refine bel_drew ?_ | with_reducible refine bel_alloc ?_ _ | with_reducible refine bel_row ?_ ?_ _ | with_reducible refine bel_set ?_ ?_ _ | refine bel_trans ?_ (by with_reducible assumption) | (simp; done) | (simp; omega)))
 have B3 : Blk wb w.heap.size #[.slice bm nm cm, .slice bn nn cn] 111 := by subst hwb; exact Blk.new _ _ _
 rw [← hwb]
 clear hwb
 have HB := Lib.hid (And.intro hb B3)
 obtain ⟨N0, hN0⟩ : ∃ N0, N0 = w.heap.size := ⟨_, rfl⟩
 rw [← hN0] at ⊢
 have HN0 := Lib.hid hN0
 clear B3 hb hN0
 go_loopw [6, 7] (fun gv mv wx => ∃ (n : Nat) (g : List Nat) (ml : List Mv), lenV gv = g.length ∧ Hid (A = greedyF m of n g ml ∧ g.length + n = 12 ∧ ml.length = g.length ∧ g.Nodup ∧ (∀ i ∈ g, i ∈ of) ∧ OwnI wx wb.heap.size gv (intsL g) ∧ OwnM wx wb.heap.size mv ml ∧ Below wb.heap.size wb wx)) (fun gv _ _ => 12 - lenV gv)
 case atStart => exact ⟨12, [], [], rfl, Lib.hid ⟨HA.out, rfl, rfl, List.nodup_nil, (fun i hi => by cases hi), World.ownsRow_nil _ _ _ _, World.ownsRow_nil _ _ _ _, Below.refl _ _⟩⟩
 case round =>
  obtain ⟨n, g, ml, hlv, HI⟩ := hrel
  have hgs : SlI wr u6 (intsL g) := HI.out.2.2.2.2.2.1.sl
  obtain ⟨p6, n6, c6, hu6⟩ := own_shapeN HI.out.2.2.2.2.2.1
  obtain ⟨p7, n7, c7, hu7⟩ := own_shapeN HI.out.2.2.2.2.2.2.1
  subst hu6 hu7
  have hn6 : n6 = g.length := hlv
  clear hlv
  have b3 : Blk wr N0 _ _ := HN0.out ▸ HB.out.2.grow HI.out.2.2.2.2.2.2.2
  have c0 := b3.cell 0; have c1 := b3.cell 1; have l3 := b3.lt
  simp only [List.getElem?_toArray, List.getElem?_cons_zero, List.getElem?_cons_succ] at c0 c1
  have HRC := Lib.hid (HR.out wr (bel_trans HB.out.1 HI.out.2.2.2.2.2.2.2) _ g hgs)
  have HN6 := Lib.hid hn6
  clear b3 hgs hn6
  go_wp2_with fail
  refine HRC.out.mono ?_
  rintro e w2 ⟨hb2, o, rfl, ho⟩
  obtain ⟨p8, n8, c8, hu8⟩ := own_shapeN ho
  subst hu8
  have hbw2 : Below wb.heap.size wb w2 := bel_trans HI.out.2.2.2.2.2.2.2 hb2
  have hl8 : n8 = (readyR m of g).length := by
   have h := ho.sl.out
   obtain ⟨a, n, c, he, hn, _, _⟩ := h
   simp only [Value.slice.injEq] at he
   rw [he.2.1, hn]; simp [intsL]
  have H2 := Lib.hid (And.intro hbw2 (And.intro ho.sl (And.intro (own_bel HI.out.2.2.2.2.2.1 hb2) (own_bel HI.out.2.2.2.2.2.2.1 hb2))))
  clear hb2 ho hbw2 HRC c0 c1 l3
  cases hrd : readyR m of g with
  | nil =>
   have h0 : n8 = 0 := by rw [hl8, hrd]; rfl
   subst h0
   have HE := Lib.hid (show A = (g, ml) by
    rw [HI.out.1]
    cases n with
    | zero => rfl
    | succ n => rw [greedyF, hrd])
   clear hl8 hrd
   go_wp2_with fail
   go_ret2
   rw [HE.out]
   exact ⟨bel_trans HB.out.1 H2.out.1, _, _, rfl, own_weak H2.out.2.2.1 HB.out.1.size, own_weak H2.out.2.2.2 HB.out.1.size⟩
  | cons p rest =>
   have hpr : p ∈ readyR m of g := by rw [hrd]; exact List.mem_cons_self
   have hpo : p ∈ of := (List.mem_filter.1 hpr).1
   have hpf := (List.mem_filter.1 hpr).2
   simp only [Bool.and_eq_true, Bool.not_eq_true'] at hpf
   obtain ⟨x, hx⟩ := Option.isSome_iff_exists.1 hpf.1
   have hpg : p ∉ g := by
    have := hpf.2
    intro h
    rw [List.contains_iff_mem.2 h] at this
    cases this
   have hpm := HH.out.1 p hpo
   have hnd : (g ++ [p]).Nodup := List.nodup_append.2 ⟨HI.out.2.2.2.1, by simp, fun a ha b hb => by simp at hb; subst hb; exact fun h => hpg (h ▸ ha)⟩
   have hsub : ∀ i ∈ g ++ [p], i ∈ of := fun i hi => by
    rcases List.mem_append.1 hi with h | h
    ·exact HI.out.2.2.2.2.1 i h
    ·simp at h; subst h; exact hpo
   have hlt12 : (g ++ [p]).length ≤ 12 := nodup_le hnd fun i hi => by have := HH.out.1 i (hsub i hi); have := HH.out.2; omega
   have hn8 : n8 = rest.length + 1 := by rw [hl8, hrd]; rfl
   obtain ⟨n', hn'⟩ : ∃ n', n = n' + 1 := ⟨n - 1, by have := HI.out.2.1; simp at hlt12; omega⟩
   have HE := Lib.hid (show A = greedyF m of n' (g ++ [p]) (ml ++ [x]) by rw [HI.out.1, hn', greedyF, hrd]; show greedyF m of n' (g ++ [p]) (ml ++ [(firstR m g p).getD (0, 0, 0)]) = _; rw [hx]; rfl)
   obtain ⟨x0, x1, x2⟩ := x
   have hsl := H2.out.2.1
   rw [hrd] at hsl
   obtain ⟨b8, cc8, he8, hm8, hH8⟩ := ints_open hsl
   simp only [Value.slice.injEq] at he8
   obtain ⟨rfl, hn88, rfl⟩ := he8
   obtain ⟨ib, io, rfl, lib, hcc⟩ := hH8 0 (p : Int) rfl
   have hck : w2.cell? ⟨ib, io, none⟩ = some (.int .i64 (p : Int)) := by have := hcc 0 (p : Int) rfl; simpa using this
   have HP := Lib.hid (And.intro hpm (And.intro hnd (And.intro hsub (And.intro hlt12 (And.intro hn' hx)))))
   have hn80 : ¬ (n8 = 0) := by omega
   have hn80b : ((n8 : Int) == 0) = false := by simp; omega
   have hn8p : 0 < n8 := by omega
   have hn8l : n8 ≤ 1000 := by
    rw [hl8]
    unfold readyR
    exact Nat.le_trans (List.length_filter_le _ _) hlen
   clear hpr hpo hpf hpm hnd hsub hlt12 hn' hpg hsl hm8 hH8 hcc hrd hl8 hn88 hx hn8
   obtain ⟨B, hBe⟩ : ∃ B, B = w2.heap.size := ⟨_, rfl⟩
   have HBe := Lib.hid hBe
   have hbs2 : wb.heap.size ≤ w2.heap.size := H2.out.1.size
   have HTR : Hid (∀ W, Below B w2 W → Below wb.heap.size wb W ∧ Below w2.heap.size w2 W) := Lib.hid fun W h => ⟨H2.out.1.trans (h.mono (by rw [hBe]; exact hbs2)), hBe ▸ h⟩
   have HCK := Lib.hid fun W (h : Below w2.heap.size w2 W) => (show W.cell? ⟨ib, io, none⟩ = some (.int .i64 (p : Int)) ∧ ib < W.heap.size from ⟨((Grows.cells h).1 ib _ lib).trans hck, Nat.lt_of_lt_of_le lib h.size⟩)
   have HBX := Lib.hid fun W (h : Below wb.heap.size wb W) => (show Blk W N0 _ _ from HN0.out ▸ HB.out.2.grow h)
   clear hBe hck lib
   go_wp2_with fail
   refine wp_region_val (Below B) (fun L vs W => I6 B (L 9) (L 10) (vs 9) (.int .i64 (x0 : Int)) (.int .i64 (x1 : Int)) (.int .i64 (x2 : Int)) W) [Is (.agg #[.slice bm nm cm, .slice bn nn cn]), Is (.slice p6 n6 c6), Is (.slice (some ⟨ib, io, none⟩) n8 c8), Is (.pointer (some ⟨ib, io, none⟩)), Is (.int .i64 (p : Int)), Is (.tuple #[.agg #[.int .i64 (x0 : Int), .int .i64 (x1 : Int), .int .i64 (x2 : Int)], .bool true]), Is (.tuple #[.agg #[.int .i64 (x0 : Int), .int .i64 (x1 : Int), .int .i64 (x2 : Int)], .bool true]), Is (.agg #[.int .i64 (x0 : Int), .int .i64 (x1 : Int), .int .i64 (x2 : Int)]), Is (.bool true), AnyV, AnyV, Is (.bool true)] (by kernel_rfl) (by kernel_rfl) rfl (Below.refl B) (fun _ _ _ => Below.trans) (stable_mem ⟨fun _ _ _ h _ => h, fun _ _ _ h _ => h, fun _ _ _ h _ => h, fun _ _ _ h _ => h, fun _ _ _ h _ => h, fun _ _ _ h _ => h, fun _ _ _ h _ => h, fun _ _ _ h _ => h, fun _ _ _ h _ => h, fun _ _ _ h _ => h, fun _ _ _ h _ => h, fun _ _ _ h _ => h, trivial⟩) w2 (Below.drew (Below.refl _ _)) (⟨by rw [HBe.out]; exact Nat.le_refl _, fun e => by cases e⟩) ?_
   refine val_cons ?_ (fun v0 => ?_)
   ·intro L vs w1 hvs hat hb hI hF; try simp [factsI, Region.binds, Is] at hF
    have b3 := HBX.out w1 (HTR.out w1 hb).1
    have c0 := b3.cell 0; have c1 := b3.cell 1; have l3 := b3.lt
    simp only [List.getElem?_toArray, List.getElem?_cons_zero, List.getElem?_cons_succ] at c0 c1
    clear b3
    have HI2 := Lib.hid hI; clear hI
    go_simp
    try simp [upd]
    exact ⟨Below.refl _ _, HI2.out⟩
   refine val_cons ?_ (fun v1 => ?_)
   ·intro L vs w1 hvs hat hb hI hF; try simp [factsI, Region.binds, Is] at hF
    have HI2 := Lib.hid hI; clear hI
    go_simp
    try simp [upd]
    exact ⟨Below.refl _ _, HI2.out⟩
   refine val_cons ?_ (fun v2 => ?_)
   ·intro L vs w1 hvs hat hb hI hF; try simp [factsI, Region.binds, Is] at hF
    have HI2 := Lib.hid hI; clear hI
    go_simp
    try simp [upd]
    exact ⟨Below.refl _ _, HI2.out⟩
   refine val_cons ?_ (fun v3 => ?_)
   ·intro L vs w1 hvs hat hb hI hF; try simp [factsI, Region.binds, Is] at hF
    have HI2 := Lib.hid hI; clear hI
    go_simp
    try simp [upd]
    exact ⟨Below.refl _ _, HI2.out⟩
   refine val_cons ?_ (fun v4 => ?_)
   ·intro L vs w1 hvs hat hb hI hF; try simp [factsI, Region.binds, Is] at hF
    have c4 := (HCK.out w1 (HTR.out w1 hb).2).1; have l4 := (HCK.out w1 (HTR.out w1 hb).2).2
    have HI2 := Lib.hid hI; clear hI
    go_simp
    try simp [upd]
    exact ⟨Below.refl _ _, HI2.out⟩
   refine val_cons ?_ (fun v5 => ?_)
   ·intro L vs w1 hvs hat hb hI hF; try simp [factsI, Region.binds, Is] at hF
    have HI2 := Lib.hid hI; clear hI
    go_simp
    refine (HF.out w1 (bel_trans HB.out.1 (HTR.out w1 hb).1) _ g ((OwnI.sl H2.out.2.2.1).mono (HTR.out w1 hb).2) p HP.out.1).mono ?_
    rintro e w3 ⟨rfl, hb3⟩
    rw [HP.out.2.2.2.2.2]
    refine ⟨_, rfl, hb3.mono HI2.out.1, ?_, rfl⟩
    try simp [upd]
    exact HI2.out.bel hb3
   refine val_cons ?_ (fun v6 => ?_)
   ·intro L vs w1 hvs hat hb hI hF; try simp [factsI, Region.binds, Is] at hF
    have HI2 := Lib.hid hI; clear hI
    go_simp
    try simp [upd]
    exact ⟨Below.refl _ _, HI2.out⟩
   refine val_cons ?_ (fun v7 => ?_)
   ·intro L vs w1 hvs hat hb hI hF; try simp [factsI, Region.binds, Is] at hF
    have HI2 := Lib.hid hI; clear hI
    go_simp
    try simp [upd]
    exact ⟨Below.refl _ _, HI2.out⟩
   refine val_cons ?_ (fun v8 => ?_)
   ·intro L vs w1 hvs hat hb hI hF; try simp [factsI, Region.binds, Is] at hF
    have HI2 := Lib.hid hI; clear hI
    go_simp
    try simp [upd]
    exact ⟨Below.refl _ _, HI2.out⟩
   refine val_cons ?_ (fun v9 => ?_)
   ·intro L vs w1 hvs hat hb hI hF; try simp [factsI, Region.binds, Is] at hF
    have h10 := Lib.hid (hat.later 12 10 (by kernel_rfl))
    have hs := hI.1
    have HI2 := Lib.hid hI; clear hI
    go_simp
    try simp [upd]
    exact ⟨(bel_alloc (bel_refl _) _).mono hs, ⟨by simp; omega, fun _ => ⟨_, rfl, hs, fun e => (by rw [h10.out] at e; cases e), fun _ => ⟨_, _, _, Blk.new _ _ _⟩⟩⟩, trivial⟩
   refine val_cons ?_ (fun v10 => ?_)
   ·intro L vs w1 hvs hat hb hI hF; try simp [factsI, Region.binds, Is] at hF
    have h9 := hat.ahead 12 9 (by kernel_rfl)
    have h10 := hat.self
    have hv9 : vs 9 = v9 := hvs 9 (by omega)
    have hs := hI.1
    refine Exists.elim (hI.2 h9) (fun b5 hh => ?_)
    have hg := hh.1
    rw [hv9] at hg
    subst hg
    have hBb := hh.2.1
    refine Exists.elim (hh.2.2.2 h10) (fun y0 h => Exists.elim h (fun y1 h => Exists.elim h (fun y2 hK => ?_)))
    have BK := Lib.hid hK
    have d0 := hK.cell 0; have d1 := hK.cell 1; have d2 := hK.cell 2; have l5 := hK.lt; have f0 := hK.free 0; have f1 := hK.free 1; have f2 := hK.free 2
    simp only [List.getElem?_toArray, List.getElem?_cons_zero, List.getElem?_cons_succ] at d0 d1 d2
    clear hh h9 h10 hI hK
    go_simp
    try simp [upd]
    exact ⟨mv_store_belB (Below.refl _ _) hBb _ _ _, ⟨by simpa using hs, fun _ => ⟨b5, hv9, hBb, fun _ => mv_store BK.out _ _ _, fun e => (by cases e)⟩⟩, trivial⟩
   refine val_cons ?_ (fun v11 => ?_)
   ·intro L vs w1 hvs hat hb hI hF; try simp [factsI, Region.binds, Is] at hF
    have HI2 := Lib.hid hI; clear hI
    go_simp
    try simp [upd]
    exact ⟨Below.refl _ _, HI2.out⟩
   refine val_nil ?_
   intro vs w1 hvs hb hI hF
   simp [Is, Nat.forall_lt_succ_right] at hF
   have e0 := hF.1.1.1.1.1.1.1.1.1.1.1
   have e1 := hF.1.1.1.1.1.1.1.1.1.1.2
   have e2 := hF.1.1.1.1.1.1.1.1.1.2
   have e3 := hF.1.1.1.1.1.1.1.1.2
   have e4 := hF.1.1.1.1.1.1.1.2
   have e5 := hF.1.1.1.1.1.1.2
   have e6 := hF.1.1.1.1.1.2
   have e7 := hF.1.1.1.1.2
   have e8 := hF.1.1.1.2
   have e9 := hF.1.1.2
   have e10 := hF.1.2
   have e11 := hF.2
   clear hF
   simp only [Act.put, List.setIfInBounds_toArray, List.set_cons_succ, List.set_cons_zero, e0, e1, e2, e3, e4, e5, e6, e7, e8, e11]
   clear e0 e1 e2 e3 e4 e5 e6 e7 e8 e11
   have hv9 : vs 9 = v9 := hvs 9 (by omega)
   have hK9 := hI.2 rfl
   rw [hv9] at hK9
   obtain ⟨b9, rfl, hB9, hK9, -⟩ := hK9
   have hK9 := hK9 rfl
   have HZ := Lib.hid (And.intro (HTR.out _ hb).1 (And.intro (own_bel H2.out.2.2.1 (HTR.out _ hb).2) (And.intro (own_bel H2.out.2.2.2 (HTR.out _ hb).2) hK9)))
   have c4 := (HCK.out w1 (HTR.out w1 hb).2).1; have l4 := (HCK.out w1 (HTR.out w1 hb).2).2
   have hbs1 : wb.heap.size ≤ w1.heap.size := HZ.out.1.size
   have hx := HZ.out.2.1
   have HX0 := Lib.hid hx
   try unfold OwnI at hx
   rw [intsL_length] at hx
   have hg12 : g.length ≤ 12 := by have := HI.out.2.1; omega
   have HX := Lib.hid hx; clear hx
   clear hb hI hvs e9 e10 hv9 hK9 hB9
   go_upto_region 8 with (first
    | (at_builtin; refine wpList_append_own _ rfl _ _ 23 rfl wb.heap.size 3 i0 (.int .i64 0) 1 8 Tryz.underlying23 HI0.out.1 HI0.out.2.1 HI0.out.2.2.1 HI0.out.2.2.2 rfl (by decide) _ _ _ rfl (HX.out.alloc _) ⟨w1.heap.size, 0, none⟩ 1 1 [.int .i64 (p : Int)] rfl rfl (cell_one_new _ _ _) (fun x hx => by simp at hx; subst hx; rfl) (by unfold maxLen; omega) (by omega) (by simp; omega) ?_; intro v' w7 hown' hgrow7 hnil7))
   have hR := HX.out.alloc (.cells #[.int .i64 (p : Int)] 3)
   have hb7 : Below wb.heap.size w1 w7 := ((bel_alloc (bel_refl w1) (.cells #[.int .i64 (p : Int)] 3)).mono hbs1).grown hgrow7 (by simp; omega) (fun j hj => ((HX.out.alloc (.cells #[.int .i64 (p : Int)] 3)).lt j hj).1)
   have hml := own_keptT (HZ.out.2.2.1.alloc _) hR (by decide) hgrow7
   have hbk := (HZ.out.2.2.2.alloc (.cells #[.int .i64 (p : Int)] 3)).gb hgrow7 (fun e => by
    obtain ⟨_, h | ⟨g2, cap2, cur2, hv2, _, hh2, _⟩⟩ := hR
    ·rw [h.1] at e; cases e
    ·rw [hv2] at e
     have e' : b9 = g2 := Option.some.inj e
     have := (HZ.out.2.2.2.alloc (.cells #[.int .i64 (p : Int)] 3))
     unfold Blk at this
     rw [e', hh2] at this
     injection this with h1
     injection h1 with _ h2
     exact absurd h2 (by decide))
   have k0 := hbk.cell 0; have k1 := hbk.cell 1; have k2 := hbk.cell 2; have l9 := hbk.lt
   simp only [List.getElem?_toArray, List.getElem?_cons_zero, List.getElem?_cons_succ] at k0 k1 k2
   have hs7 : wb.heap.size ≤ w7.heap.size := Nat.le_trans hbs1 hb7.size
   have hml12 : ml.length ≤ 12 := by have := HI.out.2.2.1; omega
   have HY := Lib.hid (And.intro hml (And.intro hown' hb7))
   clear hml hown' hb7 hbk hR hgrow7 hnil7
   go_wp2_with (first
    | (at_builtin; refine wpList_append_own _ rfl _ _ 43 rfl wb.heap.size 25 i1 _ 3 24 Tryz.underlying43 HI1.out.1 HI1.out.2.1 HI1.out.2.2.1 HI1.out.2.2.2 rfl (by decide) _ _ _ rfl (HY.out.1.alloc _) ⟨w7.heap.size, 0, none⟩ 1 1 (mvL (x0, x1, x2)) rfl rfl (blk_news (Blk.new w7 _ 25)) (fun y hy => by simp [mvL] at hy; rcases hy with rfl | rfl | rfl <;> rfl) (by unfold maxLen; omega) (by omega) (by simp; omega) ?_; intro v8 w8 hown8 hgrow8 hnil8))
   have hR := HY.out.1.alloc (.cells (mvL (x0, x1, x2)).toArray 25)
   have hb8 : Below wb.heap.size w7 w8 := ((bel_alloc (bel_refl w7) _).mono hs7).grown hgrow8 (by simp; omega) (fun j hj => (hR.lt j hj).1)
   have hg8 := own_keptT (HY.out.2.1.alloc _) hR (by decide) hgrow8
   obtain ⟨pv, cv, hv, _, _⟩ := own_shape' HY.out.2.1
   refine ⟨⟨_, g ++ [p], ml ++ [(x0, x1, x2)], by rw [hv, List.length_append]; rfl, Lib.hid ⟨HE.out, ?_, ?_, HP.out.2.1, HP.out.2.2.1, ?_, ?_, HZ.out.1.trans (HY.out.2.2.trans hb8)⟩⟩, ?_⟩
   ·have h1 := HP.out.2.2.2.2.1; have h2 := HI.out.2.1; simp; omega
   ·have := HI.out.2.2.1; simp [this]
   ·unfold OwnI
    rw [intsL_length, List.length_append]
    unfold intsL at *
    rw [List.map_append, List.map_append]
    exact hg8
   ·unfold OwnM
    rw [List.length_append, List.map_append, List.flatten_append]
    simpa using hown8
   ·rw [hv]
    show 12 - (g.length + 1) < 12 - n6
    have h1 := HP.out.2.2.2.1; have h2 := HN6.out; simp at h1; omega
end Go.Proofs.YtlbhjikkpbknnaaGreatDoor
end
