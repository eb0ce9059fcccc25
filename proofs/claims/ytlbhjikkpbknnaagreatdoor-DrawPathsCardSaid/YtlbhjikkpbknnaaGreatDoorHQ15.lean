import Derived.Test.YtlbhjikkpbknnaaGreatDoorHQ13
/-
  Given contracts of functions of the program, and laws for them, one behind the other.
-/
set_option linter.unusedVariables false
set_option linter.unusedSimpArgs false
set_option linter.unusedSectionVars false
section
namespace Go.Proofs.YtlbhjikkpbknnaaGreatDoor
open Go.RowKit Go.Rel Go.Draw
set_option maxRecDepth 100000
/-! the pieces that can go -/
def I5 (B : Nat) (a10 : Bool) (y : Value) (W : World) : Prop := B ≤ W.heap.size ∧ (a10 = true → ∃ b x0 x1 x2, y = .pointer (some ⟨b, 0, none⟩) ∧ B ≤ b ∧ Blk W b #[x0, x1, x2] 25)
theorem I5.bel {B : Nat} {a : Bool} {y : Value} {W W' : World} (h : I5 B a y W) (hb : Below W.heap.size W W') : I5 B a y W' := ⟨Nat.le_trans h.1 hb.size, fun e => by
 obtain ⟨b, x0, x1, x2, h1, h2, h3⟩ := h.2 e
 exact ⟨b, x0, x1, x2, h1, h2, h3.grow hb⟩⟩
theorem mv_store_belB {w w0 : World} {B b : Nat} (hb : Below B w0 w) (h : B ≤ b) (x0 x1 x2 : Value) : Below B w0 (((w.setCell ⟨b, 0, none⟩ x0).setCell ⟨b, 1, none⟩ x1).setCell ⟨b, 2, none⟩ x2) := ((hb.setCell h _).setCell h _).setCell h _
theorem take_snocL {α : Type} {l : List α} {k : Nat} {x : α} (h : l[k]? = some x) : l.take (k + 1) = l.take k ++ [x] := by rw [List.take_add_one, h]; rfl
theorem readyR_snoc (m : List Sol) (l g : List Nat) (p : Nat) : readyR m (l ++ [p]) g = readyR m l g ++ (if (firstR m g p).isSome && !g.contains p then [p] else []) := by
 unfold readyR
 rw [List.filter_append]
 congr 1
 cases h : ((firstR m g p).isSome && !g.contains p) <;> simp only [List.filter_cons, List.filter_nil, h] <;> rfl
abbrev mv0 : Value := .agg #[.int .i64 0, .int .i64 0, .int .i64 0]
set_option maxHeartbeats 8000000 in
theorem readyR_spec {w : World} {mv nv gv ov : Value} {m : List Sol} {of g : List Nat} (HW : WaysR w mv nv m) (HO : SlI w ov (intsL of)) (HG : SlI w gv (intsL g)) (hof : ∀ p ∈ of, p < m.length) (hlen : of.length ≤ 1000) : Calls Tryz.prog 95 #[.agg #[mv, nv], ov, gv] w fun e w' => Below w.heap.size w w' ∧ ∃ o, e = .returned o ∧ OwnI w' w.heap.size o (intsL (readyR m of g)) := by
 obtain ⟨i0, hi, hz0, hz1, hz2⟩ := info_parts infoInt
 have HI0 := Lib.hid (And.intro hi (And.intro hz0 (And.intro hz1 hz2))); clear hi hz0 hz1 hz2
 obtain ⟨bo, co, rfl, hol, hco⟩ := ints_open HO
 rw [intsL_length] at hol ⊢
 obtain ⟨K, hK⟩ : ∃ K, K = of.length := ⟨_, rfl⟩
 rw [← hK] at hol hlen ⊢
 obtain ⟨us, ⟨hs1, -, -⟩, vs', hs2, -, -⟩ : (∃ us : List Value, (Sl w 1 mv (us.map fun x => [x]) ∧ True ∧ True) ∧ ∃ vs : List Value, Sl w 1 nv (vs.map fun x => [x]) ∧ True ∧ True) := by
  obtain ⟨⟨us, h1, _, _⟩, vs, k1, _, _⟩ := HW
  exact ⟨us, ⟨h1, trivial, trivial⟩, vs, k1, trivial, trivial⟩
 obtain ⟨bm, cm, hmv, -, -⟩ := vals_open hs1
 obtain ⟨bn, cn, hnv, -, -⟩ := vals_open hs2
 obtain ⟨nm, hnm⟩ : ∃ n, n = us.length := ⟨_, rfl⟩
 obtain ⟨nn, hnn⟩ : ∃ n, n = vs'.length := ⟨_, rfl⟩
 rw [← hnm] at hmv
 rw [← hnn] at hnv
 subst hmv hnv
 have HF := Lib.hid fun W (h : Below w.heap.size w W) p (hp : p < m.length) => firstR_spec (HW.mono h) (HG.mono h) hp
 have HIN := Lib.hid fun W (h : Below w.heap.size w W) p => In_spec p (HG.mono h)
 have HH := Lib.hid (And.intro hco (And.intro hof hK))
 clear HW HO HG hs1 hs2 hnm hnn hco hof hK us vs'
 go_enter Tryz.func95, Tryz.ntmps95
 go_wp2_with fail
 obtain ⟨wb, hwb⟩ : ∃ wb, wb = w.alloc (.cells #[.slice bm nm cm, .slice bn nn cn] 111) := ⟨_, rfl⟩
 have hb : Below w.heap.size w wb := by subst hwb; exact (by repeat (first | with_reducible exact bel_refl _ | with_reducible assumption | with_reducible refine bel_drewN ?_ _ | with_reducible refine bel_drew ?_ | with_reducible refine bel_alloc ?_ _ | with_reducible refine bel_row ?_ ?_ _ | with_reducible refine bel_set ?_ ?_ _ | refine bel_trans ?_ (by with_reducible assumption) | (simp; done) | (simp; omega)))
 have B3 : Blk wb w.heap.size #[.slice bm nm cm, .slice bn nn cn] 111 := by subst hwb; exact Blk.new _ _ _
 rw [← hwb]
 clear hwb
 have HB := Lib.hid (And.intro hb B3)
 obtain ⟨N0, hN0⟩ : ∃ N0, N0 = w.heap.size := ⟨_, rfl⟩
 rw [← hN0] at ⊢
 have HN0 := Lib.hid hN0
 clear B3 hb hN0
 go_loopw [7, 8] (fun ov iv wx => ∃ (k : Nat), k ≤ K ∧ iv = .int .i64 k ∧ Hid (OwnI wx wb.heap.size ov (intsL (readyR m (of.take k) g)) ∧ Below wb.heap.size wb wx)) (fun _ iv _ => K - (intOf iv).toNat)
 case atStart => exact ⟨0, Nat.zero_le _, rfl, Lib.hid ⟨World.ownsRow_nil _ _ _ _, Below.refl _ _⟩⟩
 case round =>
  obtain ⟨k, hk, rfl, HI⟩ := hrel
  by_cases hlt : k < K
  ·obtain ⟨p, hp⟩ : ∃ p, of[k]? = some p := ⟨_, List.getElem?_eq_getElem (by rw [← HH.out.2.2]; exact hlt)⟩
   have hpm := HH.out.2.1 p (List.mem_of_getElem? hp)
   obtain ⟨ib, io, rfl, lib, hcc⟩ := HH.out.1 k (p : Int) (by unfold intsL; rw [List.getElem?_map, hp]; rfl)
   have hck := hcc k (p : Int) (by unfold intsL; rw [List.getElem?_map, hp]; rfl)
   have HP := Lib.hid (And.intro hp hpm)
   have HCK := Lib.hid fun W (h : Below wb.heap.size wb W) => (show W.cell? ⟨ib, io + k, none⟩ = some (.int .i64 (p : Int)) ∧ ib < W.heap.size from ⟨((Grows.cells (bel_trans HB.out.1 h)).1 ib _ lib).trans hck, Nat.lt_of_lt_of_le lib (bel_trans HB.out.1 h).size⟩)
   have HBX := Lib.hid fun W (h : Below wb.heap.size wb W) => (show Blk W N0 _ _ from HN0.out ▸ HB.out.2.grow h)
   clear hp hpm hcc hck lib
   obtain ⟨R, hR⟩ : ∃ R, R = firstR m g p := ⟨_, rfl⟩
   have HR := Lib.hid hR
   clear hR
   have hbs : wb.heap.size ≤ wr.heap.size := HI.out.2.size
   obtain ⟨B, hBe⟩ : ∃ B, B = wr.heap.size := ⟨_, rfl⟩
   have HBe := Lib.hid hBe
   have HTR : Hid (∀ W, Below B wr W → Below wb.heap.size wb W) := Lib.hid fun W h => HI.out.2.trans (h.mono (by rw [hBe]; exact hbs))
   clear hBe
   cases R with
   | none =>
    go_wp2_with fail
    refine wp_region_val (Below B) (fun L vs W => I5 B (L 10) (vs 10) W) [Is (.agg #[.slice bm nm cm, .slice bn nn cn]), Is gv, Is (.slice (some ⟨ib, io, none⟩) K co), Is (.int .i64 (k : Int)), Is (.pointer (some ⟨ib, io + k, none⟩)), Is (.int .i64 (p : Int)), Is (.tuple #[mv0, .bool false]), Is (.tuple #[mv0, .bool false]), Is (mv0), Is (.bool false), AnyV, AnyV, Is (.bool false)] (by kernel_rfl) (by kernel_rfl) rfl (Below.refl B) (fun _ _ _ => Below.trans) (stable_mem ⟨fun _ _ _ h _ => h, fun _ _ _ h _ => h, fun _ _ _ h _ => h, fun _ _ _ h _ => h, fun _ _ _ h _ => h, fun _ _ _ h _ => h, fun _ _ _ h _ => h, fun _ _ _ h _ => h, fun _ _ _ h _ => h, fun _ _ _ h _ => h, fun _ _ _ h _ => h, fun _ _ _ h _ => h, fun _ _ _ h _ => h, trivial⟩) wr (Below.drew (Below.refl _ _)) (⟨by rw [HBe.out]; exact Nat.le_refl _, fun e => by cases e⟩) ?_
    refine val_cons ?_ (fun v0 => ?_)
    ·intro L vs w1 hvs hat hb hI hF; try simp [factsI, Region.binds, Is] at hF
     have b3 := HBX.out w1 (HTR.out w1 hb)
     have c0 := b3.cell 0; have c1 := b3.cell 1; have l3 := b3.lt
     simp only [List.getElem?_toArray, List.getElem?_cons_zero, List.getElem?_cons_succ] at c0 c1
     clear b3
     have HI2 := Lib.hid hI; clear hI
     go_simp
     try simp [upd]
     exact ⟨Below.refl _ _, HI2.out⟩
    refine val_cons ?_ (fun v1 => ?_)
    ·intro L vs w1 hvs hat hb hI hF; try simp [factsI, Region.binds, Is] at hF
     have HI2 := Lib.hid hI; clear hI
     go_simp
     try simp [upd]
     exact ⟨Below.refl _ _, HI2.out⟩
    refine val_cons ?_ (fun v2 => ?_)
    ·intro L vs w1 hvs hat hb hI hF; try simp [factsI, Region.binds, Is] at hF
     have HI2 := Lib.hid hI; clear hI
     go_simp
     try simp [upd]
     exact ⟨Below.refl _ _, HI2.out⟩
    refine val_cons ?_ (fun v3 => ?_)
    ·intro L vs w1 hvs hat hb hI hF; try simp [factsI, Region.binds, Is] at hF
     have HI2 := Lib.hid hI; clear hI
     go_simp
     try simp [upd]
     exact ⟨Below.refl _ _, HI2.out⟩
    refine val_cons ?_ (fun v4 => ?_)
    ·intro L vs w1 hvs hat hb hI hF; try simp [factsI, Region.binds, Is] at hF
     have HI2 := Lib.hid hI; clear hI
     go_simp
     try simp [upd]
     exact ⟨Below.refl _ _, HI2.out⟩
    refine val_cons ?_ (fun v5 => ?_)
    ·intro L vs w1 hvs hat hb hI hF; try simp [factsI, Region.binds, Is] at hF
     have c4 := (HCK.out w1 (HTR.out w1 hb)).1; have l4 := (HCK.out w1 (HTR.out w1 hb)).2
     have HI2 := Lib.hid hI; clear hI
     go_simp
     try simp [upd]
     exact ⟨Below.refl _ _, HI2.out⟩
    refine val_cons ?_ (fun v6 => ?_)
    ·intro L vs w1 hvs hat hb hI hF; try simp [factsI, Region.binds, Is] at hF
     have HI2 := Lib.hid hI; clear hI
     go_simp
     refine (HF.out w1 (bel_trans HB.out.1 (HTR.out w1 hb)) p HP.out.2).mono ?_
     rintro e w2 ⟨rfl, hb2⟩
     rw [← HR.out]
     refine ⟨_, rfl, hb2.mono HI2.out.1, ?_, rfl⟩
     try simp [upd]
     exact HI2.out.bel hb2
    refine val_cons ?_ (fun v7 => ?_)
    ·intro L vs w1 hvs hat hb hI hF; try simp [factsI, Region.binds, Is] at hF
     have HI2 := Lib.hid hI; clear hI
     go_simp
     try simp [upd]
     exact ⟨Below.refl _ _, HI2.out⟩
    refine val_cons ?_ (fun v8 => ?_)
    ·intro L vs w1 hvs hat hb hI hF; try simp [factsI, Region.binds, Is] at hF
     have HI2 := Lib.hid hI; clear hI
     go_simp
     try simp [upd]
     exact ⟨Below.refl _ _, HI2.out⟩
    refine val_cons ?_ (fun v9 => ?_)
    ·intro L vs w1 hvs hat hb hI hF; try simp [factsI, Region.binds, Is] at hF
     have HI2 := Lib.hid hI; clear hI
     go_simp
     try simp [upd]
     exact ⟨Below.refl _ _, HI2.out⟩
    refine val_cons ?_ (fun v10 => ?_)
    ·intro L vs w1 hvs hat hb hI hF; try simp [factsI, Region.binds, Is] at hF
     have hs := hI.1
     have HI2 := Lib.hid hI; clear hI
     go_simp
     try simp [upd]
     exact ⟨(bel_alloc (bel_refl _) _).mono hs, ⟨by simp; omega, fun _ => ⟨_, _, _, _, rfl, hs, Blk.new _ _ _⟩⟩, trivial⟩
    refine val_cons ?_ (fun v11 => ?_)
    ·intro L vs w1 hvs hat hb hI hF; try simp [factsI, Region.binds, Is] at hF
     have h10 := hat.ahead 13 10 (by kernel_rfl)
     have hv10 : vs 10 = v10 := hvs 10 (by omega)
     have hs := hI.1
     refine Exists.elim (hI.2 h10) (fun b5 hh => Exists.elim hh (fun y0 hh => Exists.elim hh (fun y1 hh => Exists.elim hh (fun y2 hh => ?_))))
     have hg := hh.1
     rw [hv10] at hg
     subst hg
     have hBb := hh.2.1
     have BK := Lib.hid hh.2.2
     have d0 := hh.2.2.cell 0; have d1 := hh.2.2.cell 1; have d2 := hh.2.2.cell 2; have l5 := hh.2.2.lt; have f0 := hh.2.2.free 0; have f1 := hh.2.2.free 1; have f2 := hh.2.2.free 2
     simp only [List.getElem?_toArray, List.getElem?_cons_zero, List.getElem?_cons_succ] at d0 d1 d2
     clear hh h10 hI
     go_simp
     try simp [upd]
     exact ⟨mv_store_belB (Below.refl _ _) hBb _ _ _, ⟨by simpa using hs, fun _ => ⟨b5, _, _, _, hv10, hBb, mv_store BK.out _ _ _⟩⟩, trivial⟩
    refine val_cons ?_ (fun v12 => ?_)
    ·intro L vs w1 hvs hat hb hI hF; try simp [factsI, Region.binds, Is] at hF
     have HI2 := Lib.hid hI; clear hI
     go_simp
     try simp [upd]
     exact ⟨Below.refl _ _, HI2.out⟩
    refine val_nil ?_
    intro vs w1 hvs hb hI hF
    simp [Is, Nat.forall_lt_succ_right] at hF
    have e0 := hF.1.1.1.1.1.1.1.1.1.1.1.1
    have e1 := hF.1.1.1.1.1.1.1.1.1.1.1.2
    have e2 := hF.1.1.1.1.1.1.1.1.1.1.2
    have e3 := hF.1.1.1.1.1.1.1.1.1.2
    have e4 := hF.1.1.1.1.1.1.1.1.2
    have e5 := hF.1.1.1.1.1.1.1.2
    have e6 := hF.1.1.1.1.1.1.2
    have e7 := hF.1.1.1.1.1.2
    have e8 := hF.1.1.1.1.2
    have e9 := hF.1.1.1.2
    have e10 := hF.1.1.2
    have e11 := hF.1.2
    have e12 := hF.2
    clear hF
    simp only [Act.put, List.setIfInBounds_toArray, List.set_cons_succ, List.set_cons_zero, e0, e1, e2, e3, e4, e5, e6, e7, e8, e9, e12]
    clear e0 e1 e2 e3 e4 e5 e6 e7 e8 e9 e12
    have HZ := Lib.hid (And.intro (HTR.out _ hb) (own_bel HI.out.1 (HBe.out ▸ hb)))
    clear hb hI hvs e10 e11
    go_wp2_with fail
    refine ⟨⟨k + 1, by omega, by simp, Lib.hid ⟨?_, HZ.out.1⟩⟩, by simp [intOf]; omega⟩
    rw [take_snocL HP.out.1, readyR_snoc, ← HR.out, Option.isSome_none, Bool.false_and, if_neg (by simp), List.append_nil]
    exact HZ.out.2
   | some x =>
    obtain ⟨x0, x1, x2⟩ := x
    go_wp2_with fail
    refine wp_region_val (Below B) (fun L vs W => I5 B (L 10) (vs 10) W) [Is (.agg #[.slice bm nm cm, .slice bn nn cn]), Is gv, Is (.slice (some ⟨ib, io, none⟩) K co), Is (.int .i64 (k : Int)), Is (.pointer (some ⟨ib, io + k, none⟩)), Is (.int .i64 (p : Int)), Is (.tuple #[.agg #[.int .i64 (x0 : Int), .int .i64 (x1 : Int), .int .i64 (x2 : Int)], .bool true]), Is (.tuple #[.agg #[.int .i64 (x0 : Int), .int .i64 (x1 : Int), .int .i64 (x2 : Int)], .bool true]), Is (.agg #[.int .i64 (x0 : Int), .int .i64 (x1 : Int), .int .i64 (x2 : Int)]), Is (.bool true), AnyV, AnyV, Is (.bool true)] (by kernel_rfl) (by kernel_rfl) rfl (Below.refl B) (fun _ _ _ => Below.trans) (stable_mem ⟨fun _ _ _ h _ => h, fun _ _ _ h _ => h, fun _ _ _ h _ => h, fun _ _ _ h _ => h, fun _ _ _ h _ => h, fun _ _ _ h _ => h, fun _ _ _ h _ => h, fun _ _ _ h _ => h, fun _ _ _ h _ => h, fun _ _ _ h _ => h, fun _ _ _ h _ => h, fun _ _ _ h _ => h, fun _ _ _ h _ => h, trivial⟩) wr (Below.drew (Below.refl _ _)) (⟨by rw [HBe.out]; exact Nat.le_refl _, fun e => by cases e⟩) ?_
    refine val_cons ?_ (fun v0 => ?_)
    ·intro L vs w1 hvs hat hb hI hF; try simp [factsI, Region.binds, Is] at hF
     have b3 := HBX.out w1 (HTR.out w1 hb)
     have c0 := b3.cell 0; have c1 := b3.cell 1; have l3 := b3.lt
     simp only [List.getElem?_toArray, List.getElem?_cons_zero, List.getElem?_cons_succ] at c0 c1
     clear b3
     have HI2 := Lib.hid hI; clear hI
     go_simp
     try simp [upd]
     exact ⟨Below.refl _ _, HI2.out⟩
    refine val_cons ?_ (fun v1 => ?_)
    ·intro L vs w1 hvs hat hb hI hF; try simp [factsI, Region.binds, Is] at hF
     have HI2 := Lib.hid hI; clear hI
     go_simp
     try simp [upd]
     exact ⟨Below.refl _ _, HI2.out⟩
    refine val_cons ?_ (fun v2 => ?_)
    ·intro L vs w1 hvs hat hb hI hF; try simp [factsI, Region.binds, Is] at hF
     have HI2 := Lib.hid hI; clear hI
     go_simp
     try simp [upd]
     exact ⟨Below.refl _ _, HI2.out⟩
    refine val_cons ?_ (fun v3 => ?_)
    ·intro L vs w1 hvs hat hb hI hF; try simp [factsI, Region.binds, Is] at hF
     have HI2 := Lib.hid hI; clear hI
     go_simp
     try simp [upd]
     exact ⟨Below.refl _ _, HI2.out⟩
    refine val_cons ?_ (fun v4 => ?_)
    ·intro L vs w1 hvs hat hb hI hF; try simp [factsI, Region.binds, Is] at hF
     have HI2 := Lib.hid hI; clear hI
     go_simp
     try simp [upd]
     exact ⟨Below.refl _ _, HI2.out⟩
    refine val_cons ?_ (fun v5 => ?_)
    ·intro L vs w1 hvs hat hb hI hF; try simp [factsI, Region.binds, Is] at hF
     have c4 := (HCK.out w1 (HTR.out w1 hb)).1; have l4 := (HCK.out w1 (HTR.out w1 hb)).2
     have HI2 := Lib.hid hI; clear hI
     go_simp
     try simp [upd]
     exact ⟨Below.refl _ _, HI2.out⟩
    refine val_cons ?_ (fun v6 => ?_)
    ·intro L vs w1 hvs hat hb hI hF; try simp [factsI, Region.binds, Is] at hF
     have HI2 := Lib.hid hI; clear hI
     go_simp
     refine (HF.out w1 (bel_trans HB.out.1 (HTR.out w1 hb)) p HP.out.2).mono ?_
     rintro e w2 ⟨rfl, hb2⟩
     rw [← HR.out]
     refine ⟨_, rfl, hb2.mono HI2.out.1, ?_, rfl⟩
     try simp [upd]
     exact HI2.out.bel hb2
    refine val_cons ?_ (fun v7 => ?_)
    ·intro L vs w1 hvs hat hb hI hF; try simp [factsI, Region.binds, Is] at hF
     have HI2 := Lib.hid hI; clear hI
     go_simp
     try simp [upd]
     exact ⟨Below.refl _ _, HI2.out⟩
    refine val_cons ?_ (fun v8 => ?_)
    ·intro L vs w1 hvs hat hb hI hF; try simp [factsI, Region.binds, Is] at hF
     have HI2 := Lib.hid hI; clear hI
     go_simp
     try simp [upd]
     exact ⟨Below.refl _ _, HI2.out⟩
    refine val_cons ?_ (fun v9 => ?_)
    ·intro L vs w1 hvs hat hb hI hF; try simp [factsI, Region.binds, Is] at hF
     have HI2 := Lib.hid hI; clear hI
     go_simp
     try simp [upd]
     exact ⟨Below.refl _ _, HI2.out⟩
    refine val_cons ?_ (fun v10 => ?_)
    ·intro L vs w1 hvs hat hb hI hF; try simp [factsI, Region.binds, Is] at hF
     have hs := hI.1
     have HI2 := Lib.hid hI; clear hI
     go_simp
     try simp [upd]
     exact ⟨(bel_alloc (bel_refl _) _).mono hs, ⟨by simp; omega, fun _ => ⟨_, _, _, _, rfl, hs, Blk.new _ _ _⟩⟩, trivial⟩
    refine val_cons ?_ (fun v11 => ?_)
    ·intro L vs w1 hvs hat hb hI hF; try simp [factsI, Region.binds, Is] at hF
     have h10 := hat.ahead 13 10 (by kernel_rfl)
     have hv10 : vs 10 = v10 := hvs 10 (by omega)
     have hs := hI.1
     refine Exists.elim (hI.2 h10) (fun b5 hh => Exists.elim hh (fun y0 hh => Exists.elim hh (fun y1 hh => Exists.elim hh (fun y2 hh => ?_))))
     have hg := hh.1
     rw [hv10] at hg
     subst hg
     have hBb := hh.2.1
     have BK := Lib.hid hh.2.2
     have d0 := hh.2.2.cell 0; have d1 := hh.2.2.cell 1; have d2 := hh.2.2.cell 2; have l5 := hh.2.2.lt; have f0 := hh.2.2.free 0; have f1 := hh.2.2.free 1; have f2 := hh.2.2.free 2
     simp only [List.getElem?_toArray, List.getElem?_cons_zero, List.getElem?_cons_succ] at d0 d1 d2
     clear hh h10 hI
     go_simp
     try simp [upd]
     exact ⟨mv_store_belB (Below.refl _ _) hBb _ _ _, ⟨by simpa using hs, fun _ => ⟨b5, _, _, _, hv10, hBb, mv_store BK.out _ _ _⟩⟩, trivial⟩
    refine val_cons ?_ (fun v12 => ?_)
    ·intro L vs w1 hvs hat hb hI hF; try simp [factsI, Region.binds, Is] at hF
     have HI2 := Lib.hid hI; clear hI
     go_simp
     try simp [upd]
     exact ⟨Below.refl _ _, HI2.out⟩
    refine val_nil ?_
    intro vs w1 hvs hb hI hF
    simp [Is, Nat.forall_lt_succ_right] at hF
    have e0 := hF.1.1.1.1.1.1.1.1.1.1.1.1
    have e1 := hF.1.1.1.1.1.1.1.1.1.1.1.2
    have e2 := hF.1.1.1.1.1.1.1.1.1.1.2
    have e3 := hF.1.1.1.1.1.1.1.1.1.2
    have e4 := hF.1.1.1.1.1.1.1.1.2
    have e5 := hF.1.1.1.1.1.1.1.2
    have e6 := hF.1.1.1.1.1.1.2
    have e7 := hF.1.1.1.1.1.2
    have e8 := hF.1.1.1.1.2
    have e9 := hF.1.1.1.2
    have e10 := hF.1.1.2
    have e11 := hF.1.2
    have e12 := hF.2
    clear hF
    simp only [Act.put, List.setIfInBounds_toArray, List.set_cons_succ, List.set_cons_zero, e0, e1, e2, e3, e4, e5, e6, e7, e8, e9, e12]
    clear e0 e1 e2 e3 e4 e5 e6 e7 e8 e9 e12
    have HZ := Lib.hid (And.intro (HTR.out _ hb) (own_bel HI.out.1 (HBe.out ▸ hb)))
    clear hb hI hvs e10 e11
    have c4 := (HCK.out w1 HZ.out.1).1; have l4 := (HCK.out w1 HZ.out.1).2
    have HINN := Lib.hid (HIN.out w1 (bel_trans HB.out.1 HZ.out.1) (p : Int))
    go_wp2_with fail
    refine HINN.out.mono ?_
    rintro e w2 ⟨rfl, hw2⟩
    have hw3 := hw2.symm
    subst hw3
    clear hw2 HINN
    rw [intsL_contains]
    have HRS := Lib.hid (show readyR m (of.take (k + 1)) g = readyR m (of.take k) g ++ (if !g.contains p then [p] else []) by
     rw [take_snocL HP.out.1, readyR_snoc, ← HR.out, Option.isSome_some, Bool.true_and])
    cases hgc : g.contains p
    ·have HG := Lib.hid hgc; clear hgc
     have hx := HZ.out.2
     have hbs1 : wb.heap.size ≤ w1.heap.size := HZ.out.1.size
     obtain ⟨p6, n6, c6, hu6⟩ := own_shapeN hx
     subst hu6
     try unfold OwnI at hx
     rw [intsL_length] at hx
     have hlr : (readyR m (of.take k) g).length ≤ k := by
      unfold readyR
      exact Nat.le_trans (List.length_filter_le _ _) (by rw [List.length_take]; omega)
     have HX := Lib.hid hx; clear hx
     go_wp2_with (first
      | (at_builtin; refine wpList_append_own _ rfl _ _ 23 rfl wb.heap.size 3 i0 (.int .i64 0) 1 8 Tryz.underlying23 HI0.out.1 HI0.out.2.1 HI0.out.2.2.1 HI0.out.2.2.2 rfl (by decide) _ _ _ rfl (HX.out.alloc _) ⟨w1.heap.size, 0, none⟩ 1 1 [.int .i64 (p : Int)] rfl rfl (cell_one_new _ _ _) (fun x hx => by simp at hx; subst hx; rfl) (by unfold maxLen; omega) (by omega) (by simp; omega) ?_; intro v' w7 hown' hgrow7 hnil7))
     have hb7 : Below wb.heap.size w1 w7 := ((bel_alloc (bel_refl w1) (.cells #[.int .i64 (p : Int)] 3)).mono hbs1).grown hgrow7 (by simp; omega) (fun j hj => ((HX.out.alloc (.cells #[.int .i64 (p : Int)] 3)).lt j hj).1)
     refine ⟨⟨k + 1, by omega, by simp, Lib.hid ⟨?_, HZ.out.1.trans hb7⟩⟩, by simp [intOf]; omega⟩
     rw [HRS.out, HG.out, Bool.not_false, if_pos rfl]
     unfold OwnI
     rw [intsL_length, List.length_append]
     unfold intsL at *
     rw [List.map_append, List.map_append]
     exact hown'
    ·have HG := Lib.hid hgc; clear hgc
     go_wp2_with fail
     refine ⟨⟨k + 1, by omega, by simp, Lib.hid ⟨?_, HZ.out.1⟩⟩, by simp [intOf]; omega⟩
     rw [HRS.out, HG.out, Bool.not_true, if_neg (by simp), List.append_nil]
     exact HZ.out.2
  ·have hdk : decide ((k : Int) < (K : Int)) = false := decide_eq_false (by omega)
   have HKK := Lib.hid (show of.take k = of from List.take_of_length_le (by rw [← HH.out.2.2]; omega))
   go_wp2_with fail
   go_ret
   refine ⟨bel_trans HB.out.1 HI.out.2, _, rfl, ?_⟩
   have := HI.out.1
   rw [HKK.out] at this
   exact own_weak this HB.out.1.size
end Go.Proofs.YtlbhjikkpbknnaaGreatDoor
end
section
namespace Go.Proofs.YtlbhjikkpbknnaaGreatDoor
open Go.RowKit Go.Rel Go.Draw
set_option maxRecDepth 100000
/-! Go and Ready: the program's and the reference's -/
def goO (m : List Sol) (gone : List Int) (p : Int) : Option Mv := if askE m gone [p] = 0 then (setI m.length gone).bind fun G => goesM m p.toNat G else none
def goV (r : Option Mv) (E : Int) : Value := match r with
 | some x => .tuple #[mvV x, .bool true, .int .i64 E]
 | none => .tuple #[mv0, .bool false, .int .i64 E]
theorem askE_good {m : List Sol} {gone : List Int} {p : Int} (h : askE m gone [p] = 0) : m.length ≤ 12 ∧ goodM m = true ∧ ∃ G, setI m.length gone = some G ∧ Sub G (allU m.length) ∧ gone = intsL (listU G) ∧ ∃ q : Nat, p = q ∧ q < m.length ∧ G.getLsbD q = false := by
 rw [askE_one_eq] at h
 by_cases hE : errM m = 0
 ·rw [if_neg (by simpa using hE)] at h
  obtain ⟨h12, hg⟩ := errM_zero.1 hE
  by_cases hc : ((setI m.length gone).isSome && decide (0 ≤ p) && decide (p < m.length) && !gone.contains p) = true
  ·simp only [Bool.and_eq_true, decide_eq_true_eq, Bool.not_eq_true'] at hc
   obtain ⟨⟨⟨hs, h0⟩, h1⟩, h2⟩ := hc
   obtain ⟨G, hG⟩ := Option.isSome_iff_exists.1 hs
   have hl := setI_list h12 hG
   obtain ⟨q, rfl⟩ : ∃ q : Nat, p = q := ⟨p.toNat, by omega⟩
   refine ⟨h12, hg, G, hG, setI_sub h12 hG, hl, q, rfl, by omega, ?_⟩
   rw [hl, contains_listU] at h2
   exact h2
  ·rw [if_neg hc] at h; cases h
 ·rw [if_pos hE] at h; exact absurd h hE
theorem firstR_set {m : List Sol} (hg : goodM m = true) (hm : m.length ≤ 12) {p : Nat} (hp : p < m.length) (G : U) : firstR m (listU G) p = goesM m p G := by
 rw [firstR_goes (good_apart hg) hm hp (fun i hi => by have := List.mem_range.1 (List.mem_filter.1 hi).1; exact this), setF_list]
set_option maxHeartbeats 8000000 in
theorem refGo_spec {w : World} {v gv : Value} {m : List Sol} {gone : List Int} {p : Int} (H : SlS w v m) (HG : SlI w gv gone) : Calls Tryz.prog 28 #[v, gv, .int .i64 p] w fun e w' => e = .returned (goV (goO m gone p) (askE m gone [p])) ∧ Below w.heap.size w w' := by
 obtain ⟨R, hR⟩ : ∃ R, R = goO m gone p := ⟨_, rfl⟩
 obtain ⟨E, hE⟩ : ∃ E, E = askE m gone [p] := ⟨_, rfl⟩
 have H1 := Lib.hid fun W (h : Below w.heap.size w W) => refAsked_spec p (H.mono h) (HG.mono h)
 simp only [← hE] at H1
 rw [← hR, ← hE]
 unfold goO at hR
 rw [← hE] at hR
 have HH := Lib.hid (And.intro H (And.intro HG (And.intro hR hE)))
 clear H HG hR hE
 go_enter Tryz.func28, Tryz.ntmps28
 go_wp2_with fail
 obtain ⟨wb, hwb⟩ : ∃ wb, wb = w.alloc (.cells #[.int .i64 0, .int .i64 0, .int .i64 0] 25) := ⟨_, rfl⟩
 have hb : Below w.heap.size w wb := by subst hwb; exact (by repeat (first | with_reducible exact bel_refl _ | with_reducible assumption | with_reducible refine bel_drewN ?_ _ | with_reducible refine bel_drew ?_ | with_reducible refine bel_alloc ?_ _ | with_reducible refine bel_row ?_ ?_ _ | with_reducible refine bel_set ?_ ?_ _ | refine bel_trans ?_ (by with_reducible assumption) | (simp; done) | (simp; omega)))
 have B6 : Blk wb w.heap.size #[.int .i64 0, .int .i64 0, .int .i64 0] 25 := by subst hwb; exact Blk.new _ _ _
 rw [← hwb]
 clear hwb
 refine (H1.out _ hb).mono ?_
 rintro e w2 ⟨rfl, hb2⟩
 have B2 := B6.grow hb2
 have HB := Lib.hid (And.intro (bel_trans hb hb2) B2)
 have hsz : w.heap.size < w2.heap.size := B2.lt
 obtain ⟨N0, hN0⟩ : ∃ N0, N0 = w.heap.size := ⟨_, rfl⟩
 rw [← hN0] at hsz ⊢
 have HN0 := Lib.hid hN0
 clear hb hb2 B6 B2 hN0
 by_cases hE0 : E = 0
 ·obtain ⟨h12, hg, G, hG, hGs, hgl, q, rfl, hq, hqg⟩ := askE_good (HH.out.2.2.2.symm.trans hE0)
  have hRR : R = goesM m q G := by rw [HH.out.2.2.1, if_pos hE0, hG]; rfl
  have HQ := Lib.hid (And.intro hRR (And.intro hE0 (And.intro h12 (And.intro hg (And.intro hgl hq)))))
  have HWO := Lib.hid (WaysOf_spec (HH.out.1.mono HB.out.1) h12)
  subst hE0
  clear hRR h12 hg hG hGs hgl hq hqg
  go_wp2_with fail
  refine HWO.out.mono ?_
  rintro e w3 ⟨hb3, mv, nv, rfl, hW⟩
  have H3 := Lib.hid (And.intro (bel_trans HB.out.1 hb3) (HB.out.2.grow hb3))
  have hgv : SlI w3 gv (intsL (listU G)) := by rw [← HQ.out.2.2.2.2.1]; exact HH.out.2.1.mono H3.out.1
  have HF := Lib.hid (firstR_spec hW hgv HQ.out.2.2.2.2.2)
  rw [firstR_set HQ.out.2.2.2.1 HQ.out.2.2.1 HQ.out.2.2.2.2.2, ← HQ.out.1] at HF
  clear hb3 hW hgv HWO
  go_wp2_with fail
  refine HF.out.mono ?_
  rintro e w4 ⟨rfl, hb4⟩
  have H4 := Lib.hid (And.intro (bel_trans H3.out.1 hb4) (H3.out.2.grow hb4))
  have hs4 : N0 < w4.heap.size := by rw [HN0.out]; exact H4.out.2.lt
  clear hb4 HF
  cases R with
  | none =>
   rw [show fstV none = .tuple #[mv0, .bool false] from rfl]
   have BA := H4.out.2
   rw [← HN0.out] at BA
   have d0 := BA.cell 0; have d1 := BA.cell 1; have d2 := BA.cell 2; have f0 := BA.free 0; have f1 := BA.free 1; have f2 := BA.free 2
   simp only [List.getElem?_toArray, List.getElem?_cons_zero, List.getElem?_cons_succ] at d0 d1 d2
   have HBA := Lib.hid BA; clear BA
   go_wp2_with fail
   have BS := (mv_store HBA.out (.int .i64 0) (.int .i64 0) (.int .i64 0)).alloc (.cells #[.int .i64 0, .int .i64 0, .int .i64 0] 25)
   have s0 := BS.cell 0; have s1 := BS.cell 1; have s2 := BS.cell 2
   simp only [List.getElem?_toArray, List.getElem?_cons_zero, List.getElem?_cons_succ] at s0 s1 s2
   refine bodyPost_ret (v := .tuple #[mv0, .bool false, .int .i64 0]) (by simp [results, Tryz.results28, go_sem, s0, s1, s2]) rfl ⟨rfl, bel_alloc (mv_store_bel H4.out.1 (by rw [HN0.out]; exact Nat.le_refl _) _ _ _) _⟩
  | some x =>
   obtain ⟨x0, x1, x2⟩ := x
   rw [show fstV (some (x0, x1, x2)) = .tuple #[.agg #[.int .i64 (x0 : Int), .int .i64 (x1 : Int), .int .i64 (x2 : Int)], .bool true] from rfl]
   have BA := H4.out.2
   rw [← HN0.out] at BA
   have d0 := BA.cell 0; have d1 := BA.cell 1; have d2 := BA.cell 2; have f0 := BA.free 0; have f1 := BA.free 1; have f2 := BA.free 2
   simp only [List.getElem?_toArray, List.getElem?_cons_zero, List.getElem?_cons_succ] at d0 d1 d2
   have HBA := Lib.hid BA; clear BA
   go_wp2_with fail
   have BS := (mv_store HBA.out (.int .i64 (x0 : Int)) (.int .i64 (x1 : Int)) (.int .i64 (x2 : Int))).alloc (.cells #[.int .i64 (x0 : Int), .int .i64 (x1 : Int), .int .i64 (x2 : Int)] 25)
   have s0 := BS.cell 0; have s1 := BS.cell 1; have s2 := BS.cell 2
   simp only [List.getElem?_toArray, List.getElem?_cons_zero, List.getElem?_cons_succ] at s0 s1 s2
   refine bodyPost_ret (v := .tuple #[.agg #[.int .i64 (x0 : Int), .int .i64 (x1 : Int), .int .i64 (x2 : Int)], .bool true, .int .i64 0]) (by simp [results, Tryz.results28, go_sem, s0, s1, s2]) rfl ⟨rfl, bel_alloc (mv_store_bel H4.out.1 (by rw [HN0.out]; exact Nat.le_refl _) _ _ _) _⟩
 ·have h1 : ¬ (E = 0) := hE0
  have HR := Lib.hid (show R = none by rw [HH.out.2.2.1, if_neg hE0])
  have BA := HB.out.2
  rw [← HN0.out] at BA
  have d0 := BA.cell 0; have d1 := BA.cell 1; have d2 := BA.cell 2; have l5 := BA.lt; have f0 := BA.free 0; have f1 := BA.free 1; have f2 := BA.free 2
  simp only [List.getElem?_toArray, List.getElem?_cons_zero, List.getElem?_cons_succ] at d0 d1 d2
  have HBA := Lib.hid BA; clear BA
  go_wp2_with fail
  have BS := mv_store HBA.out (.int .i64 0) (.int .i64 0) (.int .i64 0)
  have s0 := BS.cell 0; have s1 := BS.cell 1; have s2 := BS.cell 2
  simp only [List.getElem?_toArray, List.getElem?_cons_zero, List.getElem?_cons_succ] at s0 s1 s2
  refine bodyPost_ret (v := .tuple #[mv0, .bool false, .int .i64 E]) (by simp [results, Tryz.results28, go_sem, s0, s1, s2]) rfl ⟨?_, mv_store_bel HB.out.1 (by rw [HN0.out]; exact Nat.le_refl _) _ _ _⟩
  rw [HR.out]; rfl
end Go.Proofs.YtlbhjikkpbknnaaGreatDoor
end
section
namespace Go.Proofs.YtlbhjikkpbknnaaGreatDoor
open Go.RowKit Go.Rel Go.Draw
set_option maxRecDepth 100000
/-! the program's Go; Ready of both -/
set_option maxHeartbeats 8000000 in
theorem goM_spec {w : World} {v gv : Value} {m : List Sol} {gone : List Int} {p : Int} (H : SlS w v m) (HG : SlI w gv gone) : Calls Tryz.prog 27 #[v, gv, .int .i64 p] w fun e w' => e = .returned (goV (goO m gone p) (askE m gone [p])) ∧ Below w.heap.size w w' := by
 obtain ⟨R, hR⟩ : ∃ R, R = goO m gone p := ⟨_, rfl⟩
 obtain ⟨E, hE⟩ : ∃ E, E = askE m gone [p] := ⟨_, rfl⟩
 rw [← hR, ← hE]
 unfold goO at hR
 rw [← hE] at hR
 have HH := Lib.hid (And.intro H (And.intro HG (And.intro hR hE)))
 clear H HG hR hE
 go_enter Tryz.func27, Tryz.ntmps27
 go_wp2_with fail
 obtain ⟨wb, hwb⟩ : ∃ wb, wb = (w.alloc (.cells #[.int .i64 0, .int .i64 0, .int .i64 0] 25)).alloc (.cells #[.int .i64 p] 3) := ⟨_, rfl⟩
 have hb : Below w.heap.size w wb := by subst hwb; exact (by repeat (first | with_reducible exact bel_refl _ | with_reducible assumption | with_reducible refine bel_drewN ?_ _ | with_reducible refine bel_drew ?_ | with_reducible refine bel_alloc ?_ _ | with_reducible refine bel_row ?_ ?_ _ | with_reducible refine bel_set ?_ ?_ _ | refine bel_trans ?_ (by with_reducible assumption) | (simp; done) | (simp; omega)))
 have B6 : Blk wb w.heap.size #[.int .i64 0, .int .i64 0, .int .i64 0] 25 := by subst hwb; exact (Blk.new _ _ _).alloc _
 have B7 : Blk wb (w.heap.size + 1) #[.int .i64 p] 3 := by subst hwb; exact Blk.at _ _ (by simp)
 have hws : wb.heap.size = w.heap.size + 1 + 1 := by subst hwb; simp
 rw [← hwb]
 clear hwb
 refine (asked_spec (of := [p]) (HH.out.1.mono hb) (HH.out.2.1.mono hb) (sl_news B7)).mono ?_
 rintro e w2 ⟨hb2, P, G, rfl, hx, hn⟩
 rw [← HH.out.2.2.2] at hx hn ⊢
 have B2 := B6.grow hb2
 have HB := Lib.hid (And.intro (bel_trans hb hb2) (And.intro B2 (And.intro hb.size hws)))
 have hsz : w.heap.size < w2.heap.size := B2.lt
 obtain ⟨N0, hN0⟩ : ∃ N0, N0 = w.heap.size := ⟨_, rfl⟩
 rw [← hN0] at hsz ⊢
 have HN0 := Lib.hid hN0
 clear hb hb2 B6 B2 B7 hN0 hws
 by_cases hE0 : E = 0
 ·obtain ⟨h12, hg, G', hG, hGs, hgl, q, rfl, hq, hqg⟩ := askE_good (HH.out.2.2.2.symm.trans hE0)
  obtain ⟨_, _, hG2, _, g, mb, rfl, hgb, hmb, hM⟩ := hx hE0
  have hRR : R = goesM m q G := by rw [HH.out.2.2.1, if_pos hE0, hG2]; rfl
  have HF := Lib.hid (goes_spec hM h12 hq G)
  rw [← hRR] at HF
  have HQ := Lib.hid (And.intro hgb hmb)
  subst hE0
  clear hRR h12 hg hG hGs hgl hq hqg hx hn hG2 hM hgb hmb
  go_wp2_with fail
  refine HF.out.mono ?_
  rintro e w4 ⟨rfl, -, hgr⟩
  have h41 := gb_base HB.out.1 hgr (Nat.le_trans HB.out.2.2.1 HQ.out.2)
  have h42 := HB.out.2.1.gb hgr (fun e => by have h1 := HQ.out.2; have h2 := HB.out.2.2.2; simp at e; omega)
  have H4 := Lib.hid (And.intro h41 h42)
  have hs4 : N0 < w4.heap.size := by rw [HN0.out]; exact H4.out.2.lt
  clear hgr HF h41 h42
  cases R with
  | none =>
   rw [show goesR none = .tuple #[mv0, .bool false] from rfl]
   have BA := H4.out.2
   rw [← HN0.out] at BA
   have d0 := BA.cell 0; have d1 := BA.cell 1; have d2 := BA.cell 2; have f0 := BA.free 0; have f1 := BA.free 1; have f2 := BA.free 2
   simp only [List.getElem?_toArray, List.getElem?_cons_zero, List.getElem?_cons_succ] at d0 d1 d2
   have HBA := Lib.hid BA; clear BA
   go_wp2_with fail
   have BS := (mv_store HBA.out (.int .i64 0) (.int .i64 0) (.int .i64 0)).alloc (.cells #[.int .i64 0, .int .i64 0, .int .i64 0] 25)
   have s0 := BS.cell 0; have s1 := BS.cell 1; have s2 := BS.cell 2
   simp only [List.getElem?_toArray, List.getElem?_cons_zero, List.getElem?_cons_succ] at s0 s1 s2
   refine bodyPost_ret (v := .tuple #[mv0, .bool false, .int .i64 0]) (by simp [results, Tryz.results27, go_sem, s0, s1, s2]) rfl ⟨rfl, bel_alloc (mv_store_bel H4.out.1 (by rw [HN0.out]; exact Nat.le_refl _) _ _ _) _⟩
  | some x =>
   obtain ⟨x0, x1, x2⟩ := x
   rw [show goesR (some (x0, x1, x2)) = .tuple #[.agg #[.int .i64 (x0 : Int), .int .i64 (x1 : Int), .int .i64 (x2 : Int)], .bool true] from rfl]
   have BA := H4.out.2
   rw [← HN0.out] at BA
   have d0 := BA.cell 0; have d1 := BA.cell 1; have d2 := BA.cell 2; have f0 := BA.free 0; have f1 := BA.free 1; have f2 := BA.free 2
   simp only [List.getElem?_toArray, List.getElem?_cons_zero, List.getElem?_cons_succ] at d0 d1 d2
   have HBA := Lib.hid BA; clear BA
   go_wp2_with fail
   have BS := (mv_store HBA.out (.int .i64 (x0 : Int)) (.int .i64 (x1 : Int)) (.int .i64 (x2 : Int))).alloc (.cells #[.int .i64 (x0 : Int), .int .i64 (x1 : Int), .int .i64 (x2 : Int)] 25)
   have s0 := BS.cell 0; have s1 := BS.cell 1; have s2 := BS.cell 2
   simp only [List.getElem?_toArray, List.getElem?_cons_zero, List.getElem?_cons_succ] at s0 s1 s2
   refine bodyPost_ret (v := .tuple #[.agg #[.int .i64 (x0 : Int), .int .i64 (x1 : Int), .int .i64 (x2 : Int)], .bool true, .int .i64 0]) (by simp [results, Tryz.results27, go_sem, s0, s1, s2]) rfl ⟨rfl, bel_alloc (mv_store_bel H4.out.1 (by rw [HN0.out]; exact Nat.le_refl _) _ _ _) _⟩
 ·have h1 : ¬ (E = 0) := hE0
  have HR := Lib.hid (show R = none by rw [HH.out.2.2.1, if_neg hE0])
  obtain ⟨rfl, rfl⟩ := hn hE0
  have BA := HB.out.2.1
  rw [← HN0.out] at BA
  have d0 := BA.cell 0; have d1 := BA.cell 1; have d2 := BA.cell 2; have l5 := BA.lt; have f0 := BA.free 0; have f1 := BA.free 1; have f2 := BA.free 2
  simp only [List.getElem?_toArray, List.getElem?_cons_zero, List.getElem?_cons_succ] at d0 d1 d2
  have HBA := Lib.hid BA; clear BA hx hn
  go_wp2_with fail
  have BS := mv_store HBA.out (.int .i64 0) (.int .i64 0) (.int .i64 0)
  have s0 := BS.cell 0; have s1 := BS.cell 1; have s2 := BS.cell 2
  simp only [List.getElem?_toArray, List.getElem?_cons_zero, List.getElem?_cons_succ] at s0 s1 s2
  refine bodyPost_ret (v := .tuple #[mv0, .bool false, .int .i64 E]) (by simp [results, Tryz.results27, go_sem, s0, s1, s2]) rfl ⟨?_, mv_store_bel HB.out.1 (by rw [HN0.out]; exact Nat.le_refl _) _ _ _⟩
  rw [HR.out]; rfl
def rdyL (m : List Sol) (gone : List Int) : List Int := if askE m gone [] = 0 then (match setI m.length gone with
 | some G => intsL (listU (readyM m G))
 | none => []) else []
theorem askE_nil (m : List Sol) (gone : List Int) : askE m gone [] = if errM m ≠ 0 then errM m else if (setI m.length gone).isSome then 0 else 1 := by
 unfold askE
 by_cases hE : errM m = 0
 ·rw [if_neg (by simpa using hE), if_neg (by simpa using hE)]
  cases setI m.length gone <;> rfl
 ·rw [if_pos hE, if_pos hE]
theorem Ready_n {w : World} {v gv : Value} {m : List Sol} {gone : List Int} (H : SlS w v m) (HG : SlI w gv gone) (hT : Tab w) : Calls Tryz.prog 29 #[v, gv] w fun e w' => ∃ u, e = .returned (.tuple #[u, .int .i64 (askE m gone [])]) ∧ SlI w' u (rdyL m gone) ∧ Below w.heap.size w w' := by
 refine (Ready_spec H HG hT).mono ?_
 rintro e w2 ⟨hb, u, rfl, h0, h1⟩
 refine ⟨u, rfl, ?_, hb⟩
 unfold rdyL
 by_cases h : askE m gone [] = 0
 ·obtain ⟨G, hG, hO⟩ := h0 h
  rw [if_pos h, hG]; exact hO.sl
 ·rw [if_neg h, h1 h]; exact sl_nil
theorem readyR_all {m : List Sol} (hg : goodM m = true) (hm : m.length ≤ 12) (G : U) : readyR m (List.range m.length) (listU G) = listU (readyM m G) := by
 have h64 : ∀ i ∈ listU G, i < 64 := fun i hi => List.mem_range.1 (List.mem_filter.1 hi).1
 have := readyR_set (good_apart hg) hm (Sub.refl (allU m.length)) h64
 rw [all_list hm, setF_list] at this
 rw [this]
 congr 1
 apply Sub.antisymm
 ·intro i hi; rw [BitVec.getLsbD_and, Bool.and_eq_true] at hi; exact hi.2
 ·intro i hi; rw [BitVec.getLsbD_and, hi, ready_all' hm G i hi]; rfl
set_option maxHeartbeats 8000000 in
theorem refReady_n {w : World} {v gv : Value} {m : List Sol} {gone : List Int} (H : SlS w v m) (HG : SlI w gv gone) : Calls Tryz.prog 30 #[v, gv] w fun e w' => ∃ u, e = .returned (.tuple #[u, .int .i64 (askE m gone [])]) ∧ SlI w' u (rdyL m gone) ∧ Below w.heap.size w w' := by
 obtain ⟨E, hE⟩ : ∃ E, E = askE m gone [] := ⟨_, rfl⟩
 obtain ⟨R, hR⟩ : ∃ R, R = rdyL m gone := ⟨_, rfl⟩
 rw [← hE, ← hR]
 unfold rdyL at hR
 rw [← hE] at hR
 rw [askE_nil] at hE
 obtain ⟨F, hF⟩ : ∃ F, F = errM m := ⟨_, rfl⟩
 have H1 := Lib.hid (refMould_spec H)
 rw [← hF] at hE H1
 obtain ⟨ai, nn, c, rfl, hnn, hc, hcm⟩ := H.out
 subst hnn
 have HH := Lib.hid (And.intro H (And.intro HG (And.intro hE (And.intro hR hF))))
 clear H HG hE hR hF
 go_enter Tryz.func30, Tryz.ntmps30
 go_wp2_with fail
 refine H1.out.mono ?_
 rintro e w2 ⟨rfl, hb2⟩
 have HB := Lib.hid hb2
 clear hb2
 by_cases hF0 : F = 0
 ·obtain ⟨h12, hg⟩ := errM_zero.1 (HH.out.2.2.2.2.symm.trans hF0)
  have HIS := Lib.hid (IsSet_spec (HH.out.2.1.mono HB.out) h12)
  have HQ := Lib.hid (And.intro h12 hg)
  subst hF0
  clear h12 hg
  go_wp2_with fail
  refine HIS.out.mono ?_
  rintro e w3 ⟨rfl, hb3⟩
  have H3 := Lib.hid (bel_trans HB.out hb3)
  clear hb3 HIS
  cases hS : setI m.length gone with
  | none =>
   have HS := Lib.hid hS; clear hS
   rw [Option.isSome_none]
   have hE1 : E = 1 := by rw [HH.out.2.2.1, HS.out]; rfl
   have HE := Lib.hid hE1; clear hE1
   go_wp2_with fail
   refine bodyPost_ret (v := .tuple #[.slice none 0 0, .int .i64 1]) (by simp [results, Tryz.results30, go_sem]) rfl ⟨_, by rw [HE.out], ?_, H3.out⟩
   rw [HH.out.2.2.2.1, HE.out, if_neg (by decide)]; exact sl_nil
  | some G =>
   have HS := Lib.hid hS; clear hS
   rw [Option.isSome_some]
   have hE1 : E = 0 := by rw [HH.out.2.2.1, HS.out]; rfl
   have HE := Lib.hid hE1; clear hE1
   have HWO := Lib.hid (WaysOf_spec (HH.out.1.mono H3.out) HQ.out.1)
   go_wp2_with fail
   refine HWO.out.mono ?_
   rintro e w4 ⟨hb4, mv, nv, rfl, hW⟩
   have H4 := Lib.hid (And.intro (bel_trans H3.out hb4) hW)
   clear hb4 hW HWO
   have HAL := Lib.hid (all_ref (w := w4) ai m.length c (by have := HQ.out.1; omega))
   go_wp2_with fail
   refine HAL.out.mono ?_
   rintro e w5 ⟨hb5, oa, rfl, hoa⟩
   have hgv : SlI w5 gv (intsL (listU G)) := by rw [← setI_list HQ.out.1 HS.out]; exact HH.out.2.1.mono (bel_trans H4.out.1 hb5)
   have HRD := Lib.hid (readyR_spec (H4.out.2.mono hb5) hoa.sl hgv (fun p hp => List.mem_range.1 hp) (by rw [List.length_range]; have := HQ.out.1; omega))
   rw [readyR_all HQ.out.2 HQ.out.1] at HRD
   have H5 := Lib.hid (bel_trans H4.out.1 hb5)
   clear hb5 hoa hgv HAL
   go_wp2_with fail
   refine HRD.out.mono ?_
   rintro e w6 ⟨hb6, o, rfl, ho⟩
   have H6 := Lib.hid (And.intro (bel_trans H5.out hb6) ho)
   clear hb6 ho HRD
   go_wp2_with fail
   refine bodyPost_ret (v := .tuple #[o, .int .i64 0]) (by simp [results, Tryz.results30, go_sem]) rfl ⟨_, by rw [HE.out], ?_, H6.out.1⟩
   rw [HH.out.2.2.2.1, HE.out, if_pos rfl, HS.out]; exact H6.out.2.sl
 ·have h1 : ¬ (F = 0) := hF0
  have hE1 : E = F := by rw [HH.out.2.2.1, if_pos hF0]
  have HE := Lib.hid hE1; clear hE1
  go_wp2_with fail
  refine bodyPost_ret (v := .tuple #[.slice none 0 0, .int .i64 F]) (by simp [results, Tryz.results30, go_sem]) rfl ⟨_, by rw [HE.out], ?_, HB.out⟩
  rw [HH.out.2.2.2.1, HE.out, if_neg hF0]; exact sl_nil
end Go.Proofs.YtlbhjikkpbknnaaGreatDoor
end
