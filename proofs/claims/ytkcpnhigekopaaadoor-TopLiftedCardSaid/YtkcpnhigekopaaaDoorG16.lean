import Derived.Test.YtkcpnhigekopaaaDoorG15
/-
  Given contracts of functions of the program, and laws for them, one behind the other.
-/
set_option linter.unusedVariables false
set_option linter.unusedSimpArgs false
set_option linter.unusedSectionVars false
section
namespace Go.Proofs.YtkcpnhigekopaaaDoor
open Go.RowKit Go.Rel Go.Draw
set_option maxRecDepth 100000
/-! the order of a set -/
theorem Tab.gb {w w' : World} {r : Option Nat} (h : Tab w) (hg : w.grownBy w' r) (hr : ∀ j, r = some j → ∃ es clock, w.heap[j]? = some (.map es clock)) : Tab w' := fun k hk =>
 hg.cell (h k hk) (fun e => by
  obtain ⟨es, clock, hm⟩ := hr _ e.symm
  exact cell_ne_map (h k hk) hm rfl)
theorem Tab.gbm {w w' : World} {mb : Nat} {m : List Sol} (h : Tab w) (hw : Ways w mb m) (hg : w.grownBy w' (some mb)) : Tab w' := h.gb hg (fun j e => by cases e; exact hw.ismap)
theorem gb_bel2 {w w' w2 : World} {r : Option Nat} (h : w.grownBy w' r) (hb : Below w.heap.size w' w2) : w.grownBy w2 r :=
 ⟨hb.os.trans h.os, hb.tape.trans h.tape, hb.output.trans h.output, Nat.le_trans h.size hb.size, fun i hi hne => (hb.block i hi).trans (h.block i hi hne)⟩
theorem Sl.gbm {w w' : World} {k : Nat} {v : Value} {xs : List (List Value)} {mb : Nat} {m : List Sol} (h : Sl w (k + 1) v xs) (hw : Ways w mb m) (hg : w.grownBy w' (some mb)) (hk : ∀ r ∈ xs, r ≠ [] := by intro r hr; obtain ⟨x, _, rfl⟩ := List.mem_map.1 hr; simp) : Sl w' (k + 1) v xs := by
 obtain ⟨es, clock, hm⟩ := hw.ismap
 obtain ⟨a, c, hv, hc, hx, h | ⟨b, off, ha, hcs⟩⟩ := h
 ·exact ⟨a, c, hv, hc, hx, .inl h⟩
 ·cases xs with
  | nil => exact ⟨a, c, hv, hc, hx, .inl rfl⟩
  | cons r rs =>
   have hr := hk r (by simp)
   obtain ⟨u, us, rfl⟩ := List.exists_cons_of_ne_nil hr
   have hne : b ≠ mb := cell_ne_map (hcs.2 0 0 u (by simp)) hm
   exact ⟨a, c, hv, hc, hx, .inr ⟨b, off, ha, Nat.lt_of_lt_of_le hcs.1 hg.size, fun i j u hu => hg.cell (hcs.2 i j u hu) (by simpa using hne)⟩⟩
abbrev mvC (x : Mo) : Array Value := #[.int .i64 (x.1 : Int), .int .i64 (x.2.1 : Int), .int .i64 (x.2.2 : Int)]
theorem app_move {W : World} {base g : Nat} {v : Value} {xs : List Mo} {x : Mo} (hO : OwnM W base v xs) (hB : Blk W g (mvC x) 50) (hl : xs.length ≤ 1000) (hbase : base ≤ W.heap.size) :
  ∃ v' w', (Builtin.append_ #[23, 23] 23 #[v, .slice (some ⟨g, 0, none⟩) 1 1]).run Tryd.prog W = .ok v' w' ∧ OwnM w' base v' (xs ++ [x]) ∧ W.grownBy w' v.ownBlock := by
 obtain ⟨i0, hi, hz0, hz1, hz2⟩ := info_parts infoMove
 obtain ⟨v', w', hr, hO', hgr, _⟩ := run_append_own (P := Tryd.prog) W base 23 23 50 i0 _ 3 24 Tryd.underlying23 hi hz0 hz1 hz2 rfl (by decide) _ xs.length _ hO ⟨g, 0, none⟩ 1 1 (mvL x) rfl (blk_news hB) (fun x hx => by simp at hx; rcases hx with rfl | rfl | rfl <;> rfl) (by unfold maxLen; omega) (by omega) hbase
 refine ⟨v', w', hr, ?_, hgr⟩
 unfold OwnM
 rw [List.length_append, List.map_append, List.flatten_append]
 exact hO'
def I15 (base t10 : Nat) (ov : Value) (out : List Mo) (x : Mo) (a1 a2 a3 a8 : Bool) (y z r : Value) (W : World) : Prop :=
 base ≤ W.heap.size ∧ (a1 = false → Blk W t10 (mvC x) 50) ∧ (a3 = false → OwnM W base ov out) ∧ (a2 = true → a3 = false → ∃ g, y = .slice (some ⟨g, 0, none⟩) 1 1 ∧ Blk W g (mvC x) 50) ∧ (a3 = true → OwnM W base z (out ++ [x])) ∧ (a8 = true → r = z)
def OrderP (w : World) (mb : Nat) (m : List Sol) (S : U) (e : Ending) (w' : World) : Prop :=
 ((∃ l v, orderM m S = some l ∧ e = .returned (.tuple #[v, .bool true]) ∧ OwnM w' w.heap.size v l) ∨ (orderM m S = none ∧ e = .returned (.tuple #[.slice none 0 0, .bool false]))) ∧ Ways w' mb m ∧ w.grownBy w' (some mb)
set_option maxHeartbeats 8000000 in
theorem order_spec {w : World} {g mb : Nat} {m : List Sol} (hM : Mould w g mb m) (hm : m.length ≤ 12) (hT : Tab w) (S : U) (hS : Sub S (allU m.length)) : Calls Tryd.prog 29 #[.pointer (some ⟨g, 0, none⟩), .int .u64 (uI S)] w (OrderP w mb m S) := by
 have lmb := hM.ways.lt
 have HM := Lib.hid (And.intro hM (And.intro hT hS))
 clear hM hT hS
 go_enter Tryd.func29, Tryd.ntmps29
 go_wp2_with fail
 go_step3
 go_wp2_with fail
 go_step3
 go_wp2_with fail
 go_loopw [6, 7] (fun ov gv wx => ∃ (G : U) (out : List Mo) (n : Nat), gv = .int .u64 (uI G) ∧ Hid (orderF m S n G out = orderM m S ∧ cardU (S &&& ~~~G) < n ∧ Sub G S ∧ OwnM wx w.heap.size ov out ∧ out.length + n ≤ 13 ∧ Ways wx mb m ∧ w.grownBy wx (some mb))) (fun _ gv _ => cardU (S &&& ~~~(BitVec.ofInt 64 (intOf gv))))
 case atStart => exact ⟨0, [], 13, by rw [uI_zero], Lib.hid ⟨rfl, by have := card_sub hm HM.out.2.2; rw [and_not_zero]; omega, sub_zero _, World.ownsRow_nil _ _ _ _, by simp, HM.out.1.ways, gb_refl _ _⟩⟩
 case round =>
  obtain ⟨G, out, n, rfl, HI⟩ := hrel
  obtain ⟨p0, n0, c0, hov⟩ := own_shapeN HI.out.2.2.2.1
  subst hov
  by_cases hGS : G = S
  ·have e0 : (uI G != uI S) = false := by rw [hGS]; simp
   have HG := Lib.hid hGS; clear hGS
   go_wp2_with fail
   rw [Exit.noGoto_ret]
   go_ret2
   refine ⟨.inl ⟨out, _, ?_, rfl, HI.out.2.2.2.1⟩, HI.out.2.2.2.2.2.1, HI.out.2.2.2.2.2.2⟩
   obtain ⟨k, hk⟩ : ∃ k, n = k + 1 := ⟨n - 1, by have := HI.out.2.1; omega⟩
   rw [← HI.out.1, hk, HG.out, orderF_end]
  ·have e0 : (uI G != uI S) = true := by rw [bne_iff_ne]; exact fun h => hGS (uI_inj.1 h)
   have HG := Lib.hid hGS; clear hGS
   have ea := bits_andNot_u S G
   have HT := HM.out.2.1.gbm HM.out.1.ways HI.out.2.2.2.2.2.2
   have HL := Lib.hid (list_spec (S &&& ~~~G) wr HT)
   clear HT
   go_wp2_with fail
   refine HL.out.mono ?_
   rintro e w1 ⟨u, rfl, hL, hb1⟩
   obtain ⟨L, hLe⟩ : ∃ L, L = listU (S &&& ~~~G) := ⟨_, rfl⟩
   rw [← hLe] at hL
   have hLM : ∀ p ∈ L, S.getLsbD p = true ∧ G.getLsbD p = false := fun p hp => by
    rw [hLe, listU_mem, andnot_bit, Bool.and_eq_true] at hp
    exact ⟨hp.1, by simpa using hp.2⟩
   have hL64 : L.length ≤ 64 := by rw [hLe]; exact cardU_le _
   obtain ⟨pu, cu, hu, hcu, hcu2⟩ := own_shape' hL
   subst hu
   have hsl := OwnI.sl hL
   rw [intsL_length] at hcu hsl ⊢
   have hw1 := HI.out.2.2.2.2.2.1.below hb1 HI.out.2.2.2.2.2.1.lt
   have hg1 := gb_below HI.out.2.2.2.2.2.2 hb1
   have hO1 := own_bel HI.out.2.2.2.1 hb1
   have H1 := Lib.hid (And.intro hw1 (And.intro hg1 (And.intro hO1 (And.intro hsl (And.intro hLe hLM)))))
   clear hL hb1 hLe hLM hw1 hg1 hO1 HL hsl
   go_wp2_with fail
   go_loopw [6, 7, 20] (fun ov gv iv wx => ov = (.slice p0 n0 c0) ∧ gv = .int .u64 (uI G) ∧ ∃ k : Nat, k ≤ L.length ∧ iv = .int .i64 k ∧ Hid (nextM m G (L.drop k) = nextM m G L ∧ Ways wx mb m ∧ w.grownBy wx (some mb) ∧ OwnM wx w.heap.size (.slice p0 n0 c0) out ∧ SlI wx (.slice pu L.length cu) (intsL L))) (fun _ _ iv _ => L.length - (intOf iv).toNat)
   case atStart => exact ⟨rfl, rfl, 0, Nat.zero_le _, rfl, Lib.hid ⟨rfl, H1.out.1, H1.out.2.1, H1.out.2.2.1, H1.out.2.2.2.1⟩⟩
   case round =>
    obtain ⟨rfl, rfl, k, hk, rfl, HJ⟩ := hrel
    by_cases hlt : k < L.length
    ·obtain ⟨p, hp⟩ : ∃ p, L[k]? = some p := ⟨_, List.getElem?_eq_getElem hlt⟩
     have hpL := H1.out.2.2.2.2.2 p (List.mem_iff_getElem?.2 ⟨k, hp⟩)
     have hpm : p < m.length := by
      have := HM.out.2.2 p hpL.1
      rw [allU_bit _ _ (by omega)] at this
      simpa using this
     have hdrop : L.drop k = p :: L.drop (k + 1) := by
      obtain ⟨h1, h2⟩ := List.getElem?_eq_some_iff.1 hp
      rw [← h2]; exact List.drop_eq_getElem_cons h1
     obtain ⟨ib, io, hia, hic⟩ : ∃ ib io, pu = some ⟨ib, io, none⟩ ∧ wr.cell? ⟨ib, io + k, none⟩ = some (.int .i64 (p : Int)) := by
      rcases HJ.out.2.2.2.2.cases with ⟨h, _⟩ | ⟨ib, io, c, hv, _, _, _, hcs⟩
      ·have hz : (intsL L).length = 0 := by simpa using congrArg List.length h
       rw [intsL_length] at hz; omega
      ·simp only [Value.slice.injEq] at hv
       obtain ⟨rfl, _, _⟩ := hv
       refine ⟨ib, io, rfl, int_cell hcs (k := k) ?_⟩
       unfold intsL; rw [List.getElem?_map, hp]; rfl
     subst hia
     have lib := block_lt_of_cell hic
     have HP := Lib.hid (And.intro hpL (And.intro hdrop hp)); clear hpL hdrop hp
     have HG2 := Lib.hid (goes_spec (HM.out.1.grown HJ.out.2.2.1 HJ.out.2.1) hm hpm G)
     go_wp2_with fail
     refine HG2.out.mono ?_
     rintro e w4 ⟨rfl, hw4, hg4⟩
     have hO4 : OwnM w4 w.heap.size (.slice p0 n0 c0) out := HJ.out.2.2.2.1.kept hg4 (.inr (fun e => by have := (HJ.out.2.2.2.1.lt _ e).1; omega))
     have hS4 : SlI w4 (.slice (some ⟨ib, io, none⟩) L.length cu) (intsL L) := Sl.gbm HJ.out.2.2.2.2 HJ.out.2.1 hg4
     have H4 := Lib.hid (And.intro hw4 (And.intro (HJ.out.2.2.1.trans hg4) (And.intro hO4 hS4)))
     clear hw4 hg4 hO4 hS4 HG2 hic lib
     obtain ⟨r, hr⟩ : ∃ r, r = goesM m p G := ⟨_, rfl⟩
     have HR := Lib.hid hr
     rw [← hr]
     clear hr
     cases r with
     | none =>
      unfold goesR
      go_wp2_with fail
      go_roundw
      case rel =>
       refine ⟨rfl, rfl, k + 1, by omega, by go_num, Lib.hid ⟨?_, H4.out.1.kept (World.grownBy_alloc _ _ none) (by simp), gb_alloc H4.out.2.1 _, own_bel H4.out.2.2.1 (bel_alloc (bel_refl _) _), Sl.mono H4.out.2.2.2 (bel_alloc (bel_refl _) _)⟩⟩
       rw [← HJ.out.1, HP.out.2.1, nextM_skip m G HR.out.symm]
      case measure => simp [intOf]; omega
     | some x =>
      unfold goesR
      have eo := bits_or_u G (bit p)
      have ep := pow_u p (by omega)
      have HN : Hid (nextM m G L = some (p, x)) := Lib.hid (by rw [← HJ.out.1, HP.out.2.1, nextM_take m G HR.out.symm])
      go_wp2_with fail
      obtain ⟨t10, ht10⟩ : ∃ t10, t10 = w4.heap.size := ⟨_, rfl⟩
      obtain ⟨w5, hw5⟩ : ∃ w5, w5 = w4.alloc (.cells (mvC x) 50) := ⟨_, rfl⟩
      have H5 : Hid (Blk w5 t10 (mvC x) 50 ∧ OwnM w5 w.heap.size (.slice p0 n0 c0) out ∧ Ways w5 mb m ∧ w.grownBy w5 (some mb) ∧ w.heap.size ≤ w5.heap.size ∧ True) := Lib.hid (by
       rw [hw5, ht10]
       exact ⟨Blk.new _ _ _, own_bel H4.out.2.2.1 (bel_alloc (bel_refl _) _), H4.out.1.kept (World.grownBy_alloc _ _ none) (by simp), gb_alloc H4.out.2.1 _, by have := (gb_alloc H4.out.2.1 (.cells (mvC x) 50)).size; exact this, trivial⟩)
      rw [← hw5, ← ht10]
      clear hw5 ht10
      refine wp_region_val (Below w.heap.size) (fun L vs W => I15 w.heap.size t10 (.slice p0 n0 c0) out x (L 1) (L 2) (L 3) (L 8) (vs 2) (vs 3) (vs 8) W) [Is (.slice p0 n0 c0), Is (.agg (mvC x)), AnyV, AnyV, Is (.int .u64 (uI G)), Is (.int .i64 (p : Int)), Is (.int .u64 (uI (bit p))), Is (.int .u64 (uI (G ||| bit p))), AnyV, Is (.int .u64 (uI (G ||| bit p)))] (by kernel_rfl) (by kernel_rfl) rfl (Below.refl w.heap.size) (fun _ _ _ => Below.trans) (stable_mem ⟨fun _ _ _ h _ => h, fun _ _ _ h _ => h, fun _ _ _ h _ => h, fun _ _ _ h _ => h, fun _ _ _ h _ => h, fun _ _ _ h _ => h, fun _ _ _ h _ => h, fun _ _ _ h _ => h, fun _ _ _ h _ => h, fun _ _ _ h _ => h, trivial⟩) w5 (Below.drew (Below.refl _ _)) (⟨H5.out.2.2.2.2.1, fun _ => H5.out.1, fun _ => H5.out.2.1, fun e => (by cases e), fun e => (by cases e), fun e => (by cases e)⟩) ?_
      refine val_cons ?_ (fun v0 => ?_)
      ·intro L vs w1 hvs hat hb hI hF; try simp [factsI, Region.binds, Is] at hF
       have HI2 := Lib.hid hI; clear hI
       go_simp
       try simp [upd]
       exact ⟨Below.refl _ _, HI2.out⟩
      refine val_cons ?_ (fun v1 => ?_)
      ·intro L vs w1 hvs hat hb hI hF; try simp [factsI, Region.binds, Is] at hF
       have h1 := hat.self
       have c0' := (hI.2.1 h1).cell
       have HI2 := Lib.hid (And.intro hI.1 hI.2.2); clear hI h1
       go_simp
       try simp [upd]
       exact ⟨Below.refl _ _, ⟨HI2.out.1, fun e => (by cases e), HI2.out.2⟩⟩
      refine val_cons ?_ (fun v2 => ?_)
      ·intro L vs w1 hvs hat hb hI hF; try simp [factsI, Region.binds, Is] at hF
       have h3 := Lib.hid (hat.later 10 3 (by kernel_rfl))
       have HI2 := Lib.hid hI
       have hs := hI.1
       clear hI
       go_simp
       try simp [upd]
       exact ⟨(bel_alloc (bel_refl _) _).mono hs, ⟨by simp; omega, fun e => (HI2.out.2.1 e).alloc _, fun e => own_bel (HI2.out.2.2.1 h3.out) (bel_alloc (bel_refl _) _), fun _ _ => ⟨_, rfl, Blk.new _ _ _⟩, fun e => (by first | (rw [h3.out] at e; cases e) | cases e), HI2.out.2.2.2.2.2⟩, trivial⟩
      refine val_cons ?_ (fun v3 => ?_)
      ·intro L vs w1 hvs hat hb hI hF; try simp [factsI, Region.binds, Is] at hF
       have h2 := hat.ahead 10 2 (by kernel_rfl)
       have h3 := hat.self
       have h1 := Lib.hid (hat.ahead 10 1 (by kernel_rfl))
       have h8 := Lib.hid (hat.later 10 8 (by kernel_rfl))
       have hv2 : vs 2 = v2 := hvs 2 (by omega)
       have hv0 := hF.1
       subst hv0
       have hs := hI.1
       have hO := hI.2.2.1 h3
       have hOL := hO.lt
       refine Exists.elim (hI.2.2.2.1 h2 h3) (fun g1 hgB => ?_)
       have hg := hgB.1
       have hB := hgB.2
       rw [hv2] at hg
       subst hg
       have HX3 := Lib.hid (And.intro hO (And.intro hB hOL))
       clear hO hB hOL hgB hI hF h2 h3 hv2
       refine Exists.elim (app_move HX3.out.1 HX3.out.2.1 (by have := HI.out.2.2.2.2.1; omega) hs) (fun v' h => Exists.elim h (fun w' h => ?_))
       have hbl : Below w.heap.size w1 w' := (Below.refl _ w1).grown h.2.2 hs (fun k hk => (HX3.out.2.2 k hk).1)
       refine step_append (v := .slice p0 n0 c0) (v7 := .slice (some ⟨g1, 0, none⟩) 1 1) rfl rfl ?_ ?_ h.1 ?_
       ·go_simp
       ·go_simp
       ·exact ⟨hbl, ⟨Nat.le_trans hs hbl.size, fun e => (by have : L 1 = false := e; rw [h1.out] at this; cases this), fun e => (by cases e), fun _ e => (by cases e), fun _ => h.2.1, fun e => (by have : L 8 = true := e; rw [h8.out] at this; cases this)⟩, trivial⟩
      refine val_cons ?_ (fun v4 => ?_)
      ·intro L vs w1 hvs hat hb hI hF; try simp [factsI, Region.binds, Is] at hF
       have HI2 := Lib.hid hI; clear hI
       go_simp
       try simp [upd]
       exact ⟨Below.refl _ _, HI2.out⟩
      refine val_cons ?_ (fun v5 => ?_)
      ·intro L vs w1 hvs hat hb hI hF; try simp [factsI, Region.binds, Is] at hF
       have HI2 := Lib.hid hI; clear hI
       go_simp
       try simp [upd]
       exact ⟨Below.refl _ _, HI2.out⟩
      refine val_cons ?_ (fun v6 => ?_)
      ·intro L vs w1 hvs hat hb hI hF; try simp [factsI, Region.binds, Is] at hF
       have HI2 := Lib.hid hI; clear hI
       go_simp
       try simp [upd]
       exact ⟨Below.refl _ _, HI2.out⟩
      refine val_cons ?_ (fun v7 => ?_)
      ·intro L vs w1 hvs hat hb hI hF; try simp [factsI, Region.binds, Is] at hF
       have HI2 := Lib.hid hI; clear hI
       go_simp
       try simp [upd]
       exact ⟨Below.refl _ _, HI2.out⟩
      refine val_cons ?_ (fun v8 => ?_)
      ·intro L vs w1 hvs hat hb hI hF; try simp [factsI, Region.binds, Is] at hF
       have hv3 := Lib.hid (show vs 3 = v3 from hvs 3 (by omega))
       have HI2 := Lib.hid hI; clear hI
       go_simp
       try simp [upd]
       exact ⟨Below.refl _ _, ⟨HI2.out.1, HI2.out.2.1, HI2.out.2.2.1, HI2.out.2.2.2.1, HI2.out.2.2.2.2.1, fun _ => hv3.out.symm⟩⟩
      refine val_cons ?_ (fun v9 => ?_)
      ·intro L vs w1 hvs hat hb hI hF; try simp [factsI, Region.binds, Is] at hF
       have HI2 := Lib.hid hI; clear hI
       go_simp
       try simp [upd]
       exact ⟨Below.refl _ _, HI2.out⟩
      refine val_nil ?_
      intro vs w1 hvs hb hI hF
      simp [Is, Nat.forall_lt_succ_right] at hF
      have e0 := hF.1.1.1.1.1.1.1.1.1
      have e1 := hF.1.1.1.1.1.1.1.1.2
      have e2 := hF.1.1.1.1.1.1.1.2
      have e3 := hF.1.1.1.1.1.1.2
      have e4 := hF.1.1.1.1.1.2
      have e5 := hF.1.1.1.1.2
      have e6 := hF.1.1.1.2
      have e7 := hF.1.1.2
      have e8 := hF.1.2
      have e9 := hF.2
      clear hF
      simp only [Act.put, List.setIfInBounds_toArray, List.set_cons_succ, List.set_cons_zero, e0, e1, e4, e5, e6, e7, e9]
      clear e0 e1 e4 e5 e6 e7 e9
      have hv3 : vs 3 = v3 := hvs 3 (by omega)
      have hv8 : vs 8 = v8 := hvs 8 (by omega)
      have hO6 := hI.2.2.2.2.1 rfl
      have hr6 := hI.2.2.2.2.2 rfl
      rw [hv8, hv3] at hr6
      rw [hv3, ← hr6] at hO6
      have hw6 := H5.out.2.2.1.below hb lmb
      have hg6 : w.grownBy w1 (some mb) := gb_bel2 H5.out.2.2.2.1 hb
      have H6 := Lib.hid (And.intro hO6 (And.intro hw6 hg6))
      clear hvs hb hI hv3 hv8 hO6 hr6 hw6 hg6 e2 e3 e8
      obtain ⟨nf, hnf⟩ : ∃ nf, n = nf + 1 := ⟨n - 1, by have := HI.out.2.1; omega⟩
      have HNF := Lib.hid hnf
      go_wp2_with fail
      go_roundw
      case rel =>
       have hlt6 := card_add HP.out.1.1 HP.out.1.2
       refine ⟨G ||| bit p, out ++ [x], nf, rfl, Lib.hid ⟨?_, by have := HI.out.2.1; omega, sub_add HI.out.2.2.1 HP.out.1.1, H6.out.1, by have := HI.out.2.2.2.2.1; simp; omega, H6.out.2.1, H6.out.2.2⟩⟩
       rw [← HI.out.1, HNF.out, orderF_go HG.out (by rw [← H1.out.2.2.2.2.1]; exact HN.out)]
      case measure =>
       have hlt6 := card_add HP.out.1.1 HP.out.1.2
       simp only [intOf, ofInt_uI]
       exact hlt6
    ·obtain rfl : k = L.length := by omega
     go_wp2_with fail
     rw [Exit.noGoto_ret]
     go_ret2
     refine ⟨.inr ⟨?_, rfl⟩, HJ.out.2.1, HJ.out.2.2.1⟩
     have hnone : nextM m G L = none := by rw [← HJ.out.1, List.drop_length]; rfl
     obtain ⟨nf, hnf⟩ : ∃ nf, n = nf + 1 := ⟨n - 1, by have := HI.out.2.1; omega⟩
     rw [← HI.out.1, hnf, orderF_stop HG.out (by rw [← H1.out.2.2.2.2.1]; exact hnone)]
end Go.Proofs.YtkcpnhigekopaaaDoor
end
section
namespace Go.Proofs.YtkcpnhigekopaaaDoor
open Go.RowKit Go.Rel Go.Draw
set_option maxRecDepth 100000
/-! first, locks, made -/
def FirstP (w : World) (mb : Nat) (m : List Sol) (S : U) (e : Ending) (w' : World) : Prop := e = .returned (.bool (firstM m S)) ∧ Ways w' mb m ∧ w.grownBy w' (some mb)
theorem first_spec {w : World} {g mb : Nat} {m : List Sol} (hM : Mould w g mb m) (hm : m.length ≤ 12) (hT : Tab w) (S : U) (hS : Sub S (allU m.length)) : Calls Tryd.prog 42 #[.pointer (some ⟨g, 0, none⟩), .int .u64 (uI S)] w (FirstP w mb m S) := by
 have HO := Lib.hid (order_spec hM hm hT S hS)
 clear hM hT
 go_enter Tryd.func42, Tryd.ntmps42
 go_wp2_with fail
 refine HO.out.mono ?_
 rintro e w1 ⟨⟨l, v, hl, rfl, _⟩ | ⟨hl, rfl⟩, hw, hg⟩
 ·have HH := Lib.hid (And.intro hl (And.intro hw hg)); clear hl hw hg
  go_wp2_with fail
  go_ret
  exact ⟨ret_bool (by unfold firstM; rw [HH.out.1]; rfl), HH.out.2⟩
 ·have HH := Lib.hid (And.intro hl (And.intro hw hg)); clear hl hw hg
  go_wp2_with fail
  go_ret
  exact ⟨ret_bool (by unfold firstM; rw [HH.out.1]; rfl), HH.out.2⟩
def LocksP (w : World) (mb : Nat) (m : List Sol) (S : U) (e : Ending) (w' : World) : Prop := e = .returned (.bool (locksM m S)) ∧ Ways w' mb m ∧ w.grownBy w' (some mb)
abbrev mvIV (x : MvI) : Value := .agg #[.int .i64 x.1, .int .i64 x.2.1, .int .i64 x.2.2]
abbrev mvIL (x : MvI) : List Value := [.int .i64 x.1, .int .i64 x.2.1, .int .i64 x.2.2]
abbrev SlX (w : World) (v : Value) (l : List MvI) : Prop := Sl w 3 v (l.map mvIL)
theorem mvI_cells {w : World} {b off : Nat} {l : List MvI} (h : Cells w b off 3 (l.map mvIL)) {k : Nat} {x : MvI} (hx : l[k]? = some x) : w.cell? ⟨b, off + k * 3, none⟩ = some (.int .i64 x.1) ∧ w.cell? ⟨b, off + k * 3 + 1, none⟩ = some (.int .i64 x.2.1) ∧ w.cell? ⟨b, off + k * 3 + 2, none⟩ = some (.int .i64 x.2.2) :=
 ⟨h.2 k 0 _ (by simp [hx]), h.2 k 1 _ (by simp [hx]), h.2 k 2 _ (by simp [hx])⟩
def madeR : Option U → Value
 | some G => .tuple #[.int .u64 (uI G), .bool true]
 | none => .tuple #[.int .u64 0, .bool false]
def MadeP (w : World) (mb : Nat) (m : List Sol) (l : List MvI) (e : Ending) (w' : World) : Prop := e = .returned (madeR (madeM m l)) ∧ Ways w' mb m ∧ w.grownBy w' (some mb)
theorem bitAt1_u (G : U) (k : Nat) : (bits .and .u64 (uI G / (2 : Int) ^ k) 1 == 1) = G.getLsbD k := by
 have e1 : (2 : Int) ^ k = ((2 ^ k : Nat) : Int) := by rw [Int.natCast_pow]; rfl
 have e2 := bits_and_u (G >>> k) 1
 have h1 := beq_u (G >>> k &&& 1) 1
 rw [uI_one] at e2 h1
 rw [e1, shr_u, e2, h1, Bool.eq_iff_iff, beq_iff_eq]
 constructor
 ·intro h
  have := congrArg (fun v : U => v.getLsbD 0) h
  simp only [BitVec.getLsbD_and, BitVec.getLsbD_ushiftRight] at this
  simpa using this
 ·intro h
  apply BitVec.eq_of_getLsbD_eq
  intro i hi
  rw [BitVec.getLsbD_and, BitVec.getLsbD_ushiftRight]
  by_cases e : i = 0
  ·subst e; simp [h]
  ·have : (1 : U).getLsbD i = false := by
    show (1#64).getLsbD i = false
    rw [BitVec.getLsbD_one]; simp [e]
   rw [this, Bool.and_false]
theorem wpStill_no {P : Program} {ops : Array Oper} {w : World} {Q : Act → Prop} {a : Act} {o : Oper} {rest : List Oper} (h : Region.wanted o (yielded ops a.tmps) = false) (hb : ∀ K : Act → Prop, (∀ a, wpStill P ops w Q rest a → K a) → K (a.put o.dst undef)) : wpStill P ops w Q (o :: rest) a :=
 wpStill_step fun K hK => by rw [h]; simpa using hb K hK
theorem wpStill_yes {P : Program} {ops : Array Oper} {w : World} {Q : Act → Prop} {a : Act} {o : Oper} {rest : List Oper} (h : Region.wanted o (yielded ops a.tmps) = true) (hb : ∀ K : Act → Prop, (∀ a, wpStill P ops w Q rest a → K a) → o.still P a w K) : wpStill P ops w Q (o :: rest) a :=
  wpStill_step fun K hK => by rw [h]; simpa using hb K hK
set_option maxHeartbeats 8000000 in
theorem made_spec {w : World} {g mb : Nat} {m : List Sol} (hM : Mould w g mb m) (hm : m.length ≤ 12) {v : Value} {l : List MvI} (hl : SlX w v l) : Calls Tryd.prog 20 #[.pointer (some ⟨g, 0, none⟩), v] w (MadeP w mb m l) := by
 obtain ⟨a, c, rfl, hc, hcm, hcs⟩ := hl
 have HM := Lib.hid (And.intro hM (show SlX w (.slice a (l.map mvIL).length c) l from ⟨a, c, rfl, hc, hcm, hcs⟩))
 clear hM hcs
 rw [List.length_map] at *
 go_enter Tryd.func20, Tryd.ntmps20
 go_wp2_with fail
 go_loopw [11, 6] (fun iv gv wx => ∃ (k : Nat) (G : U), k ≤ l.length ∧ iv = .int .i64 k ∧ gv = .int .u64 (uI G) ∧ Hid (madeF m (l.drop k) G = madeM m l ∧ Ways wx mb m ∧ w.grownBy wx (some mb))) (fun iv _ _ => l.length - (intOf iv).toNat)
 case atStart => exact ⟨0, 0, Nat.zero_le _, rfl, by rw [uI_zero], Lib.hid ⟨rfl, HM.out.1.ways, gb_refl _ _⟩⟩
 case round =>
  obtain ⟨k, G, hk, rfl, rfl, HI⟩ := hrel
  by_cases hlt : k < l.length
  ·obtain ⟨⟨xa, xb, xc⟩, hx⟩ : ∃ x, l[k]? = some x := ⟨_, List.getElem?_eq_getElem hlt⟩
   have hdrop : l.drop k = (xa, xb, xc) :: l.drop (k + 1) := by
    obtain ⟨h1, h2⟩ := List.getElem?_eq_some_iff.1 hx
    rw [← h2]; exact List.drop_eq_getElem_cons h1
   have hsl := Sl.gbm HM.out.2 HM.out.1.ways HI.out.2.2
   obtain ⟨ib, io, hia, hic0, hic1, hic2⟩ : ∃ ib io, a = some ⟨ib, io, none⟩ ∧ wr.cell? ⟨ib, io + k * 3, none⟩ = some (.int .i64 xa) ∧ wr.cell? ⟨ib, io + k * 3 + 1, none⟩ = some (.int .i64 xb) ∧ wr.cell? ⟨ib, io + k * 3 + 2, none⟩ = some (.int .i64 xc) := by
    rcases hsl.cases with ⟨h, _⟩ | ⟨ib, io, c, hv, _, _, _, hcs⟩
    ·have : l = [] := by simpa using h
     subst this; simp at hx
    ·simp only [Value.slice.injEq] at hv
     obtain ⟨rfl, _, _⟩ := hv
     obtain ⟨h0, h1, h2⟩ := mvI_cells hcs hx
     exact ⟨ib, io, rfl, h0, h1, h2⟩
   subst hia
   have lib := block_lt_of_cell hic0
   obtain ⟨pa, pc, hg, _⟩ := (HM.out.1.grown HI.out.2.2 HI.out.2.1).blk
   have cg := hg.cell; have lg := hg.lt
   have HX := Lib.hid hdrop
   clear hdrop hsl hg hx
   have HMV := Lib.hid (fun W => isMove_spec xb xc W)
   have HW : Hid (w.grownBy (wr.alloc (.cells #[.int .i64 xa, .int .i64 xb, .int .i64 xc] 50)) (some mb)) := Lib.hid (gb_alloc HI.out.2.2 _)
   by_cases h1 : xa < 0
   ·have d1 : decide (xa < 0) = true := by simpa using h1
    have H1 := Lib.hid h1; clear h1
    go_wp2_with fail
    refine Go.Rel.region_still_tail 33 (by kernel_rfl) (by kernel_rfl) ?_
    simp only [List.take_succ_cons, List.take_zero, List.drop_succ_cons, List.drop_zero]
    iterate 4 (with_reducible refine wpStill_yes (by kernel_rfl) (fun K hK => ?_); go_simp; refine hK _ ?_; clear hK K)
    iterate 8 (with_reducible refine wpStill_no (by kernel_rfl) (fun K hK => ?_); simp only [Act.put, List.setIfInBounds_toArray, List.set_cons_succ, List.set_cons_zero]; refine hK _ ?_; clear hK K)
    iterate 2 (with_reducible refine wpStill_yes (by kernel_rfl) (fun K hK => ?_); go_simp; refine hK _ ?_; clear hK K)
    iterate 6 (with_reducible refine wpStill_no (by kernel_rfl) (fun K hK => ?_); simp only [Act.put, List.setIfInBounds_toArray, List.set_cons_succ, List.set_cons_zero]; refine hK _ ?_; clear hK K)
    iterate 2 (with_reducible refine wpStill_yes (by kernel_rfl) (fun K hK => ?_); go_simp; refine hK _ ?_; clear hK K)
    iterate 6 (with_reducible refine wpStill_no (by kernel_rfl) (fun K hK => ?_); simp only [Act.put, List.setIfInBounds_toArray, List.set_cons_succ, List.set_cons_zero]; refine hK _ ?_; clear hK K)
    iterate 2 (with_reducible refine wpStill_yes (by kernel_rfl) (fun K hK => ?_); go_simp; refine hK _ ?_; clear hK K)
    iterate 3 (with_reducible refine wpStill_no (by kernel_rfl) (fun K hK => ?_); simp only [Act.put, List.setIfInBounds_toArray, List.set_cons_succ, List.set_cons_zero]; refine hK _ ?_; clear hK K)
    refine wpStill_nil ?_
    go_wp2_with fail
    go_ret2
    refine ⟨?_, HI.out.2.1.kept (gb_drew (gb_alloc (gb_refl _ none) _)) (by simp), gb_drew (gb_alloc HI.out.2.2 _)⟩
    rw [← HI.out.1, HX.out, madeF, if_neg (by unfold goesI; simp only [Bool.and_eq_true, decide_eq_true_eq]; intro h; have := H1.out; omega)]; rfl
   ·obtain ⟨p, rfl⟩ : ∃ p : Nat, xa = p := ⟨xa.toNat, by omega⟩
    have d1 : decide ((p : Int) < 0) = false := by simp
    clear h1
    by_cases h2 : m.length ≤ p
    ·have d2 : decide (m.length ≤ p) = true := by simpa using h2
     have H2 := Lib.hid h2; clear h2
     go_wp2_with fail
     refine Go.Rel.region_still_tail 33 (by kernel_rfl) (by kernel_rfl) ?_
     simp only [List.take_succ_cons, List.take_zero, List.drop_succ_cons, List.drop_zero]
     iterate 14 (with_reducible refine wpStill_yes (by kernel_rfl) (fun K hK => ?_); go_simp; refine hK _ ?_; clear hK K)
     iterate 6 (with_reducible refine wpStill_no (by kernel_rfl) (fun K hK => ?_); simp only [Act.put, List.setIfInBounds_toArray, List.set_cons_succ, List.set_cons_zero]; refine hK _ ?_; clear hK K)
     iterate 2 (with_reducible refine wpStill_yes (by kernel_rfl) (fun K hK => ?_); go_simp; refine hK _ ?_; clear hK K)
     iterate 6 (with_reducible refine wpStill_no (by kernel_rfl) (fun K hK => ?_); simp only [Act.put, List.setIfInBounds_toArray, List.set_cons_succ, List.set_cons_zero]; refine hK _ ?_; clear hK K)
     iterate 2 (with_reducible refine wpStill_yes (by kernel_rfl) (fun K hK => ?_); go_simp; refine hK _ ?_; clear hK K)
     iterate 3 (with_reducible refine wpStill_no (by kernel_rfl) (fun K hK => ?_); simp only [Act.put, List.setIfInBounds_toArray, List.set_cons_succ, List.set_cons_zero]; refine hK _ ?_; clear hK K)
     refine wpStill_nil ?_
     go_wp2_with fail
     go_ret2
     refine ⟨?_, HI.out.2.1.kept (gb_drew (gb_alloc (gb_refl _ none) _)) (by simp), gb_drew (gb_alloc HI.out.2.2 _)⟩
     rw [← HI.out.1, HX.out, madeF, if_neg (by unfold goesI; simp only [Bool.and_eq_true, decide_eq_true_eq]; intro h; have := H2.out; omega)]; rfl
    ·have d2 : decide (m.length ≤ p) = false := by simpa using h2
     have H2 := Lib.hid h2; clear h2
     have eb : (bits BinOp.and IntKind.u64 (uI G / 2 ^ min p 64) 1 == 1) = G.getLsbD p := by rw [Nat.min_eq_left (by have := H2.out; omega)]; exact bitAt1_u G p
     cases hgp : G.getLsbD p
     ·rw [hgp] at eb
      have HGP := Lib.hid hgp; clear hgp
      cases hmv : isMoveI xb xc
      ·rw [hmv] at HMV
       have HV := Lib.hid hmv; clear hmv
       go_wp2_with fail
       refine Go.Rel.region_still_tail 33 (by kernel_rfl) (by kernel_rfl) ?_
       simp only [List.take_succ_cons, List.take_zero, List.drop_succ_cons, List.drop_zero]
       iterate 26 (with_reducible refine wpStill_yes (by kernel_rfl) (fun K hK => ?_); go_simp; refine hK _ ?_; clear hK K)
       (with_reducible refine wpStill_yes (by kernel_rfl) (fun K hK => ?_); go_simp; refine ⟨_, (HMV.out _), hK _ ?_⟩; clear hK K)
       iterate 3 (with_reducible refine wpStill_yes (by kernel_rfl) (fun K hK => ?_); go_simp; refine hK _ ?_; clear hK K)
       iterate 3 (with_reducible refine wpStill_no (by kernel_rfl) (fun K hK => ?_); simp only [Act.put, List.setIfInBounds_toArray, List.set_cons_succ, List.set_cons_zero]; refine hK _ ?_; clear hK K)
       refine wpStill_nil ?_
       go_wp2_with fail
       go_ret2
       refine ⟨?_, HI.out.2.1.kept (gb_drew (gb_alloc (gb_refl _ none) _)) (by simp), gb_drew (gb_alloc HI.out.2.2 _)⟩
       rw [← HI.out.1, HX.out, madeF, if_neg (by unfold goesI; simp only [Bool.and_eq_true, decide_eq_true_eq]; intro h; rw [HV.out] at h; cases h.1.2)]; rfl
      ·rw [hmv] at HMV
       obtain ⟨hb0, hc0⟩ : 0 ≤ xb ∧ 0 ≤ xc := by unfold isMoveI at hmv; simp only [Bool.or_eq_true, Bool.and_eq_true, beq_iff_eq, decide_eq_true_eq] at hmv; omega
       obtain ⟨qb, rfl⟩ : ∃ q : Nat, xb = q := ⟨xb.toNat, by omega⟩
       obtain ⟨qc, rfl⟩ : ∃ q : Nat, xc = q := ⟨xc.toNat, by omega⟩
       clear hb0 hc0
       have HFR := Lib.hid (free_spec (HM.out.1.grown (gb_drew HW.out) (HI.out.2.1.kept (gb_drew (gb_alloc (gb_refl _ none) _)) (by simp))) hm (x := (p, qb, qc)) (List.getElem?_eq_getElem (Nat.lt_of_not_le H2.out)) (movesL_all (by have := H2.out; omega) (movesL_mem (x := ((p : Int), (qb : Int), (qc : Int))) (Int.natCast_nonneg p) hmv)).2 G)
       have HV := Lib.hid hmv; clear hmv
       go_wp2_with fail
       refine Go.Rel.region_still_tail 33 (by kernel_rfl) (by kernel_rfl) ?_
       simp only [List.take_succ_cons, List.take_zero, List.drop_succ_cons, List.drop_zero]
       iterate 26 (with_reducible refine wpStill_yes (by kernel_rfl) (fun K hK => ?_); go_simp; refine hK _ ?_; clear hK K)
       (with_reducible refine wpStill_yes (by kernel_rfl) (fun K hK => ?_); go_simp; refine ⟨_, (HMV.out _), hK _ ?_⟩; clear hK K)
       iterate 6 (with_reducible refine wpStill_yes (by kernel_rfl) (fun K hK => ?_); go_simp; refine hK _ ?_; clear hK K)
       refine wpStill_nil ?_
       go_wp2_with fail
       refine (HFR.out).mono ?_
       rintro e w4 ⟨rfl, hw4, hg4⟩
       cases hfr : freeM m (p, qb, qc) G
       ·have HG4 := Lib.hid (And.intro hw4 (And.intro ((gb_drew HW.out).trans hg4) hfr)); clear hw4 hg4 hfr
        go_wp2_with fail
        go_ret2
        refine ⟨?_, HG4.out.1, HG4.out.2.1⟩
        rw [← HI.out.1, HX.out, madeF, if_neg (by unfold goesI; simp only [Bool.and_eq_true, decide_eq_true_eq]; intro h; have := h.2; rw [show natMv ((p : Int), (qb : Int), (qc : Int)) = (p, qb, qc) from rfl, HG4.out.2.2] at this; cases this)]; rfl
       ·have HG4 := Lib.hid (And.intro hw4 (And.intro ((gb_drew HW.out).trans hg4) hfr))
        have hb8 := (Blk.drew (Blk.new wr #[.int .i64 (p : Int), .int .i64 (qb : Int), .int .i64 (qc : Int)] 50)).gb hg4 (by have := HI.out.2.1.lt; simp; omega)
        have c8 := hb8.cell; have l8 := hb8.lt
        clear hb8
        clear hw4 hg4 hfr
        have es := pow_u p (by have := H2.out; omega)
        have eo := bits_or_u G (bit p)
        go_wp2_with fail
        refine ⟨⟨k + 1, G ||| bit p, by omega, by simp, by rw [Nat.min_eq_left (by have := H2.out; omega), es, eo], Lib.hid ⟨?_, HG4.out.1, HG4.out.2.1⟩⟩, by simp [intOf]; omega⟩
        rw [← HI.out.1, HX.out, madeF, if_pos]
        ·rfl
        ·unfold goesI
         rw [show natMv ((p : Int), (qb : Int), (qc : Int)) = (p, qb, qc) from rfl, HG4.out.2.2]
         simp only [HV.out, Int.toNat_natCast, HGP.out, Bool.and_true, Bool.not_false, Bool.and_eq_true, decide_eq_true_eq]
         have := H2.out
         omega
     ·rw [hgp] at eb
      have HGP := Lib.hid hgp; clear hgp
      go_wp2_with fail
      refine Go.Rel.region_still_tail 33 (by kernel_rfl) (by kernel_rfl) ?_
      simp only [List.take_succ_cons, List.take_zero, List.drop_succ_cons, List.drop_zero]
      iterate 22 (with_reducible refine wpStill_yes (by kernel_rfl) (fun K hK => ?_); go_simp; refine hK _ ?_; clear hK K)
      iterate 6 (with_reducible refine wpStill_no (by kernel_rfl) (fun K hK => ?_); simp only [Act.put, List.setIfInBounds_toArray, List.set_cons_succ, List.set_cons_zero]; refine hK _ ?_; clear hK K)
      iterate 2 (with_reducible refine wpStill_yes (by kernel_rfl) (fun K hK => ?_); go_simp; refine hK _ ?_; clear hK K)
      iterate 3 (with_reducible refine wpStill_no (by kernel_rfl) (fun K hK => ?_); simp only [Act.put, List.setIfInBounds_toArray, List.set_cons_succ, List.set_cons_zero]; refine hK _ ?_; clear hK K)
      refine wpStill_nil ?_
      go_wp2_with fail
      go_ret2
      refine ⟨?_, HI.out.2.1.kept (gb_drew (gb_alloc (gb_refl _ none) _)) (by simp), gb_drew (gb_alloc HI.out.2.2 _)⟩
      rw [← HI.out.1, HX.out, madeF, if_neg (by unfold goesI; simp only [Bool.and_eq_true, decide_eq_true_eq]; intro h; have := h.1.1.2; simp [HGP.out] at this)]; rfl
  ·obtain rfl : k = l.length := by omega
   go_wp2_with fail
   go_ret2
   refine ⟨?_, HI.out.2⟩
   rw [← HI.out.1, List.drop_length]; rfl
end Go.Proofs.YtkcpnhigekopaaaDoor
end
