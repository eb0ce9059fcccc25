import Derived.Test.YtkcpnhigekopaaaDoorG16
/-
  Given contracts of functions of the program, and laws for them, one behind the other.
-/
set_option linter.unusedVariables false
set_option linter.unusedSimpArgs false
set_option linter.unusedSectionVars false
section
namespace Go.Proofs.YtkcpnhigekopaaaDoor
open Go.RowKit Go.Rel Go.Draw
set_option maxRecDepth 100000
/-! rounds -/
theorem own_keptL {W W' : World} {base base2 : Nat} {e : TypeId} {size : Nat} {u o : Value} {n : Nat} {zs ys : List Value} (hu : W.ownsRow base e size u n zs) (hO : OwnL W base2 o ys) (he : e ≠ 34) (hg : W.grownBy W' o.ownBlock) : W'.ownsRow base e size u n zs := by
 obtain ⟨hl, h | ⟨g, cap, cur, hv, hb, hh, hr⟩⟩ := hu
 ·exact ⟨hl, .inl h⟩
 ·refine ⟨hl, .inr ⟨g, cap, cur, hv, hb, ?_, hr⟩⟩
  refine (hg.block g ((Array.getElem?_eq_some_iff.1 hh).1) fun eo => ?_).trans hh
  obtain ⟨_, h | ⟨g2, cap2, cur2, hv2, _, hh2, _⟩⟩ := hO
  ·rw [h.1] at eo; cases eo
  ·rw [hv2] at eo
   cases eo
   rw [hh] at hh2
   injection hh2 with h1
   injection h1 with _ h2
   exact he h2
/-- a list of lists of numbers, of one's own -/
def OwnLL (W : World) (base : Nat) (v : Value) (ls : List (List Nat)) : Prop :=
 ∃ us : List Value, OwnL W base v us ∧ us.length = ls.length ∧ ∀ (i : Nat) (u : Value) (l : List Nat), us[i]? = some u → ls[i]? = some l → OwnI W base u (intsL l)
theorem OwnLL.nil (W : World) (base : Nat) : OwnLL W base (.slice none 0 0) [] := ⟨[], World.ownsRow_nil _ _ _ _, rfl, fun i u l h => by simp at h⟩
theorem OwnLL.bel {W W' : World} {base : Nat} {v : Value} {ls : List (List Nat)} (h : OwnLL W base v ls) (hb : Below W.heap.size W W') : OwnLL W' base v ls := by
 obtain ⟨us, h1, h2, h3⟩ := h
 exact ⟨us, own_bel h1 hb, h2, fun i u l hu hl => own_bel (h3 i u l hu hl) hb⟩
theorem OwnLL.gb {W W' : World} {base mb : Nat} {v : Value} {ls : List (List Nat)} (h : OwnLL W base v ls) (hg : W.grownBy W' (some mb)) (hm : mb < base) : OwnLL W' base v ls := by
 obtain ⟨us, h1, h2, h3⟩ := h
 exact ⟨us, h1.kept hg (.inr (fun e => by have := (h1.lt _ e).1; omega)), h2, fun i u l hu hl => (h3 i u l hu hl).kept hg (.inr (fun e => by have := ((h3 i u l hu hl).lt _ e).1; omega))⟩
theorem card_ready {A G R : U} (hR : R ≠ 0) (h : ∀ i : Nat, R.getLsbD i = true → A.getLsbD i = true ∧ G.getLsbD i = false) : cardU (A &&& ~~~(G ||| R)) < cardU (A &&& ~~~G) := by
 have hs : Sub (A &&& ~~~(G ||| R)) (A &&& ~~~G) := fun i hi => by
  rw [andnot_bit, Bool.and_eq_true, BitVec.getLsbD_or] at hi
  rw [andnot_bit, hi.1]
  have := hi.2
  cases hg : G.getLsbD i
  ·rfl
  ·rw [hg] at this; simp at this
 have h1 := sub_card hs
 refine Nat.lt_of_le_of_ne h1 (fun e => ?_)
 have h2 := sub_card_eq hs (by omega)
 obtain ⟨i, hi⟩ : ∃ i : Nat, R.getLsbD i = true := by
  refine Classical.byContradiction fun hn => hR (BitVec.eq_of_getLsbD_eq fun i _ => ?_)
  cases hr : R.getLsbD i
  ·simp
  ·exact absurd ⟨i, hr⟩ hn
 have h3 := congrArg (fun v : U => v.getLsbD i) h2
 simp only [andnot_bit, BitVec.getLsbD_or, hi, (h i hi).1, (h i hi).2] at h3
 simp at h3
theorem roundsF_none {m : List Sol} {n : Nat} {G : U} {out : List (List Nat)} (h : readyM m G = 0) : roundsF m n G out = (out, allU m.length &&& ~~~G) := by
 cases n
 ·rfl
 ·unfold roundsF; rw [if_pos h]
def RoundsP (w : World) (mb : Nat) (m : List Sol) (e : Ending) (w' : World) : Prop :=
 ∃ v, e = .returned (.tuple #[v, .int .u64 (uI (roundsM m).2)]) ∧ OwnLL w' w.heap.size v (roundsM m).1 ∧ Ways w' mb m ∧ w.grownBy w' (some mb)
set_option maxHeartbeats 8000000 in
theorem rounds_spec' {w : World} {g mb : Nat} {m : List Sol} (hM : Mould w g mb m) (hm : m.length ≤ 12) (hT : Tab w) : Calls Tryd.prog 21 #[.pointer (some ⟨g, 0, none⟩)] w (RoundsP w mb m) := by
 obtain ⟨i0, hi, hz0, hz1, hz2⟩ := info_parts infoInts
 have HI0 := Lib.hid (And.intro hi (And.intro hz0 (And.intro hz1 hz2))); clear hi hz0 hz1 hz2
 have lmb := hM.ways.lt
 have HM := Lib.hid (And.intro hM hT)
 clear hM hT
 go_enter Tryd.func21, Tryd.ntmps21
 go_wp2_with fail
 go_loopw [4, 5] (fun ov gv wx => ∃ (G : U) (out : List (List Nat)) (n : Nat), gv = .int .u64 (uI G) ∧ Hid (roundsF m n G out = roundsM m ∧ cardU (allU m.length &&& ~~~G) < n ∧ Sub G (allU m.length) ∧ OwnLL wx w.heap.size ov out ∧ out.length + n ≤ 13 ∧ Ways wx mb m ∧ w.grownBy wx (some mb))) (fun _ gv _ => cardU (allU m.length &&& ~~~(BitVec.ofInt 64 (intOf gv))))
 case atStart => exact ⟨0, [], 13, by rw [uI_zero], Lib.hid ⟨rfl, by have := card_sub hm (Sub.refl (allU m.length)); rw [and_not_zero]; omega, sub_zero _, .nil _ _, by simp, HM.out.1.ways, gb_refl _ _⟩⟩
 case round =>
  obtain ⟨G, out, n, rfl, HI⟩ := hrel
  have HR := Lib.hid (ready_spec (HM.out.1.grown HI.out.2.2.2.2.2.2 HI.out.2.2.2.2.2.1) hm G)
  go_wp2_with fail
  refine HR.out.mono ?_
  rintro e w4 ⟨rfl, hw4, hg4⟩
  have H4 := Lib.hid (And.intro hw4 (And.intro (HI.out.2.2.2.2.2.2.trans hg4) (HI.out.2.2.2.1.gb hg4 lmb)))
  clear hw4 hg4 HR
  by_cases hr : readyM m G = 0
  ·have e0 : (uI (readyM m G) == 0) = true := by rw [hr, uI_zero]; rfl
   have HRZ := Lib.hid hr; clear hr
   have hMW := HM.out.1.grown H4.out.2.1 H4.out.1
   obtain ⟨pa, pc, hg, _⟩ := hMW.blk
   have cg := hg.cell; have lg := hg.lt
   have HA := fun a c W => Lib.hid (all_spec a m.length c (by omega) W)
   have ea := bits_andNot_u (allU m.length) G
   clear hMW hg
   go_wp2_with fail
   refine (all_spec pa m.length pc (by omega) w4).mono ?_
   rintro e w5 ⟨rfl, hw5⟩
   have hw6 := hw5.symm
   subst hw6
   clear hw5
   go_wp2_with fail
   go_ret2
   have h6 := HI.out.1
   rw [roundsF_none HRZ.out] at h6
   refine ⟨u4, ?_, ?_, H4.out.1, H4.out.2.1⟩
   ·rw [← h6]; rfl
   ·rw [← h6]; exact H4.out.2.2
  ·have e0 : (uI (readyM m G) == 0) = false := by rw [beq_u0]; simpa using hr
   obtain ⟨R, hRe⟩ : ∃ R, R = readyM m G := ⟨_, rfl⟩
   have hRb : ∀ i : Nat, R.getLsbD i = true → (allU m.length).getLsbD i = true ∧ G.getLsbD i = false := fun i hi => by
    rw [hRe, ready_bit m (by omega)] at hi
    simp only [Bool.and_eq_true, decide_eq_true_eq, Bool.not_eq_true'] at hi
    rw [allU_bit _ _ (by omega)]
    exact ⟨by simpa using hi.1.1, hi.2⟩
   rw [← hRe] at e0 hr ⊢
   have HRR := Lib.hid (And.intro hRe (And.intro hr hRb)); clear hRe hr hRb
   have HL := Lib.hid (list_spec R w4 (HM.out.2.gbm HM.out.1.ways H4.out.2.1))
   have eo := bits_or_u G R
   go_wp2_with fail
   refine HL.out.mono ?_
   rintro e w5 ⟨u, rfl, hL, hb1⟩
   obtain ⟨pu, nu, cu, hu⟩ := own_shapeN hL
   subst hu
   have H5 := Lib.hid (And.intro hL (And.intro hb1 (And.intro (H4.out.2.2.bel hb1) (And.intro (H4.out.1.below hb1 H4.out.1.lt) (gb_bel2 H4.out.2.1 (hb1.mono H4.out.2.1.size))))))
   clear hL hb1 HL
   obtain ⟨us, hus⟩ := H5.out.2.2.1
   obtain ⟨p4, n4, c4, hu4⟩ := own_shapeN hus.1
   subst hu4
   have hul : us.length ≤ 13 := by have := hus.2.1; have := HI.out.2.2.2.2.1; omega
   have hbs : w.heap.size ≤ w5.heap.size := H5.out.2.2.2.2.size
   have HX := Lib.hid hus; clear hus
   go_wp2_with (first
    | (at_builtin; refine wpList_append_own _ rfl _ _ 60 rfl w.heap.size 34 i0 (.slice none 0 0) 1 24 Tryd.underlying60 HI0.out.1 HI0.out.2.1 HI0.out.2.2.1 HI0.out.2.2.2 rfl (by decide) _ _ _ rfl (HX.out.1.alloc _) ⟨w5.heap.size, 0, none⟩ 1 1 [.slice pu nu cu] rfl rfl (cell_one_new _ _ _) (fun x hx => by simp at hx; subst hx; rfl) (by unfold maxLen; omega) (by omega) (by simp; omega) ?_; intro v' w7 hown' hgrow7 hnil7))
   have hO7 := HX.out.1.alloc (.cells #[.slice pu nu cu] 34)
   have hb7 : Below w.heap.size w5 w7 := ((bel_alloc (bel_refl w5) (.cells #[.slice pu nu cu] 34)).mono hbs).grown hgrow7 (by simp; omega) (fun j hj => (hO7.lt j hj).1)
   have hLL : OwnLL w7 w.heap.size v' (out ++ [listU R]) := by
    refine ⟨us ++ [.slice pu nu cu], by unfold OwnL; rw [List.length_append]; exact hown', by simp [HX.out.2.1], fun i u l hu hl => ?_⟩
    by_cases hi : i < us.length
    ·rw [List.getElem?_append_left hi] at hu
     rw [List.getElem?_append_left (by rw [← HX.out.2.1]; exact hi)] at hl
     exact own_keptL ((HX.out.2.2 i u l hu hl).alloc _) hO7 (by decide) hgrow7
    ·rw [List.getElem?_append_right (by omega)] at hu
     rw [List.getElem?_append_right (by rw [← HX.out.2.1]; omega), ← HX.out.2.1] at hl
     have h0 : i - us.length = 0 := by
      obtain ⟨h, _⟩ := List.getElem?_eq_some_iff.1 hu
      simp at h; omega
     rw [h0] at hu hl
     simp only [List.getElem?_cons_zero, Option.some.injEq] at hu hl
     subst hu hl
     exact own_keptL ((own_weak H5.out.1 H4.out.2.1.size).alloc _) hO7 (by decide) hgrow7
   obtain ⟨nf, hnf⟩ : ∃ nf, n = nf + 1 := ⟨n - 1, by have := HI.out.2.1; omega⟩
   have hcd := card_ready HRR.out.2.1 HRR.out.2.2
   refine ⟨⟨G ||| R, out ++ [listU R], nf, rfl, Lib.hid ⟨?_, by have := HI.out.2.1; omega, ?_, hLL, by have := HI.out.2.2.2.2.1; simp; omega, H5.out.2.2.2.1.below hb7 lmb, gb_bel2 H5.out.2.2.2.2 hb7⟩⟩, ?_⟩
   ·rw [← HI.out.1, hnf, roundsF, if_neg (by rw [← HRR.out.1]; exact HRR.out.2.1), ← HRR.out.1]
   ·intro i hi
    rw [BitVec.getLsbD_or, Bool.or_eq_true] at hi
    rcases hi with hi | hi
    ·exact HI.out.2.2.1 i hi
    ·exact (HRR.out.2.2 i hi).1
   ·simp only [intOf, ofInt_uI]
    exact hcd
end Go.Proofs.YtkcpnhigekopaaaDoor
end
section
namespace Go.Proofs.YtkcpnhigekopaaaDoor
open Go.RowKit Go.Rel Go.Draw
set_option maxRecDepth 100000
/-! what all begin with: the mould of a list, or the errno -/
def errM (l : List Sol) : Int := if 12 < l.length then 2 else if goodM l then 0 else 1
theorem errM_zero {l : List Sol} : errM l = 0 ↔ l.length ≤ 12 ∧ goodM l = true := by
 unfold errM
 split
 ·constructor
  ·intro h; cases h
  ·intro h; omega
 ·split <;> rename_i h <;> simp [h] <;> omega
def MouldX (w : World) (l : List Sol) (e : Ending) (w' : World) : Prop :=
 Below w.heap.size w w' ∧ ∃ p, e = .returned (.tuple #[p, .int .i64 (errM l)]) ∧ (errM l = 0 → l.length ≤ 12 ∧ ∃ g mb, p = .pointer (some ⟨g, 0, none⟩) ∧ w.heap.size ≤ g ∧ w.heap.size ≤ mb ∧ Mould w' g mb l) ∧ (errM l ≠ 0 → p = .pointer none)
theorem moulded_x {w : World} {v : Value} {l : List Sol} (H : SlS w v l) : Calls Tryd.prog 13 #[v] w (MouldX w l) := by
 by_cases hl : 12 < l.length
 ·refine (moulded_over H hl).mono ?_
  rintro e w' ⟨rfl, rfl⟩
  have he : errM l = 2 := by unfold errM; rw [if_pos hl]
  exact ⟨Below.refl _ _, _, by rw [he], (fun h => by rw [he] at h; cases h), fun _ => rfl⟩
 ·refine (moulded_spec H (by omega)).mono ?_
  rintro e w' (⟨hg, g, mb, rfl, h1, h2, h3, h4⟩ | ⟨hg, rfl, h4⟩)
  ·have he : errM l = 0 := errM_zero.2 ⟨by omega, hg⟩
   exact ⟨h4, _, by rw [he], (fun _ => ⟨by omega, g, mb, rfl, h1, h2, h3⟩), fun h => absurd he h⟩
  ·have he : errM l = 1 := by unfold errM; rw [if_neg hl, hg]; rfl
   exact ⟨h4, _, by rw [he], (fun h => by rw [he] at h; cases h), fun _ => rfl⟩
/-- what grows by a mould's map, and lies above a world, keeps that world -/
theorem gb_base {w w1 w2 : World} {mb : Nat} (h1 : Below w.heap.size w w1) (h2 : w1.grownBy w2 (some mb)) (hm : w.heap.size ≤ mb) : Below w.heap.size w w2 := h1.grown h2 h1.size (fun k hk => by cases hk; exact hm)
theorem OwnLL.weak {W : World} {base base' : Nat} {v : Value} {ls : List (List Nat)} (h : OwnLL W base v ls) (hb : base' ≤ base) : OwnLL W base' v ls := by
 obtain ⟨us, h1, h2, h3⟩ := h
 exact ⟨us, own_weak h1 hb, h2, fun i u l hu hl => own_weak (h3 i u l hu hl) hb⟩
set_option maxHeartbeats 4000000 in
theorem Lock_spec {w : World} {v : Value} {l : List Sol} (H : SlS w v l) (hT : Tab w) : Calls Tryd.prog 8 #[v] w fun e w' => Below w.heap.size w w' ∧ ∃ u, e = .returned (.tuple #[u, .int .i64 (errM l)]) ∧ (errM l = 0 → OwnI w' w.heap.size u (intsL (listU (roundsM l).2))) := by
 have HM := Lib.hid (moulded_x H)
 have HT := Lib.hid hT
 clear H hT
 go_enter Tryd.func8, Tryd.ntmps8
 go_wp2_with fail
 refine HM.out.mono ?_
 rintro e w1 ⟨hb, p, rfl, hx, -⟩
 by_cases h0 : errM l = 0
 ·obtain ⟨hl, g, mb, rfl, hg, hmb, hM⟩ := hx h0
  have HR := Lib.hid (rounds_spec' hM hl (HT.out.grow hb))
  have HB := Lib.hid (And.intro hb (And.intro hmb h0))
  rw [h0]
  clear hb hx h0 hM hl
  go_wp2_with fail
  refine HR.out.mono ?_
  rintro e w2 ⟨u, rfl, hO, hW, hgr⟩
  have hb2 := gb_base HB.out.1 hgr HB.out.2.1
  have HL := Lib.hid (list_spec (roundsM l).2 w2 (HT.out.grow hb2))
  have HB2 := Lib.hid hb2
  clear hO hW hgr hb2
  go_wp2_with fail
  refine HL.out.mono ?_
  rintro e w3 ⟨u, rfl, hO, hb3⟩
  go_wp2_with fail
  go_ret2
  exact ⟨bel_trans HB2.out hb3, u, by rw [HB.out.2.2]; rfl, fun _ => own_weak hO HB2.out.size⟩
 ·have e0 : (errM l != 0) = true := by simpa using h0
  have HB := Lib.hid (And.intro hb h0)
  clear hb hx h0
  go_wp2_with fail
  go_ret2
  exact ⟨HB.out.1, _, by rfl, fun h => absurd h HB.out.2⟩
end Go.Proofs.YtkcpnhigekopaaaDoor
end
section
namespace Go.Proofs.YtkcpnhigekopaaaDoor
open Go.RowKit Go.Rel Go.Draw
set_option maxRecDepth 100000
/-! a set out of a list of numbers -/
def setG (n : Nat) : Option Int → U → List Int → Option U
 | _, s, [] => some s
 | pr, s, x :: l => if 0 ≤ x ∧ x < n ∧ (∀ y, pr = some y → y < x) then setG n (some x) (s ||| bit x.toNat) l else none
def setI (n : Nat) (l : List Int) : Option U := setG n none 0 l
def prevI (l : List Int) (k : Nat) : Option Int := if k = 0 then none else l[k - 1]?
def setV (r : Option U) : Value := .tuple #[.int .u64 (uI (r.getD 0)), .bool r.isSome]
theorem setV_none : setV none = .tuple #[.int .u64 0, .bool false] := by unfold setV; rw [Option.getD_none, uI_zero]; rfl
set_option maxHeartbeats 8000000 in
theorem set_spec {w : World} {a : Option Addr} {n c : Nat} {u : Value} {l : List Int} (H : SlI w u l) (hn : n ≤ 12) : Calls Tryd.prog 37 #[.slice a n c, u] w fun e w' => e = .returned (setV (setI n l)) ∧ w' = w := by
 obtain ⟨b, nn, cc, rfl, hnn, hmx, hH⟩ : ∃ b nn cc, u = .slice b nn cc ∧ nn = l.length ∧ l.length ≤ 9223372036854775807 ∧ ∀ (k : Nat) (x : Int), l[k]? = some x → ∃ ib io, b = some ⟨ib, io, none⟩ ∧ ib < w.heap.size ∧ ∀ (j : Nat) (y : Int), l[j]? = some y → w.cell? ⟨ib, io + j, none⟩ = some (.int .i64 y) := by
  rcases H.cases with ⟨h, a, c, rfl, hc⟩ | ⟨ib, io, c, hv, hq1, hq2, _, hcs⟩
  ·have : l = [] := by simpa using h
   subst this
   exact ⟨_, _, _, rfl, rfl, by simp, fun k x hx => by simp at hx⟩
  ·subst hv
   exact ⟨_, _, _, rfl, List.length_map _, by simp at hq1 hq2; omega, fun k x hx => ⟨ib, io, rfl, hcs.1, fun j y hy => int_cell hcs hy⟩⟩
 subst hnn
 have HH := Lib.hid hH
 clear hH H
 go_enter Tryd.func37, Tryd.ntmps37
 go_wp2_with fail
 go_loopw [6, 11] (fun sv iv wx => ∃ (k : Nat) (G : U), k ≤ l.length ∧ iv = .int .i64 k ∧ sv = .int .u64 (uI G) ∧ Hid (setG n (prevI l k) G (l.drop k) = setI n l) ∧ wx = w) (fun _ iv _ => l.length - (intOf iv).toNat)
 case atStart => exact ⟨0, 0, Nat.zero_le _, rfl, by rw [uI_zero], Lib.hid rfl, rfl⟩
 case round =>
  obtain ⟨k, G, hk, rfl, rfl, HI, hwr⟩ := hrel
  subst hwr
  by_cases hlt : k < l.length
  ·obtain ⟨x, hx⟩ : ∃ x, l[k]? = some x := ⟨_, List.getElem?_eq_getElem hlt⟩
   have hdrop : l.drop k = x :: l.drop (k + 1) := by
    obtain ⟨h1, h2⟩ := List.getElem?_eq_some_iff.1 hx
    rw [← h2]; exact List.drop_eq_getElem_cons h1
   obtain ⟨ib, io, rfl, lib, hc⟩ := HH.out k x hx
   have hck := hc k x hx
   have HX := Lib.hid (And.intro hdrop hx)
   clear hdrop hx
   by_cases h1 : x < 0
   ·have d1 : decide (x < 0) = true := by simpa using h1
    have H1 := Lib.hid h1; clear h1 hc
    go_wp2_with fail
    go_ret2
    refine ⟨?_, rfl⟩
    rw [← HI.out, HX.out.1, setG, if_neg (by intro h; have := H1.out; omega), setV_none]; rfl
   ·obtain ⟨p, rfl⟩ : ∃ p : Nat, x = p := ⟨x.toNat, by omega⟩
    have d1 : decide ((p : Int) < 0) = false := by simp
    clear h1
    by_cases h2 : n ≤ p
    ·have d2 : decide (n ≤ p) = true := by simpa using h2
     have H2 := Lib.hid h2; clear h2 hc
     go_wp2_with fail
     go_ret2
     refine ⟨?_, rfl⟩
     rw [← HI.out, HX.out.1, setG, if_neg (by intro h; have := H2.out; omega), setV_none]; rfl
    ·have d2 : decide (n ≤ p) = false := by simpa using h2
     have H2 := Lib.hid h2; clear h2
     have es := pow_u p (by have := H2.out; omega)
     have em : min p 64 = p := Nat.min_eq_left (by have := H2.out; omega)
     have eo := bits_or_u G (bit p)
     by_cases h3 : k = 0
     ·subst h3
      clear hc
      rw [Nat.add_zero] at hck
      go_wp2_with fail
      refine ⟨⟨1, G ||| bit p, by omega, rfl, rfl, Lib.hid ?_, trivial⟩, by simp [intOf]; omega⟩
      rw [← HI.out, HX.out.1, setG, if_pos ⟨by omega, by have := H2.out; omega, fun z hz => by unfold prevI at hz; rw [if_pos rfl] at hz; cases hz⟩]
      unfold prevI
      rw [if_neg (by omega), show 1 - 1 = 0 from rfl, HX.out.2]; rfl
     ·obtain ⟨j, rfl⟩ : ∃ j, k = j + 1 := ⟨k - 1, by omega⟩
      obtain ⟨y, hy⟩ : ∃ y, l[j]? = some y := ⟨_, List.getElem?_eq_getElem (by omega)⟩
      have hcy := hc j y hy
      have jl : j < l.length := by omega
      have j0 : (0 : Int) < (j : Int) + 1 := by omega
      clear hc
      by_cases h4 : (p : Int) ≤ y
      ·have d4 : decide ((p : Int) ≤ y) = true := by simpa using h4
       have H4 := Lib.hid (And.intro h3 (And.intro hy h4)); clear h3 hy h4
       go_wp2_with fail
       go_ret2
       refine ⟨?_, rfl⟩
       rw [← HI.out, HX.out.1, setG, if_neg (by intro h; have h5 := h.2.2 y (by unfold prevI; rw [if_neg (by omega)]; exact H4.out.2.1); have := H4.out.2.2; omega), setV_none]; rfl
      ·have d4 : decide ((p : Int) ≤ y) = false := by simpa using h4
       have H4 := Lib.hid (And.intro h3 (And.intro hy h4)); clear h3 hy h4
       go_wp2_with fail
       refine ⟨⟨j + 1 + 1, G ||| bit p, by omega, by simp, rfl, Lib.hid ?_, trivial⟩, by simp [intOf]; omega⟩
       rw [← HI.out, HX.out.1, setG, if_pos ⟨by omega, by have := H2.out; omega, fun z hz => by unfold prevI at hz; rw [if_neg (by omega)] at hz; rw [show j + 1 - 1 = j from rfl, H4.out.2.1] at hz; cases hz; have := H4.out.2.2; omega⟩]
       unfold prevI
       rw [if_neg (by omega), show j + 1 + 1 - 1 = j + 1 from rfl, HX.out.2]; rfl
  ·obtain rfl : k = l.length := by omega
   go_wp2_with fail
   go_ret2
   refine ⟨?_, rfl⟩
   rw [← HI.out, List.drop_length]; rfl
end Go.Proofs.YtkcpnhigekopaaaDoor
end
section
namespace Go.Proofs.YtkcpnhigekopaaaDoor
open Go.RowKit Go.Rel Go.Draw
set_option maxRecDepth 100000
/-! what is asked of: a list of pieces that are there and not gone -/
def askF (n : Nat) (G : U) (x : Int) : Bool := decide (x < 0) || decide ((n : Int) ≤ x) || G.getLsbD x.toNat
set_option maxHeartbeats 8000000 in
theorem asked1_spec (x : Int) {W : World} {bv bg g n c : Nat} {pa : Option Addr} {G : U} {cs : Array Value} {ty : TypeId} (Bv : Blk W bv #[.pointer (some ⟨g, 0, none⟩)] 42) (Bg : Blk W bg #[.int .u64 (uI G)] 57) (Bm : Blk W g cs ty) (hcs : cs[0]? = some (.slice pa n c)) (hn : n ≤ 12) :
  Calls Tryd.prog 38 #[.int .i64 x, .pointer (some ⟨bv, 0, none⟩), .pointer (some ⟨bg, 0, none⟩)] W fun e w' => e = .returned (.bool (askF n G x)) ∧ w' = W := by
 have cv := Bv.cell; have lv := Bv.lt
 have cg := Bg.cell; have lg := Bg.lt
 have cm : W.cell? ⟨g, 0, none⟩ = some (.slice pa n c) := by rw [Bm.cell, hcs]
 have lm := Bm.lt
 clear Bv Bg Bm hcs
 by_cases h1 : x < 0
 ·have d1 : decide (x < 0) = true := by simpa using h1
  have e1 : askF n G x = true := by unfold askF; rw [d1]; rfl
  rw [e1]
  clear h1 e1
  go_enter Tryd.func38, Tryd.ntmps38
  go_wp2_with fail
  go_ret
  exact ⟨rfl, rfl⟩
 ·obtain ⟨p, rfl⟩ : ∃ p : Nat, x = p := ⟨x.toNat, by omega⟩
  have d1 : decide ((p : Int) < 0) = false := by simp
  clear h1
  by_cases h2 : n ≤ p
  ·have d2 : decide (n ≤ p) = true := by simpa using h2
   have e1 : askF n G p = true := by unfold askF; rw [d1, show decide ((n : Int) ≤ p) = true by simpa using h2]; rfl
   rw [e1]
   clear h2 e1
   go_enter Tryd.func38, Tryd.ntmps38
   go_wp2_with fail
   go_ret
   exact ⟨rfl, rfl⟩
  ·have d2 : decide (n ≤ p) = false := by simpa using h2
   have eb : (bits BinOp.and IntKind.u64 (uI G / 2 ^ min p 64) 1 == 1) = G.getLsbD p := by rw [Nat.min_eq_left (by omega)]; exact bitAt1_u G p
   have e1 : askF n G p = G.getLsbD p := by unfold askF; rw [d1, show decide ((n : Int) ≤ p) = false by simpa using h2]; rfl
   rw [e1]
   clear h2 e1
   go_enter Tryd.func38, Tryd.ntmps38
   go_wp2_with fail
   go_ret
   exact ⟨rfl, rfl⟩
set_option maxHeartbeats 8000000 in
theorem index_ints {v : Value} {l : List Int} {c0 c1 : Value} {p : Int → Bool} {w : World} (h : SlI w v l)
  (hf : ∀ x ∈ l, Calls Tryd.prog 38 #[.int .i64 x, c0, c1] w fun e w' => e = .returned (.bool (p x)) ∧ w' = w) :
  Calls Tryd.prog 27 #[v, .func (.func 38) #[] #[c0, c1]] w fun e w' => w' = w ∧ ∃ i : Int, e = .returned (.int .i64 i) ∧ (0 ≤ i ↔ l.any p = true) := by
 obtain ⟨b, nn, cc, rfl, hnn, hmx, hH⟩ : ∃ b nn cc, v = .slice b nn cc ∧ nn = l.length ∧ l.length ≤ 9223372036854775807 ∧ ∀ (k : Nat) (x : Int), l[k]? = some x → ∃ ib io, b = some ⟨ib, io, none⟩ ∧ ib < w.heap.size ∧ ∀ (j : Nat) (y : Int), l[j]? = some y → w.cell? ⟨ib, io + j, none⟩ = some (.int .i64 y) := by
  rcases h.cases with ⟨hz, a, c, rfl, hc⟩ | ⟨ib, io, c, hv, hq1, hq2, _, hcs⟩
  ·have : l = [] := by simpa using hz
   subst this
   exact ⟨_, _, _, rfl, rfl, by simp, fun k x hx => by simp at hx⟩
  ·subst hv
   exact ⟨_, _, _, rfl, List.length_map _, by simp at hq1 hq2; omega, fun k x hx => ⟨ib, io, rfl, hcs.1, fun j y hy => int_cell hcs hy⟩⟩
 subst hnn
 have HH := Lib.hid (And.intro hH hf)
 clear hH h hf
 go_enter Tryd.func27, Tryd.ntmps27
 go_wp2_with fail
 go_loopw [8] (fun iv wx => ∃ (k : Nat), k ≤ l.length ∧ iv = .int .i64 k ∧ Hid (l.any p = (l.drop k).any p) ∧ wx = w) (fun iv _ => l.length - (intOf iv).toNat)
 case atStart => exact ⟨0, Nat.zero_le _, rfl, Lib.hid rfl, rfl⟩
 case round =>
  obtain ⟨k, hk, rfl, HI, hwr⟩ := hrel
  subst hwr
  by_cases hlt : k < l.length
  ·obtain ⟨x, hx⟩ : ∃ x, l[k]? = some x := ⟨_, List.getElem?_eq_getElem hlt⟩
   have hdrop : l.drop k = x :: l.drop (k + 1) := by
    obtain ⟨h1, h2⟩ := List.getElem?_eq_some_iff.1 hx
    rw [← h2]; exact List.drop_eq_getElem_cons h1
   obtain ⟨ib, io, rfl, lib, hc⟩ := HH.out.1 k x hx
   have hck := hc k x hx
   have HF := Lib.hid (HH.out.2 x (List.mem_of_getElem? hx))
   have HX := Lib.hid hdrop
   clear hdrop hx hc
   go_wp2_with fail
   refine HF.out.mono ?_
   rintro e w2 ⟨rfl, hw2⟩
   have hw3 := hw2.symm
   subst hw3
   clear hw2
   cases hp : p x
   ·have HP := Lib.hid hp; clear hp
    go_wp2_with fail
    refine ⟨⟨k + 1, by omega, by simp, Lib.hid ?_, trivial⟩, by simp [intOf]; omega⟩
    rw [HI.out, HX.out, List.any_cons, HP.out, Bool.false_or]
   ·have HP := Lib.hid hp; clear hp
    go_wp2_with fail
    go_ret
    refine ⟨rfl, _, rfl, ?_⟩
    rw [HI.out, HX.out, List.any_cons, HP.out]
    simp
  ·obtain rfl : k = l.length := by omega
   go_wp2_with fail
   go_ret
   refine ⟨rfl, _, rfl, ?_⟩
   rw [HI.out, List.drop_length]
   simp
set_option maxHeartbeats 8000000 in
theorem contains_ints {v : Value} {l : List Int} {c0 c1 : Value} {p : Int → Bool} {w : World} (h : SlI w v l)
  (hf : ∀ x ∈ l, Calls Tryd.prog 38 #[.int .i64 x, c0, c1] w fun e w' => e = .returned (.bool (p x)) ∧ w' = w) :
  Calls Tryd.prog 11 #[v, .func (.func 38) #[] #[c0, c1]] w fun e w' => e = .returned (.bool (l.any p)) ∧ w' = w := by
 have HI := Lib.hid (index_ints h hf)
 clear h hf
 go_enter Tryd.func11, Tryd.ntmps11
 go_wp2_with fail
 refine HI.out.mono ?_
 rintro e w2 ⟨hw, i, rfl, hi⟩
 have hw3 := hw.symm
 subst hw3
 have HX := Lib.hid hi
 clear hw hi
 go_wp2_with fail
 go_ret
 refine ⟨ret_bool ?_, rfl⟩
 rw [Bool.eq_iff_iff, decide_eq_true_eq]
 exact HX.out
end Go.Proofs.YtkcpnhigekopaaaDoor
end
section
namespace Go.Proofs.YtkcpnhigekopaaaDoor
open Go.RowKit Go.Rel Go.Draw
set_option maxRecDepth 100000
def askE (l : List Sol) (gone of : List Int) : Int :=
 if errM l ≠ 0 then errM l else match setI l.length gone with
  | none => 1
  | some G => if of.any (askF l.length G) then 1 else 0
theorem askE_zero {l : List Sol} {gone of : List Int} {G : U} (h : errM l = 0) (hs : setI l.length gone = some G) (ha : of.any (askF l.length G) = false) : askE l gone of = 0 := by
 unfold askE; rw [if_neg (by simpa using h), hs]; simp [ha]
def AskedP (w : World) (l : List Sol) (gone of : List Int) (e : Ending) (w' : World) : Prop :=
 Below w.heap.size w w' ∧ ∃ p G, e = .returned (.tuple #[p, .int .u64 (uI G), .int .i64 (askE l gone of)]) ∧ (askE l gone of = 0 → l.length ≤ 12 ∧ errM l = 0 ∧ setI l.length gone = some G ∧ of.any (askF l.length G) = false ∧ ∃ g mb, p = .pointer (some ⟨g, 0, none⟩) ∧ w.heap.size ≤ g ∧ w.heap.size ≤ mb ∧ Mould w' g mb l) ∧ (askE l gone of ≠ 0 → p = .pointer none ∧ G = 0)
set_option maxHeartbeats 8000000 in
theorem asked_spec {w : World} {v gv ov : Value} {l : List Sol} {gone of : List Int} (H : SlS w v l) (HG : SlI w gv gone) (HO : SlI w ov of) : Calls Tryd.prog 24 #[v, gv, ov] w (AskedP w l gone of) := by
 have HM := Lib.hid (moulded_x H)
 have HS := Lib.hid (And.intro HG HO)
 clear H HG HO
 go_enter Tryd.func24, Tryd.ntmps24
 go_wp2_with fail
 refine HM.out.mono ?_
 rintro e w1 ⟨hb, p, rfl, hx, hn⟩
 by_cases h0 : errM l = 0
 ·obtain ⟨hl, g, mb, rfl, hg, hmb, hM⟩ := hx h0
  have HB := Lib.hid (And.intro hb (And.intro hg (And.intro hmb (And.intro h0 (And.intro hl hM)))))
  obtain ⟨pa, pc, hB, _⟩ := hM.blk
  have cg := hB.cell; have lg := hB.lt
  rw [h0]
  clear hb hx h0 hM hl hg hmb hB
  have HSS := fun W (hb : Below w.heap.size w W) => Lib.hid (set_spec (a := pa) (n := l.length) (c := pc) (HS.out.1.mono hb) HB.out.2.2.2.2.1)
  go_wp2_with fail
  have hb2 : Below w1.heap.size w1 (w1.alloc (.cells #[.pointer (some ⟨g, 0, none⟩)] 42)) := bel_alloc (bel_refl _) _
  refine (HSS _ (bel_trans HB.out.1 hb2)).out.mono ?_
  rintro e w3 ⟨rfl, hw3⟩
  have hw4 := hw3.symm
  subst hw4
  clear hw3 hb2 HSS
  cases hs : setI l.length gone with
  | none =>
   have HSN := Lib.hid hs
   rw [setV_none]
   clear hs
   go_wp2_with fail
   refine bodyPost_ret (v := .tuple #[.pointer none, .int .u64 0, .int .i64 1]) (by simp [results, Tryd.results24, go_sem]) rfl ?_
   have he : askE l gone of = 1 := by unfold askE; rw [if_neg (by simpa using HB.out.2.2.2.1), HSN.out]
   exact ⟨bel_trans HB.out.1 (bel_alloc (bel_alloc (bel_refl _) _) _), _, 0, by rw [he, uI_zero], (fun h => by rw [he] at h; cases h), fun _ => ⟨rfl, rfl⟩⟩
  | some G =>
   have HSN := Lib.hid hs
   unfold setV
   simp only [Option.getD_some, Option.isSome_some]
   clear hs
   go_wp2_with fail
   obtain ⟨w5, hw5⟩ : ∃ w5, w5 = (w1.alloc (.cells #[.pointer (some ⟨g, 0, none⟩)] 42)).alloc (.cells #[.int .u64 (uI G)] 57) := ⟨_, rfl⟩
   have H5 : Hid (Blk w5 w1.heap.size #[.pointer (some ⟨g, 0, none⟩)] 42 ∧ Blk w5 (w1.heap.size + 1) #[.int .u64 (uI G)] 57 ∧ Below w1.heap.size w1 w5) := Lib.hid (by
    subst hw5
    exact ⟨(Blk.new _ _ _).alloc _, by have := Blk.new (w1.alloc (.cells #[.pointer (some ⟨g, 0, none⟩)] 42)) #[.int .u64 (uI G)] 57; simpa using this, bel_alloc (bel_alloc (bel_refl _) _) _⟩)
   rw [← hw5]
   clear hw5 hn
   have HBM : Hid (∃ cs ty, Blk w5 g cs ty ∧ cs[0]? = some (.slice pa l.length pc)) := Lib.hid (by
    obtain ⟨pa', pc', hB, _⟩ := HB.out.2.2.2.2.2.blk
    have h1 := cg 0
    rw [hB.cell 0] at h1
    exact ⟨_, _, hB.grow H5.out.2.2, h1⟩)
   have HC := Lib.hid (contains_ints (c0 := .pointer (some ⟨w1.heap.size, 0, none⟩)) (c1 := .pointer (some ⟨w1.heap.size + 1, 0, none⟩)) (p := askF l.length G) (w := w5) (HS.out.2.mono (bel_trans HB.out.1 H5.out.2.2)) (fun x _ => by
    obtain ⟨cs, ty, h1, h2⟩ := HBM.out
    exact asked1_spec x H5.out.1 H5.out.2.1 h1 h2 HB.out.2.2.2.2.1))
   clear cg lg
   refine HC.out.mono ?_
   rintro e w6 ⟨rfl, hw6⟩
   have hw7 := hw6.symm
   subst hw7
   clear hw6
   have c1 := H5.out.1.cell; have l1 := H5.out.1.lt
   have c2 := H5.out.2.1.cell; have l2 := H5.out.2.1.lt
   cases ha : of.any (askF l.length G)
   ·have HA := Lib.hid ha; clear ha
    go_wp2_with fail
    obtain ⟨N0, hN0⟩ : ∃ N0, N0 = w1.heap.size := ⟨_, rfl⟩
    rw [← hN0] at c1 c2 l1 l2 ⊢
    have HN := Lib.hid hN0; clear hN0
    refine wp_region_val Grows (fun _ _ _ => True) [Is (.pointer (some ⟨g, 0, none⟩)), Is (.int .u64 (uI G)), Is (.pointer (some ⟨g, 0, none⟩)), Is (.int .u64 (uI G)), Is (.int .i64 0)] (by kernel_rfl) (by kernel_rfl) rfl Grows.refl (fun _ _ _ => Grows.trans) (stable_mem ⟨fun _ _ _ h _ => h, fun _ _ _ h _ => h, fun _ _ _ h _ => h, fun _ _ _ h _ => h, fun _ _ _ h _ => h, trivial⟩) w5 (Below.drew (Below.refl _ _)) trivial ?_
    refine val_cons ?_ (fun v0 => ?_)
    ·intro L vs w1 hvs hat hb hI hF; try simp [factsI, Region.binds, Is] at hF
     have hc := (Grows.cells hb).1
     clear hI
     go_simp
     try simp [upd]
     try exact Grows.refl _
    refine val_cons ?_ (fun v1 => ?_)
    ·intro L vs w1 hvs hat hb hI hF; try simp [factsI, Region.binds, Is] at hF
     have hc := (Grows.cells hb).1
     clear hI
     go_simp
     try simp [upd]
     try exact Grows.refl _
    refine val_cons ?_ (fun v2 => ?_)
    ·intro L vs w1 hvs hat hb hI hF; try simp [factsI, Region.binds, Is] at hF
     have hc := (Grows.cells hb).1
     clear hI
     go_simp
     try simp [upd]
     try exact Grows.refl _
    refine val_cons ?_ (fun v3 => ?_)
    ·intro L vs w1 hvs hat hb hI hF; try simp [factsI, Region.binds, Is] at hF
     have hc := (Grows.cells hb).1
     clear hI
     go_simp
     try simp [upd]
     try exact Grows.refl _
    refine val_cons ?_ (fun v4 => ?_)
    ·intro L vs w1 hvs hat hb hI hF; try simp [factsI, Region.binds, Is] at hF
     have hc := (Grows.cells hb).1
     clear hI
     go_simp
     try simp [upd]
     try exact Grows.refl _
    refine val_nil ?_
    intro vs w1 hvs hb hI hF
    simp [Is, Nat.forall_lt_succ_right] at hF
    simp only [Act.put, List.setIfInBounds_toArray, List.set_cons_succ, List.set_cons_zero, hF]
    clear hF
    go_wp2_with fail
    refine bodyPost_ret (v := .tuple #[.pointer (some ⟨g, 0, none⟩), .int .u64 (uI G), .int .i64 0]) (by simp [results, Tryd.results24, go_sem]) rfl ?_
    have he := askE_zero (of := of) HB.out.2.2.2.1 HSN.out HA.out
    exact ⟨bel_trans HB.out.1 (bel_trans H5.out.2.2 hb), _, G, by rw [he], (fun _ => ⟨HB.out.2.2.2.2.1, HB.out.2.2.2.1, HSN.out, HA.out, g, mb, rfl, HB.out.2.1, HB.out.2.2.1, HB.out.2.2.2.2.2.grow (bel_trans H5.out.2.2 hb)⟩), fun h => absurd he h⟩
   ·have HA := Lib.hid ha; clear ha
    go_wp2_with fail
    refine bodyPost_ret (v := .tuple #[.pointer none, .int .u64 0, .int .i64 1]) (by simp [results, Tryd.results24, go_sem]) rfl ?_
    have he : askE l gone of = 1 := by unfold askE; rw [if_neg (by simpa using HB.out.2.2.2.1), HSN.out]; simp [HA.out]
    exact ⟨bel_trans HB.out.1 H5.out.2.2, _, 0, by rw [he, uI_zero], (fun h => by rw [he] at h; cases h), fun _ => ⟨rfl, rfl⟩⟩
 ·have e0 : (errM l != 0) = true := by simpa using h0
  obtain rfl := hn h0
  have HB := Lib.hid (And.intro hb h0)
  clear hb hx h0 hn
  go_wp2_with fail
  refine bodyPost_ret (v := .tuple #[.pointer none, .int .u64 0, .int .i64 (errM l)]) (by simp [results, Tryd.results24, go_sem]) rfl ?_
  have he : askE l gone of = errM l := by unfold askE; rw [if_pos HB.out.2]
  exact ⟨bel_trans HB.out.1 (bel_alloc (bel_refl _) _), _, 0, by rw [he, uI_zero], (fun h => by rw [he] at h; exact absurd h HB.out.2), fun _ => ⟨rfl, rfl⟩⟩
end Go.Proofs.YtkcpnhigekopaaaDoor
end
section
namespace Go.Proofs.YtkcpnhigekopaaaDoor
open Go.RowKit Go.Rel Go.Draw
set_option maxRecDepth 100000
/-! First, Ready, CheckLock's kind: what is asked of a list and a set -/
theorem setG_sub {n : Nat} (hn : n ≤ 12) : ∀ (l : List Int) (pr : Option Int) (s G : U), Sub s (allU n) → setG n pr s l = some G → Sub G (allU n)
 | [], _, s, G, hs, h => by unfold setG at h; cases h; exact hs
 | x :: l, pr, s, G, hs, h => by
  unfold setG at h
  split at h
  ·rename_i hx
   refine setG_sub hn l _ _ G (fun i hi => ?_) h
   rw [BitVec.getLsbD_or, Bool.or_eq_true] at hi
   rcases hi with hi | hi
   ·exact hs i hi
   ·rw [bit_bit _ _ (by omega), decide_eq_true_eq] at hi
    rw [allU_bit _ _ (by omega), decide_eq_true_eq]
    omega
  ·cases h
theorem setI_sub {n : Nat} (hn : n ≤ 12) {l : List Int} {G : U} (h : setI n l = some G) : Sub G (allU n) := setG_sub hn l none 0 G (sub_zero _) h
theorem sl_nil {w : World} {k : Nat} : Sl w (k + 1) (.slice none 0 0) [] := ⟨none, 0, rfl, by simp, by simp, .inl rfl⟩
end Go.Proofs.YtkcpnhigekopaaaDoor
end
section
namespace Go.Proofs.YtkcpnhigekopaaaDoor
open Go.RowKit Go.Rel Go.Draw
set_option maxRecDepth 100000
/-! the order of all, and the checks -/
set_option maxHeartbeats 8000000 in
theorem Draw_spec {w : World} {v : Value} {l : List Sol} (H : SlS w v l) (hT : Tab w) : Calls Tryd.prog 15 #[v] w fun e w' => Below w.heap.size w w' ∧ ∃ u b, e = .returned (.tuple #[u, .bool b, .int .i64 (errM l)]) ∧ (errM l = 0 → (∃ L, orderM l (allU l.length) = some L ∧ b = true ∧ OwnM w' w.heap.size u L) ∨ (orderM l (allU l.length) = none ∧ b = false)) := by
 have HM := Lib.hid (moulded_x H)
 have HT := Lib.hid hT
 clear H hT
 go_enter Tryd.func15, Tryd.ntmps15
 go_wp2_with fail
 refine HM.out.mono ?_
 rintro e w1 ⟨hb, p, rfl, hx, -⟩
 by_cases h0 : errM l = 0
 ·obtain ⟨hl, g, mb, rfl, hg, hmb, hM⟩ := hx h0
  have HR := Lib.hid (order_spec hM hl (HT.out.grow hb) (allU l.length) (Sub.refl _))
  have HB := Lib.hid (And.intro hb (And.intro hmb h0))
  obtain ⟨pa, pc, hBk, _⟩ := hM.blk
  have cg := hBk.cell; have lg := hBk.lt
  rw [h0]
  clear hb hx h0 hM hBk
  go_wp2_with fail
  refine (all_spec pa l.length pc (by omega) w1).mono ?_
  rintro e w2 ⟨rfl, hw2⟩
  have hw3 := hw2.symm
  subst hw3
  clear hw2
  go_wp2_with fail
  refine HR.out.mono ?_
  rintro e w3 ⟨⟨L, u, ho, rfl, hO⟩ | ⟨ho, rfl⟩, hW, hgr⟩
  ·have HO := Lib.hid (And.intro ho (And.intro hO hgr)); clear ho hO hW hgr
   go_wp2_with fail
   refine bodyPost_ret (v := .tuple #[u, .bool true, .int .i64 0]) (by simp [results, Tryd.results15, go_sem]) rfl ?_
   exact ⟨gb_base HB.out.1 HO.out.2.2 HB.out.2.1, u, true, by rw [HB.out.2.2], fun _ => .inl ⟨L, HO.out.1, rfl, own_weak HO.out.2.1 HB.out.1.size⟩⟩
  ·have HO := Lib.hid (And.intro ho hgr); clear ho hW hgr
   go_wp2_with fail
   refine bodyPost_ret (v := .tuple #[.slice none 0 0, .bool false, .int .i64 0]) (by simp [results, Tryd.results15, go_sem]) rfl ?_
   exact ⟨gb_base HB.out.1 HO.out.2 HB.out.2.1, _, false, by rw [HB.out.2.2], fun _ => .inr ⟨HO.out.1, rfl⟩⟩
 ·have e0 : (errM l != 0) = true := by simpa using h0
  have HB := Lib.hid (And.intro hb h0)
  clear hb hx h0
  go_wp2_with fail
  refine bodyPost_ret (v := .tuple #[.slice none 0 0, .bool false, .int .i64 (errM l)]) (by simp [results, Tryd.results15, go_sem]) rfl ?_
  exact ⟨HB.out.1, _, _, rfl, fun h => absurd h HB.out.2⟩
set_option maxHeartbeats 8000000 in
theorem CheckOrder_spec {w : World} {v lv : Value} {l : List Sol} {ls : List MvI} (H : SlS w v l) (HL : SlX w lv ls) : Calls Tryd.prog 7 #[v, lv] w fun e w' => Below w.heap.size w w' ∧ ∃ b, e = .returned (.tuple #[.bool b, .int .i64 (errM l)]) ∧ (errM l = 0 → b = (madeM l ls).isSome) ∧ (errM l ≠ 0 → b = false) := by
 have HM := Lib.hid (moulded_x H)
 have HLL := Lib.hid HL
 clear H HL
 go_enter Tryd.func7, Tryd.ntmps7
 go_wp2_with fail
 refine HM.out.mono ?_
 rintro e w1 ⟨hb, p, rfl, hx, -⟩
 by_cases h0 : errM l = 0
 ·obtain ⟨hl, g, mb, rfl, hg, hmb, hM⟩ := hx h0
  have HR := Lib.hid (made_spec hM hl (HLL.out.mono hb))
  have HB := Lib.hid (And.intro hb (And.intro hmb h0))
  rw [h0]
  clear hb hx h0 hM
  go_wp2_with fail
  refine HR.out.mono ?_
  rintro e w2 ⟨rfl, hW, hgr⟩
  cases hm : madeM l ls with
  | none =>
   unfold madeR
   go_wp2_with fail
   go_ret2
   exact ⟨gb_base HB.out.1 hgr HB.out.2.1, false, by rw [HB.out.2.2]; rfl, fun _ => by rw [hm]; rfl, fun _ => rfl⟩
  | some G =>
   unfold madeR
   go_wp2_with fail
   go_ret2
   exact ⟨gb_base HB.out.1 hgr HB.out.2.1, true, by rw [HB.out.2.2]; rfl, fun _ => by rw [hm]; rfl, fun h => absurd HB.out.2.2 h⟩
 ·have e0 : (errM l != 0) = true := by simpa using h0
  have HB := Lib.hid (And.intro hb h0)
  clear hb hx h0
  go_wp2_with fail
  go_ret2
  exact ⟨HB.out.1, _, by rfl, fun h => absurd h HB.out.2, fun _ => rfl⟩
end Go.Proofs.YtkcpnhigekopaaaDoor
end
section
namespace Go.Proofs.YtkcpnhigekopaaaDoor
open Go.RowKit Go.Rel Go.Draw
set_option maxRecDepth 100000
/-! a move that is asked of -/
theorem sl_news {W : World} {b : Nat} {x : Int} {t : TypeId} (h : Blk W b #[.int .i64 x] t) : SlI W (.slice (some ⟨b, 0, none⟩) 1 1) [x] := by
 refine ⟨_, 1, rfl, by simp, by simp, .inr ⟨b, 0, rfl, h.lt, fun i j u hu => ?_⟩⟩
 rw [h.cell]
 cases i with
 | zero =>
  cases j with
  | zero => simpa using hu
  | succ j => simp at hu
 | succ i => simp at hu
def movedE (l : List Sol) (gone : List Int) (x : MvI) : Int := if askE l gone [x.1] ≠ 0 then askE l gone [x.1] else if isMoveI x.2.1 x.2.2 then 0 else 1
def MovedP (w : World) (l : List Sol) (gone : List Int) (x : MvI) (e : Ending) (w' : World) : Prop :=
 Below w.heap.size w w' ∧ ∃ p G, e = .returned (.tuple #[p, .int .u64 (uI G), .int .i64 (movedE l gone x)]) ∧ (movedE l gone x = 0 → l.length ≤ 12 ∧ errM l = 0 ∧ setI l.length gone = some G ∧ askF l.length G x.1 = false ∧ isMoveI x.2.1 x.2.2 = true ∧ ∃ g mb, p = .pointer (some ⟨g, 0, none⟩) ∧ w.heap.size ≤ g ∧ w.heap.size ≤ mb ∧ Mould w' g mb l)
end Go.Proofs.YtkcpnhigekopaaaDoor
end
section
namespace Go.Proofs.YtkcpnhigekopaaaDoor
open Go.RowKit Go.Rel Go.Draw
set_option maxRecDepth 100000
/-! the reference's lists of numbers -/
theorem ints_open {w : World} {v : Value} {l : List Int} (h : SlI w v l) : ∃ b cc, v = .slice b l.length cc ∧ l.length ≤ 9223372036854775807 ∧ ∀ (k : Nat) (x : Int), l[k]? = some x → ∃ ib io, b = some ⟨ib, io, none⟩ ∧ ib < w.heap.size ∧ ∀ (j : Nat) (y : Int), l[j]? = some y → w.cell? ⟨ib, io + j, none⟩ = some (.int .i64 y) := by
 rcases h.cases with ⟨hz, a, c, rfl, hc⟩ | ⟨ib, io, c, hv, hq1, hq2, _, hcs⟩
 ·have : l = [] := by simpa using hz
  subst this
  exact ⟨_, _, rfl, by simp, fun k x hx => by simp at hx⟩
 ·subst hv
  exact ⟨_, _, by rw [List.length_map], by simp at hq1 hq2; omega, fun k x hx => ⟨ib, io, rfl, hcs.1, fun j y hy => int_cell hcs hy⟩⟩
theorem drop_at {l : List Int} {k : Nat} {x : Int} (hx : l[k]? = some x) : l.drop k = x :: l.drop (k + 1) := by
 obtain ⟨h1, h2⟩ := List.getElem?_eq_some_iff.1 hx
 rw [← h2]; exact List.drop_eq_getElem_cons h1
def unionF (a b : List Int) (k : Nat) : List Nat := (List.range k).filter fun i => a.contains (i : Int) || b.contains (i : Int)
theorem unionF_succ (a b : List Int) (k : Nat) : unionF a b (k + 1) = unionF a b k ++ (if a.contains (k : Int) || b.contains (k : Int) then [k] else []) := by
 unfold unionF
 rw [List.range_succ, List.filter_append]
 congr 1
 cases h : (a.contains (k : Int) || b.contains (k : Int)) <;> simp only [List.filter_cons, List.filter_nil, h] <;> rfl
theorem unionF_len (a b : List Int) (k : Nat) : (unionF a b k).length ≤ k := by
 unfold unionF
 have := List.length_filter_le (fun i : Nat => a.contains (i : Int) || b.contains (i : Int)) (List.range k)
 simpa using this
end Go.Proofs.YtkcpnhigekopaaaDoor
end
