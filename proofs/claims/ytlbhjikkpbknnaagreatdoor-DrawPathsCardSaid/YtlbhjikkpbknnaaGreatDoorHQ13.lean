import Derived.Test.YtlbhjikkpbknnaaGreatDoorHQ10
/-
  Given contracts of functions of the program, and laws for them, one behind the other.
-/
set_option linter.unusedVariables false
set_option linter.unusedSimpArgs false
set_option linter.unusedSectionVars false
section
namespace Go.Proofs.YtlbhjikkpbknnaaGreatDoor
open Go.RowKit Go.Rel Go.Draw
set_option maxRecDepth 100000
/-! WaysOf -/
theorem infoMvs : (Tryz.prog.info? 43).map (fun i => (i.zero, i.size, i.bytes)) = some (some (.slice none 0 0), 1, 24) := by kernel_rfl
theorem infoLLs : (Tryz.prog.info? 40).map (fun i => (i.zero, i.size, i.bytes)) = some (some (.slice none 0 0), 1, 24) := by kernel_rfl
theorem mvK_at {p s f : Nat} (hf : f < 8) : (8 * s + f) / 8 = s ∧ (8 * s + f) % 8 = f ∧ mvK p (8 * s + f) = (p, s, f) := by
 have e1 : (8 * s + f) / 8 = s := by omega
 have e2 : (8 * s + f) % 8 = f := by omega
 exact ⟨e1, e2, by unfold mvK; rw [e1, e2]⟩
theorem stepK_not {m : List Sol} {p s f : Nat} (hf : f < 8) (h : isMoveI (s : Int) (f : Int) = false) : stepK m p (8 * s + f) = [] := by
 obtain ⟨e1, e2, e3⟩ := mvK_at (p := p) (s := s) hf
 unfold stepK
 rw [e1, e2, h]; rfl
theorem stepK_none {m : List Sol} {p s f : Nat} (hf : f < 8) (h : blockedM m (p, s, f) = none) : stepK m p (8 * s + f) = [] := by
 obtain ⟨e1, e2, e3⟩ := mvK_at (p := p) (s := s) hf
 unfold stepK
 rw [e3, h]; simp
theorem stepK_some {m : List Sol} {p s f : Nat} {l : List Nat} (hf : f < 8) (hm : isMoveI (s : Int) (f : Int) = true) (h : blockedM m (p, s, f) = some l) : stepK m p (8 * s + f) = [((p, s, f), l)] := by
 obtain ⟨e1, e2, e3⟩ := mvK_at (p := p) (s := s) hf
 unfold stepK
 rw [e1, e2, e3, h, hm]; simp
structure WK (m : List Sol) (p : Nat) (wo : World) (j : Nat) (v5 v6 : Value) (wx : World) : Prop where
 mv : OwnM wx wo.heap.size v5 ((wayK m p j).map (·.1))
 nd : OwnLL wx wo.heap.size v6 ((wayK m p j).map (·.2))
 bel : Below wo.heap.size wo wx
theorem WK.skip {m : List Sol} {p j : Nat} {wo wx wy : World} {v5 v6 : Value} (h : WK m p wo j v5 v6 wx) (hb : Below wx.heap.size wx wy) (hs : stepK m p j = []) : WK m p wo (j + 1) v5 v6 wy := by
 refine ⟨?_, ?_, bel_trans h.bel hb⟩
 ·rw [wayK_succ, hs, List.append_nil]; exact own_bel h.mv hb
 ·rw [wayK_succ, hs, List.append_nil]; exact h.nd.bel hb
structure WO (w : World) (N2 B0 : Nat) (m : List Sol) (p : Nat) (wx : World) : Prop where
 box : ∃ mv nv, Blk wx (N2 + 1) #[mv, nv] 111 ∧ OwnMM wx B0 mv ((List.range p).map fun p => (wayR m p).map (·.1)) ∧ OwnLLL wx B0 nv ((List.range p).map fun p => (wayR m p).map (·.2))
 res : Blk wx N2 #[.slice none 0 0, .slice none 0 0] 111
 bel : Below w.heap.size w wx
 le : B0 ≤ wx.heap.size
set_option maxHeartbeats 8000000 in
theorem WaysOf_spec {w : World} {v : Value} {m : List Sol} (H : SlS w v m) (hm : m.length ≤ 12) : Calls Tryz.prog 81 #[v] w fun e w' => Below w.heap.size w w' ∧ ∃ mv nv, e = .returned (.agg #[mv, nv]) ∧ WaysR w' mv nv m := by
 obtain ⟨i0, hi, hz0, hz1, hz2⟩ := info_parts infoMove
 have HI0 := Lib.hid (And.intro hi (And.intro hz0 (And.intro hz1 hz2))); clear hi hz0 hz1 hz2
 obtain ⟨i1, hi, hz0, hz1, hz2⟩ := info_parts infoInts
 have HI1 := Lib.hid (And.intro hi (And.intro hz0 (And.intro hz1 hz2))); clear hi hz0 hz1 hz2
 obtain ⟨i2, hi, hz0, hz1, hz2⟩ := info_parts infoMvs
 have HI2 := Lib.hid (And.intro hi (And.intro hz0 (And.intro hz1 hz2))); clear hi hz0 hz1 hz2
 obtain ⟨i3, hi, hz0, hz1, hz2⟩ := info_parts infoLLs
 have HI3 := Lib.hid (And.intro hi (And.intro hz0 (And.intro hz1 hz2))); clear hi hz0 hz1 hz2
 obtain ⟨ai, nn, c, rfl, hnn, hc, hcm⟩ := H.out
 subst hnn
 have HBK := Lib.hid fun W (h : Below w.heap.size w W) (x : Mv) h1 h2 h3 => blocked_spec (H.mono h) hm (x := x) h1 h2 h3
 clear H
 obtain ⟨n, hn⟩ : ∃ n, n = m.length := ⟨_, rfl⟩
 rw [← hn] at HBK hm hc ⊢
 have HN := Lib.hid hn
 clear hn
 go_enter Tryz.func81, Tryz.ntmps81
 go_wp2_with fail
 obtain ⟨wb, hwb⟩ : ∃ wb, wb = (w.alloc (.cells #[.slice none 0 0, .slice none 0 0] 111)).alloc (.cells #[.slice none 0 0, .slice none 0 0] 111) := ⟨_, rfl⟩
 rw [← hwb]
 have hW0 : WO w w.heap.size wb.heap.size m 0 wb := by
  refine ⟨⟨_, _, ?_, OwnG.nil _ _ _ _, OwnG.nil _ _ _ _⟩, ?_, ?_, Nat.le_refl _⟩
  ·subst hwb; exact Blk.at _ _ (by simp)
  ·subst hwb; exact (Blk.new _ _ _).alloc _
  ·subst hwb; exact (by repeat (first | with_reducible exact bel_refl _ | with_reducible assumption | with_reducible refine bel_drewN ?_ _ | with_reducible refine bel_drew ?_ | with_reducible refine bel_alloc ?_ _ | with_reducible refine bel_row ?_ ?_ _ | with_reducible refine bel_set ?_ ?_ _ | refine bel_trans ?_ (by with_reducible assumption) | (simp; done) | (simp; omega)))
 have hBs : wb.heap.size = w.heap.size + 1 + 1 := by subst hwb; simp
 clear hwb
 obtain ⟨N2, hN2⟩ : ∃ N2, N2 = w.heap.size := ⟨_, rfl⟩
 obtain ⟨B0, hB0⟩ : ∃ B0, B0 = wb.heap.size := ⟨_, rfl⟩
 rw [← hN2] at hW0 hBs ⊢
 rw [← hB0] at hW0 hBs
 have HW0 := Lib.hid (And.intro hW0 (And.intro hN2 hB0))
 clear hW0 hN2 hB0
 go_loopw [4] (fun pv wx => ∃ (p : Nat), p ≤ n ∧ pv = .int .i64 p ∧ Hid (WO w N2 B0 m p wx)) (fun pv _ => n - (intOf pv).toNat)
 case atStart => exact ⟨0, by omega, rfl, Lib.hid HW0.out.1⟩
 case round =>
  obtain ⟨p, hp, rfl, HP⟩ := hrel
  by_cases hlt : p < n
  ·go_wp2_with fail
   obtain ⟨wo, hwo⟩ : ∃ wo, wo = wr := ⟨_, rfl⟩
   subst hwo
   go_loopw [5, 6, 7] (fun v5 v6 sv wx => ∃ (s : Nat), s ≤ 5 ∧ sv = .int .i64 s ∧ Hid (WK m p wo (8 * s) v5 v6 wx)) (fun _ _ sv _ => 5 - (intOf sv).toNat)
   case atStart => exact ⟨0, by omega, rfl, Lib.hid ⟨World.ownsRow_nil _ _ _ _, OwnLL.nil _ _, Below.refl _ _⟩⟩
   case round =>
    obtain ⟨s, hs, rfl, HS⟩ := hrel
    by_cases hs5 : s ≤ 4
    ·have hds : decide ((s : Int) ≤ 4) = true := decide_eq_true (by omega)
     go_wp2_with fail
     obtain ⟨wq, hwq⟩ : ∃ wo, wo = wr := ⟨_, rfl⟩
     subst hwq
     go_loopw [5, 6, 8] (fun v5 v6 fv wx => ∃ (f : Nat), f ≤ 8 ∧ fv = .int .i64 f ∧ Hid (WK m p wo (8 * s + f) v5 v6 wx)) (fun _ _ fv _ => 8 - (intOf fv).toNat)
     case atStart => exact ⟨0, by omega, rfl, HS⟩
     case round =>
      clear HS
      obtain ⟨f, hf, rfl, HF⟩ := hrel
      by_cases hf8 : f ≤ 7
      ·have hdf : decide ((f : Int) ≤ 7) = true := decide_eq_true (by omega)
       have HIM := Lib.hid fun W => IsMove_spec (w := W) n p s f
       go_wp2_with fail
       have hb1 : Below wr.heap.size wr (wr.alloc (.cells #[.int .i64 (p : Int), .int .i64 (s : Int), .int .i64 (f : Int)] 25)) := bel_alloc (bel_refl _) _
       have B1 : Blk (wr.alloc (.cells #[.int .i64 (p : Int), .int .i64 (s : Int), .int .i64 (f : Int)] 25)) wr.heap.size #[.int .i64 (p : Int), .int .i64 (s : Int), .int .i64 (f : Int)] 25 := Blk.new _ _ _
       obtain ⟨w1, hw1⟩ : ∃ w1, w1 = wr.alloc (.cells #[.int .i64 (p : Int), .int .i64 (s : Int), .int .i64 (f : Int)] 25) := ⟨_, rfl⟩
       rw [← hw1] at hb1 B1 ⊢
       clear hw1
       refine (HIM.out _).mono ?_
       rintro e w2 ⟨rfl, hb2⟩
       rw [show (decide ((0 : Int) ≤ (p : Int)) && decide ((p : Int) < (n : Int)) && isMoveI (s : Int) (f : Int)) = isMoveI (s : Int) (f : Int) by
        rw [decide_eq_true (by omega : (0 : Int) ≤ (p : Int)), decide_eq_true (by omega : (p : Int) < (n : Int))]; simp]
       have H2 := Lib.hid (And.intro (B1.grow hb2) (bel_trans hb1 hb2))
       have c0 := (B1.grow hb2).cell 0; have c1 := (B1.grow hb2).cell 1; have c2 := (B1.grow hb2).cell 2; have l1 := (B1.grow hb2).lt
       simp only [List.getElem?_toArray, List.getElem?_cons_zero, List.getElem?_cons_succ] at c0 c1 c2
       obtain ⟨Nx, hNx⟩ : ∃ N, N = wr.heap.size := ⟨_, rfl⟩
       have HNx := Lib.hid hNx
       rw [← hNx] at c0 c1 c2 l1 ⊢
       clear hb1 B1 hb2 HIM hNx
       cases him : isMoveI (s : Int) (f : Int)
       ·have HSK := Lib.hid (stepK_not (m := m) (p := p) (by omega : f < 8) him)
        clear him
        go_wp2_with fail
        exact ⟨⟨f + 1, by omega, by simp, Lib.hid (HF.out.skip H2.out.2 HSK.out)⟩, by simp [intOf]; omega⟩
       ·have HM := Lib.hid him; clear him
        have HBC := Lib.hid (HBK.out w2 (HP.out.bel.trans ((bel_trans HF.out.bel H2.out.2).mono HP.out.bel.size)) (p, s, f) hlt hs5 hf8)
        go_wp2_with fail
        refine HBC.out.mono ?_
        rintro e w3 ⟨hb3, u, rfl, hnl, hL⟩
        have H3 := Lib.hid (And.intro (bel_trans H2.out.2 hb3) (H2.out.1.grow hb3))
        have c0' := ((Grows.cells hb3).1 Nx 0 l1).trans c0
        have c1' := ((Grows.cells hb3).1 Nx 1 l1).trans c1
        have c2' := ((Grows.cells hb3).1 Nx 2 l1).trans c2
        have l1' := Nat.lt_of_lt_of_le l1 hb3.size
        have hsz3 : wr.heap.size ≤ w2.heap.size := H2.out.2.size
        clear c0 c1 c2 l1 hb3 HBC
        cases hbl : blockedM m (p, s, f) with
        | none =>
         have HSK := Lib.hid (stepK_none (by omega : f < 8) hbl)
         clear hbl hnl hL
         go_wp2_with fail
         exact ⟨⟨f + 1, by omega, by simp, Lib.hid (HF.out.skip H3.out.1 HSK.out)⟩, by simp [intOf]; omega⟩
        | some L =>
         have HSK := Lib.hid (stepK_some (by omega : f < 8) HM.out hbl)
         have hLo := hL L hbl
         obtain ⟨pu, nu, cu, hu⟩ := own_shapeN hLo
         subst hu
         have hw5 := own_bel HF.out.mv H3.out.1
         have hw6 := HF.out.nd.bel H3.out.1
         obtain ⟨us, hus, hul, hin⟩ := hw6
         obtain ⟨p5, n5, c5, hu5⟩ := own_shapeN hw5
         obtain ⟨p6, n6, c6, hu6⟩ := own_shapeN hus
         subst hu5 hu6
         have hlen := wayK_len m p (8 * s + f)
         have hul5 : us.length = (wayK m p (8 * s + f)).length := by rw [hul, List.length_map]
         have hbo : wo.heap.size ≤ w3.heap.size := Nat.le_trans HF.out.bel.size H3.out.1.size
         rw [List.length_map] at hw5
         obtain ⟨k5, hk5⟩ : ∃ k, k = (wayK m p (8 * s + f)).length := ⟨_, rfl⟩
         rw [← hk5] at hw5 hul5 hlen
         have hus2 : w3.ownsRow wo.heap.size 23 1 (.slice p6 n6 c6) k5 us := by rw [← hul5]; exact hus
         have HX := Lib.hid (And.intro hw5 (And.intro hus2 (And.intro hul (And.intro hin (And.intro hLo (And.intro hk5 hul5))))))
         clear hw5 hus hus2 hul hin hLo hbl hnl hL hk5 hul5
         go_upto_region 18 with (first
          | (at_builtin; refine wpList_append_own _ rfl _ _ 43 rfl wo.heap.size 25 i0 _ 3 24 Tryz.underlying43 HI0.out.1 HI0.out.2.1 HI0.out.2.2.1 HI0.out.2.2.2 rfl (by decide) _ _ _ rfl (HX.out.1.alloc _) ⟨w3.heap.size, 0, none⟩ 1 1 (mvL (p, s, f)) rfl rfl (blk_news (Blk.new w3 _ 25)) (fun y hy => by simp [mvL] at hy; rcases hy with rfl | rfl | rfl <;> rfl) (by unfold maxLen; omega) (by omega) (by simp; omega) ?_; intro v7 w7 hown7 hgrow7 hnil7))
         have hR := HX.out.1.alloc (.cells (mvL (p, s, f)).toArray 25)
         have hu7 := own_keptT (HX.out.2.1.alloc _) hR (by decide) hgrow7
         have hin7 : ∀ (i : Nat) (u : Value) (l : List Nat), us[i]? = some u → ((wayK m p (8 * s + f)).map (·.2))[i]? = some l → OwnI w7 wo.heap.size u (intsL l) := fun i u y hu hy => own_keptT ((HX.out.2.2.2.1 i u y hu hy).alloc _) hR (by decide) hgrow7
         have hLo7 : OwnI w7 wo.heap.size (.slice pu nu cu) (intsL L) := own_keptT ((own_weak HX.out.2.2.2.2.1 (Nat.le_trans HF.out.bel.size hsz3)).alloc _) hR (by decide) hgrow7
         have hb7 : Below wo.heap.size w3 w7 := ((bel_alloc (bel_refl w3) _).mono hbo).grown hgrow7 (by simp; omega) (fun j hj => (hR.lt j hj).1)
         have hs7 : wo.heap.size ≤ w7.heap.size := Nat.le_trans hbo hb7.size
         have HX7 := Lib.hid (And.intro hu7 (And.intro hin7 (And.intro hLo7 (And.intro hb7 hown7))))
         clear hR hu7 hin7 hLo7 hb7 hown7 hgrow7 hnil7
         go_wp2_with (first
          | (at_builtin; refine wpList_append_own _ rfl _ _ 40 rfl wo.heap.size 23 i1 (.slice none 0 0) 1 24 Tryz.underlying40 HI1.out.1 HI1.out.2.1 HI1.out.2.2.1 HI1.out.2.2.2 rfl (by decide) _ _ _ rfl (HX7.out.1.alloc _) ⟨w7.heap.size, 0, none⟩ 1 1 [.slice pu nu cu] rfl rfl (cell_one_new _ _ _) (fun x hx => by simp at hx; subst hx; rfl) (by unfold maxLen; omega) (by omega) (by simp; omega) ?_; intro v8 w8 hown8 hgrow8 hnil8))
         refine ⟨⟨f + 1, by omega, by simp, Lib.hid ?_⟩, by simp [intOf]; omega⟩
         have hR := HX7.out.1.alloc (.cells #[.slice pu nu cu] 23)
         have ek : k5 = (wayK m p (8 * s + f)).length := HX.out.2.2.2.2.2.1
         have eu : us.length = k5 := HX.out.2.2.2.2.2.2
         have hb8 : Below wo.heap.size w7 w8 := ((bel_alloc (bel_refl w7) _).mono hs7).grown hgrow8 (by simp; omega) (fun j hj => (hR.lt j hj).1)
         refine ⟨?_, ?_, (bel_trans HF.out.bel H3.out.1).trans (HX7.out.2.2.2.1.trans hb8)⟩
         ·have hm8 := own_keptT (HX7.out.2.2.2.2.alloc _) hR (by decide) hgrow8
          rw [← Nat.add_assoc, wayK_succ, HSK.out, List.map_append]
          unfold OwnM
          rw [List.length_append, List.length_map, ← ek, List.map_append, List.flatten_append]
          simpa using hm8
         ·rw [← Nat.add_assoc, wayK_succ, HSK.out, List.map_append]
          have hus8 : w7.ownsRow wo.heap.size 23 1 (.slice p6 n6 c6) us.length us := by rw [eu]; exact HX7.out.1
          exact OwnG.join ownI_grown (ownI_kept (by decide)) hus8 HX.out.2.2.1 HX7.out.2.1 HX7.out.2.2.1 (by rw [eu]; exact hown8) hgrow8
      ·have hdf : decide ((f : Int) ≤ 7) = false := decide_eq_false (by omega)
       have HF8 := Lib.hid (show 8 * s + f = 8 * (s + 1) by omega)
       go_wp2_with fail
       refine ⟨⟨s + 1, by omega, by simp, Lib.hid ?_⟩, by simp [intOf]; omega⟩
       rw [← HF8.out]; exact HF.out
    ·have hds : decide ((s : Int) ≤ 4) = false := decide_eq_false (by omega)
     have hS40 := HS.out
     rw [show 8 * s = 40 by omega] at hS40
     clear HS
     obtain ⟨mv, nv, hb3, hmv, hnv⟩ := HP.out.box
     have hb3 := hb3.grow hS40.bel
     have hres := HP.out.res.grow hS40.bel
     obtain ⟨us, hus, hul, hin⟩ := OwnG.grown ownM_grown _ _ _ _ hS40.bel hmv
     have hnv := OwnG.grown (OwnG.grown ownI_grown) _ _ _ _ hS40.bel hnv
     obtain ⟨pm, nm, cm, hum⟩ := own_shapeN hus
     obtain ⟨pn, nn, cn, hun⟩ := own_shapeN hnv.choose_spec.1
     subst hum hun
     obtain ⟨p5, n5, c5, hu5⟩ := own_shapeN hS40.mv
     obtain ⟨p6, n6, c6, hu6⟩ := own_shapeN hS40.nd.choose_spec.1
     subst hu5 hu6
     have hup : us.length = p := by rw [hul]; simp
     have hus2 : wr.ownsRow B0 43 1 (.slice pm nm cm) p us := by rw [← hup]; exact hus
     have hBr : B0 ≤ wr.heap.size := Nat.le_trans HP.out.le hS40.bel.size
     have c0 := hb3.cell 0; have c1 := hb3.cell 1; have l3 := hb3.lt
     simp only [List.getElem?_toArray, List.getElem?_cons_zero, List.getElem?_cons_succ] at c0 c1
     have HX := Lib.hid (And.intro hus2 (And.intro hul (And.intro hin (And.intro hnv (And.intro hb3 (And.intro hres (And.intro hS40 (And.intro hus hup))))))))
     clear hus hus2 hul hin hmv hnv hb3 hres hS40 hup
     have hds2 : ¬ ((s : Int) ≤ 4) := by omega
     go_upto_region 20 with (first
      | (at_builtin; refine wpList_append_own _ rfl _ _ 108 rfl B0 43 i2 (.slice none 0 0) 1 24 Tryz.underlying108 HI2.out.1 HI2.out.2.1 HI2.out.2.2.1 HI2.out.2.2.2 rfl (by decide) _ _ _ rfl (HX.out.1.alloc _) ⟨wr.heap.size, 0, none⟩ 1 1 [.slice p5 n5 c5] rfl rfl (cell_one_new _ _ _) (fun x hx => by simp at hx; subst hx; rfl) (by unfold maxLen; omega) (by omega) (by simp; omega) ?_; intro v7 w7 hown7 hgrow7 hnil7; obtain ⟨p7, n7, c7, hv7⟩ := own_shapeN hown7; subst hv7; have b7 := (HX.out.2.2.2.2.1.alloc (.cells #[.slice p5 n5 c5] 43)).gb hgrow7 (fun e => by have := ((HX.out.1.alloc (.cells #[.slice p5 n5 c5] 43)).lt _ e.symm).1; omega); have r7 := b7.row; have l7 := b7.lt; rw [← b7.rw]))
     have hR := HX.out.1.alloc (.cells #[.slice p5 n5 c5] 43)
     have hwoB : B0 ≤ wo.heap.size := HP.out.le
     have hmv7 : OwnMM w7 B0 (.slice p7 n7 c7) ((List.range (p + 1)).map fun p => (wayR m p).map (·.1)) := by
      rw [List.range_succ, List.map_append]
      have hu1 : OwnM wr B0 (.slice p5 n5 c5) ((wayR m p).map (·.1)) := by
       have := HX.out.2.2.2.2.2.2.1.mv
       rw [wayK_all] at this
       exact own_weak this hwoB
      exact OwnG.join ownM_grown (ownM_kept (by decide)) HX.out.2.2.2.2.2.2.2.1 HX.out.2.1 HX.out.2.2.1 hu1 (by rw [HX.out.2.2.2.2.2.2.2.2]; exact hown7) hgrow7
     have hnv7 : OwnLLL w7 B0 (.slice pn nn cn) ((List.range p).map fun p => (wayR m p).map (·.2)) :=
      OwnG.kept (OwnG.kept (ownI_kept (by decide)) (by decide)) (by decide) _ _ _ _ _ _ _ _ _ hR hgrow7 (OwnG.grown (OwnG.grown ownI_grown) _ _ _ _ (bel_alloc (bel_refl _) _) HX.out.2.2.2.1)
     have hnd7 : OwnLL w7 B0 (.slice p6 n6 c6) ((wayR m p).map (·.2)) := by
      have := HX.out.2.2.2.2.2.2.1.nd
      rw [wayK_all] at this
      exact OwnG.kept (base := B0) (ownI_kept (base := B0) (by decide)) (by decide) _ _ _ _ _ _ _ _ _ hR hgrow7 (OwnG.grown ownI_grown _ _ _ _ (bel_alloc (bel_refl _) _) (this.weak hwoB))
     have hres7 : Blk w7 N2 _ _ := (HX.out.2.2.2.2.2.1.alloc (.cells #[.slice p5 n5 c5] 43)).gb hgrow7 (fun e => by have := (hR.lt _ e.symm).1; omega)
     have hb7 : Below B0 wr w7 := ((bel_alloc (bel_refl wr) _).mono hBr).grown hgrow7 (by simp; omega) (fun j hj => (hR.lt j hj).1)
     obtain ⟨w8, hw8⟩ : ∃ w8, w8 = w7.setRow (N2 + 1) #[.slice p7 n7 c7, .slice pn nn cn] := ⟨_, rfl⟩
     have hg8 : w7.grownBy w8 (some (N2 + 1)) := by rw [hw8]; exact gb_row (gb_refl _ _) _
     have hNB : N2 + 1 < B0 := by omega
     have b8 : Blk w8 (N2 + 1) #[.slice p7 n7 c7, .slice pn nn cn] 111 := by rw [hw8]; exact b7.rowS _
     have hmv8 := hmv7.low hg8 hNB
     obtain ⟨vs, hvs, hvl, hvin⟩ := hnv7.low hg8 hNB
     have hnd8 := hnd7.gb hg8 hNB
     have hres8 : Blk w8 N2 _ _ := hres7.gb hg8 (by simp)
     have hbel8 : Below w.heap.size w w8 := by
      have h1 : Below w.heap.size w wr := HP.out.bel.trans (HX.out.2.2.2.2.2.2.1.bel.mono HP.out.bel.size)
      have h2 : Below w.heap.size w w7 := h1.trans (hb7.mono (by rw [← HW0.out.2.1]; omega))
      rw [hw8]
      exact blw_row h2 (by rw [← HW0.out.2.1]; omega) _
     have hs8 : B0 ≤ w8.heap.size := Nat.le_trans (Nat.le_trans hBr hb7.size) hg8.size
     rw [← hw8]
     have hvp : vs.length = p := by rw [hvl]; simp
     have hvs2 : w8.ownsRow B0 40 1 (.slice pn nn cn) p vs := by rw [← hvp]; exact hvs
     have c0' := b8.cell 0; have c1' := b8.cell 1; have l8 := b8.lt
     simp only [List.getElem?_toArray, List.getElem?_cons_zero, List.getElem?_cons_succ] at c0' c1'
     have HY := Lib.hid (And.intro hvs2 (And.intro hvl (And.intro hvin (And.intro hmv8 (And.intro b8 (And.intro hres8 (And.intro hnd8 (And.intro hvs (And.intro hvp hbel8)))))))))
     clear hvs hvs2 hvl hvin hmv8 b8 hres8 hnd8 hvp hbel8 hw8 hg8 hmv7 hnv7 hnd7 hres7 hb7 hR r7 l7 b7 hown7 hgrow7 hnil7 c0 c1 l3
     go_wp2_with (first
      | (at_builtin; refine wpList_append_own _ rfl _ _ 109 rfl B0 40 i3 (.slice none 0 0) 1 24 Tryz.underlying109 HI3.out.1 HI3.out.2.1 HI3.out.2.2.1 HI3.out.2.2.2 rfl (by decide) _ _ _ rfl (HY.out.1.alloc _) ⟨w8.heap.size, 0, none⟩ 1 1 [.slice p6 n6 c6] rfl rfl (cell_one_new _ _ _) (fun x hx => by simp at hx; subst hx; rfl) (by unfold maxLen; omega) (by omega) (by simp; omega) ?_; intro v9 w9 hown9 hgrow9 hnil9; obtain ⟨p9, n9, c9, hv9⟩ := own_shapeN hown9; subst hv9; have b9 := (HY.out.2.2.2.2.1.alloc (.cells #[.slice p6 n6 c6] 40)).gb hgrow9 (fun e => by have := ((HY.out.1.alloc (.cells #[.slice p6 n6 c6] 40)).lt _ e.symm).1; omega); have r9 := b9.row; have l9 := b9.lt; rw [← b9.rw]))
     refine ⟨⟨p + 1, by omega, by simp, Lib.hid ?_⟩, by simp [intOf]; omega⟩
     have hR := HY.out.1.alloc (.cells #[.slice p6 n6 c6] 40)
     have hg10 : w9.grownBy (w9.setRow (N2 + 1) #[.slice p7 n7 c7, .slice p9 n9 c9]) (some (N2 + 1)) := gb_row (gb_refl _ _) _
     have hnv9 : OwnLLL w9 B0 (.slice p9 n9 c9) ((List.range (p + 1)).map fun p => (wayR m p).map (·.2)) := by
      rw [List.range_succ, List.map_append]
      exact OwnG.join (φ := fun W u (l : List (List Nat)) => OwnLL W B0 u l) (OwnG.grown ownI_grown) (OwnG.kept (ownI_kept (by decide)) (by decide)) HY.out.2.2.2.2.2.2.2.1 HY.out.2.1 HY.out.2.2.1 HY.out.2.2.2.2.2.2.1 (by rw [HY.out.2.2.2.2.2.2.2.2.1]; exact hown9) hgrow9
     have hmv9 : OwnMM w9 B0 (.slice p7 n7 c7) ((List.range (p + 1)).map fun p => (wayR m p).map (·.1)) :=
      OwnG.kept (ownM_kept (by decide)) (by decide) _ _ _ _ _ _ _ _ _ hR hgrow9 (OwnG.grown ownM_grown _ _ _ _ (bel_alloc (bel_refl _) _) HY.out.2.2.2.1)
     have hb9 : Below B0 w8 w9 := ((bel_alloc (bel_refl w8) _).mono hs8).grown hgrow9 (by simp; omega) (fun j hj => (hR.lt j hj).1)
     have hres9 : Blk w9 N2 #[.slice none 0 0, .slice none 0 0] 111 := (HY.out.2.2.2.2.2.1.alloc (.cells #[.slice p6 n6 c6] 40)).gb hgrow9 (fun e => by have := (hR.lt _ e.symm).1; omega)
     refine ⟨⟨_, _, b9.rowS _, hmv9.low hg10 hNB, hnv9.low hg10 hNB⟩, hres9.gb hg10 (by simp), ?_, Nat.le_trans (Nat.le_trans hs8 hb9.size) hg10.size⟩
     exact blw_row (HY.out.2.2.2.2.2.2.2.2.2.trans (hb9.mono (by rw [← HW0.out.2.1]; omega))) (by rw [← HW0.out.2.1]; omega) _
  ·have hdp : decide ((p : Int) < (n : Int)) = false := decide_eq_false (by omega)
   have hWn := HP.out
   rw [show p = m.length by rw [← HN.out]; omega] at hWn
   obtain ⟨⟨mv, nv, hb3, hmv, hnv⟩, hres, hbel, hle⟩ := hWn
   obtain ⟨pm, nm, cm, hum⟩ := own_shapeN hmv.choose_spec.1
   obtain ⟨pn, nn, cn, hun⟩ := own_shapeN hnv.choose_spec.1
   subst hum hun
   have c0 := hb3.cell 0; have c1 := hb3.cell 1; have l3 := hb3.lt
   simp only [List.getElem?_toArray, List.getElem?_cons_zero, List.getElem?_cons_succ] at c0 c1
   have l2 := hres.lt
   have d0 := hres.cell 0; have d1 := hres.cell 1; have f2 := hres.free 0; have f3 := hres.free 1
   simp only [List.getElem?_toArray, List.getElem?_cons_zero, List.getElem?_cons_succ] at d0 d1
   have hrw := hres.rw
   have HZ := Lib.hid (And.intro hres (And.intro hbel (And.intro hmv hnv)))
   have hNB : N2 < B0 := by omega
   clear hb3 hmv hnv hres hbel hle HP
   rw [← hrw]
   have r2 : Row wr N2 := HZ.out.1.row
   have c0' : (wr.setRow N2 #[.slice none 0 0, .slice none 0 0]).cell? ⟨N2 + 1, 0, none⟩ = some (.slice pm nm cm) := by rw [hrw]; exact c0
   have c1' : (wr.setRow N2 #[.slice none 0 0, .slice none 0 0]).cell? ⟨N2 + 1, 1, none⟩ = some (.slice pn nn cn) := by rw [hrw]; exact c1
   clear hrw
   go_wp2_with fail
   have hgb : wr.grownBy (wr.setRow N2 #[.slice pm nm cm, .slice pn nn cn]) (some N2) := gb_row (gb_refl _ _) _
   have e0 : (wr.setRow N2 #[.slice pm nm cm, .slice pn nn cn]).cell? ⟨N2, 0, none⟩ = some (.slice pm nm cm) := cell_row_at _ _ _ _ r2
   have e1 : (wr.setRow N2 #[.slice pm nm cm, .slice pn nn cn]).cell? ⟨N2, 1, none⟩ = some (.slice pn nn cn) := cell_row_at _ _ _ _ r2
   refine bodyPost_ret (v := .agg #[.slice pm nm cm, .slice pn nn cn]) (by simp [results, Tryz.results81, go_sem, e0, e1]) rfl ⟨?_, _, _, rfl, ways_own (HZ.out.2.2.1.low hgb hNB) (HZ.out.2.2.2.low hgb hNB)⟩
   exact blw_row HZ.out.2.1 (by rw [HW0.out.2.1]; exact Nat.le_refl _) _
end Go.Proofs.YtlbhjikkpbknnaaGreatDoor
end
section
namespace Go.Proofs.YtlbhjikkpbknnaaGreatDoor
open Go.RowKit Go.Rel Go.Draw
set_option maxRecDepth 100000
/-! the first move with which a piece can go -/
theorem mvs_X {w : World} {v : Value} {l : List Mo} (h : SlM w v l) : SlX w v (l.map intMv) := by
 have : (l.map intMv).map mvIL = l.map mvL := by rw [List.map_map]; rfl
 show Sl w 3 v ((l.map intMv).map mvIL)
 rw [this]; exact h
theorem ways_open {w : World} {mv nv : Value} {m : List Sol} (h : WaysR w mv nv m) {p : Nat} (hp : p < m.length) : ∃ bm om cm bn on cn Um Vm, mv = .slice (some ⟨bm, om, none⟩) m.length cm ∧ nv = .slice (some ⟨bn, on, none⟩) m.length cn ∧ m.length ≤ 9223372036854775807 ∧ bm < w.heap.size ∧ w.cell? ⟨bm, om + p, none⟩ = some Um ∧ bn < w.heap.size ∧ w.cell? ⟨bn, on + p, none⟩ = some Vm ∧ SlM w Um ((wayR m p).map (·.1)) ∧ SlLL w Vm ((wayR m p).map fun y => intsL y.2) := by
 obtain ⟨⟨us, h1, h2, h3⟩, vs, k1, k2, k3⟩ := h
 obtain ⟨b, cc, rfl, hl, hc⟩ := vals_open h1
 obtain ⟨b', cc', rfl, _, hc'⟩ := vals_open k1
 obtain ⟨U, hU⟩ : ∃ U, us[p]? = some U := ⟨_, List.getElem?_eq_getElem (by omega)⟩
 obtain ⟨V, hV⟩ : ∃ V, vs[p]? = some V := ⟨_, List.getElem?_eq_getElem (by omega)⟩
 obtain ⟨ib, io, rfl, lib, hcu⟩ := hc p U hU
 obtain ⟨jb, jo, rfl, ljb, hcv⟩ := hc' p V hV
 rw [h2] at hl ⊢
 rw [k2]
 exact ⟨ib, io, cc, jb, jo, cc', U, V, rfl, rfl, hl, lib, hcu, ljb, hcv, h3 p U hU, k3 p V hV⟩
theorem all_intsL (l g : List Nat) : ((intsL l).all fun x => (intsL g).contains x) = l.all fun i => g.contains i := by
 unfold intsL
 rw [List.all_map]
 congr 1
 funext i
 exact intsL_contains g i
def fstV : Option Mv → Value
 | some x => .tuple #[mvV x, .bool true]
 | none => .tuple #[.agg #[.int .i64 0, .int .i64 0, .int .i64 0], .bool false]
theorem find_at2 {α : Type} (f : α → Bool) {l : List α} {k : Nat} {x : α} (hx : l[k]? = some x) (h0 : ∀ y ∈ l.take k, f y = false) (h1 : f x = true) : l.find? f = some x := by
 have hp : l.take k ++ [x] <+: l := by
  rw [show l.take k ++ [x] = l.take (k + 1) by rw [List.take_add_one, hx]; rfl]
  exact List.take_prefix _ _
 exact find_at f hp h0 h1
theorem mv_store {w : World} {b : Nat} {a0 a1 a2 : Value} {t : TypeId} (h : Blk w b #[a0, a1, a2] t) (x0 x1 x2 : Value) : Blk (((w.setCell ⟨b, 0, none⟩ x0).setCell ⟨b, 1, none⟩ x1).setCell ⟨b, 2, none⟩ x2) b #[x0, x1, x2] t := ((h.set 0 x0).set 1 x1).set 2 x2
theorem mv_store_bel {w w0 : World} {b : Nat} (hb : Below w0.heap.size w0 w) (h : w0.heap.size ≤ b) (x0 x1 x2 : Value) : Below w0.heap.size w0 (((w.setCell ⟨b, 0, none⟩ x0).setCell ⟨b, 1, none⟩ x1).setCell ⟨b, 2, none⟩ x2) := bel_set (bel_set (bel_set hb h _) h _) h _
set_option maxHeartbeats 8000000 in
theorem firstR_spec {w : World} {mv nv gv : Value} {m : List Sol} {g : List Nat} {p : Nat} (HW : WaysR w mv nv m) (HG : SlI w gv (intsL g)) (hp : p < m.length) : Calls Tryz.prog 92 #[.agg #[mv, nv], gv, .int .i64 (p : Int)] w fun e w' => e = .returned (fstV (firstR m g p)) ∧ Below w.heap.size w w' := by
 obtain ⟨bm, om, cm, bn, on, cn, Um, Vm, rfl, rfl, hml, lbm, hcm, lbn, hcn, hSM, hSL⟩ := ways_open HW hp
 obtain ⟨bu, cu, rfl, hul, hcu⟩ := mvs_open (mvs_X hSM)
 obtain ⟨bv, cv, rfl, hvl, hcv⟩ := sll_cell hSL
 simp only [List.length_map] at hul hvl hcu hcv
 obtain ⟨W0, hW0⟩ : ∃ W0, W0 = wayR m p := ⟨_, rfl⟩
 obtain ⟨R, hR⟩ : ∃ R, R = firstR m g p := ⟨_, rfl⟩
 rw [← hR]
 unfold firstR at hR
 rw [← hW0] at hul hvl hcu hcv hR
 have hpI : (p : Int) < (m.length : Int) := by omega
 obtain ⟨n, hn⟩ : ∃ n, n = m.length := ⟨_, rfl⟩
 rw [← hn] at hpI hml
 rw [← hn]
 simp only [List.length_map, ← hW0] at hcm hcn
 have HH := Lib.hid (And.intro HG (And.intro hcu (And.intro hcv hR)))
 clear HW HG hSM hSL hcu hcv hR hW0 hn hp
 obtain ⟨K, hK⟩ : ∃ K, K = W0.length := ⟨_, rfl⟩
 rw [← hK] at hul hvl hcm hcn
 have HK := Lib.hid hK
 clear hK
 go_enter Tryz.func92, Tryz.ntmps92
 go_wp2_with fail
 obtain ⟨wb, hwb⟩ : ∃ wb, wb = (w.alloc (.cells #[.slice (some ⟨bm, om, none⟩) n cm, .slice (some ⟨bn, on, none⟩) n cn] 111)).alloc (.cells #[.int .i64 0, .int .i64 0, .int .i64 0] 25) := ⟨_, rfl⟩
 have hb : Below w.heap.size w wb := by subst hwb; exact (by repeat (first | with_reducible exact bel_refl _ | with_reducible assumption | with_reducible refine bel_drewN ?_ _ | with_reducible refine bel_drew ?_ | with_reducible refine bel_alloc ?_ _ | with_reducible refine bel_row ?_ ?_ _ | with_reducible refine bel_set ?_ ?_ _ | refine bel_trans ?_ (by with_reducible assumption) | (simp; done) | (simp; omega)))
 have B3 : Blk wb w.heap.size #[.slice (some ⟨bm, om, none⟩) n cm, .slice (some ⟨bn, on, none⟩) n cn] 111 := by subst hwb; exact (Blk.new _ _ _).alloc _
 have B6 : Blk wb (w.heap.size + 1) #[.int .i64 0, .int .i64 0, .int .i64 0] 25 := by subst hwb; exact Blk.at _ _ (by simp)
 rw [← hwb]
 clear hwb
 have c0 := B3.cell 0; have c1 := B3.cell 1; have l3 := B3.lt
 have d0 := B6.cell 0; have d1 := B6.cell 1; have d2 := B6.cell 2; have l6 := B6.lt
 simp only [List.getElem?_toArray, List.getElem?_cons_zero, List.getElem?_cons_succ] at c0 c1 d0 d1 d2
 have cm' := ((Grows.cells hb).1 bm _ lbm).trans hcm
 have cn' := ((Grows.cells hb).1 bn _ lbn).trans hcn
 have lbm' : bm < wb.heap.size := Nat.lt_of_lt_of_le lbm hb.size
 have lbn' : bn < wb.heap.size := Nat.lt_of_lt_of_le lbn hb.size
 have HB := Lib.hid (And.intro hb (And.intro B6 (And.intro lbm lbn)))
 obtain ⟨N0, hN0⟩ : ∃ N0, N0 = w.heap.size := ⟨_, rfl⟩
 rw [← hN0] at c0 c1 l3 d0 d1 d2 l6 ⊢
 have HN0 := Lib.hid hN0
 clear B3 B6 hcm hcn lbm lbn hb hN0
 go_loopw [8] (fun iv wx => ∃ (k : Nat), k ≤ K ∧ iv = .int .i64 k ∧ Hid (∀ y ∈ W0.take k, (y.2.all fun i => g.contains i) = false) ∧ wx = wb) (fun iv _ => K - (intOf iv).toNat)
 case atStart => exact ⟨0, Nat.zero_le _, rfl, Lib.hid (fun y hy => by simp at hy), rfl⟩
 case round =>
  obtain ⟨k, hk, rfl, HI, hwr⟩ := hrel
  subst hwr
  by_cases hlt : k < K
  ·obtain ⟨y, hy⟩ : ∃ y, W0[k]? = some y := ⟨_, List.getElem?_eq_getElem (by rw [← HK.out]; exact hlt)⟩
   obtain ⟨x, L⟩ := y
   obtain ⟨ib, io, rfl, lib, e0, e1, e2⟩ := HH.out.2.1 k (intMv x) (by simp [hy])
   obtain ⟨jb, jo, u, rfl, ljb, eu, hsu⟩ := HH.out.2.2.1 k (intsL L) (by simp [hy])
   have e0' := ((Grows.cells HB.out.1).1 ib _ lib).trans e0
   have e1' := ((Grows.cells HB.out.1).1 ib _ lib).trans e1
   have e2' := ((Grows.cells HB.out.1).1 ib _ lib).trans e2
   have eu' := ((Grows.cells HB.out.1).1 jb _ ljb).trans eu
   have lib' := Nat.lt_of_lt_of_le lib HB.out.1.size
   have ljb' := Nat.lt_of_lt_of_le ljb HB.out.1.size
   obtain ⟨pu, cuu, rfl, _, _⟩ := ints_open hsu
   have HPT := Lib.hid (part_spec (hsu.mono HB.out.1) (HH.out.1.mono HB.out.1))
   have HY := Lib.hid hy
   clear hy hsu e0 e1 e2 eu lib ljb
   go_wp2_with fail
   refine HPT.out.mono ?_
   rintro e w2 ⟨rfl, hw2⟩
   have hw3 := hw2.symm
   subst hw3
   clear hw2 HPT
   rw [all_intsL]
   cases ha : (L.all fun i => g.contains i)
   ·have HA := Lib.hid ha; clear ha
    go_wp2_with fail
    refine ⟨⟨k + 1, by omega, by simp, Lib.hid ?_, trivial⟩, by simp [intOf]; omega⟩
    intro z hz
    rw [List.take_add_one, HY.out] at hz
    rcases List.mem_append.1 hz with h | h
    ·exact HI.out z h
    ·simp at h; rw [h]; exact HA.out
   ·have HA := Lib.hid (show R = some x by rw [HH.out.2.2.2, find_at2 _ HY.out HI.out ha]; rfl)
    clear ha
    have f0 : wr.frozen? ⟨N0 + 1, 0, none⟩ = false := by rw [HN0.out]; exact HB.out.2.1.free 0
    have f1 : wr.frozen? ⟨N0 + 1, 1, none⟩ = false := by rw [HN0.out]; exact HB.out.2.1.free 1
    have f2 : wr.frozen? ⟨N0 + 1, 2, none⟩ = false := by rw [HN0.out]; exact HB.out.2.1.free 2
    go_wp2_with fail
    have BS := mv_store (HN0.out ▸ HB.out.2.1) (.int .i64 ((intMv x).fst)) (.int .i64 ((intMv x).snd.fst)) (.int .i64 ((intMv x).snd.snd))
    have s0 := BS.cell 0; have s1 := BS.cell 1; have s2 := BS.cell 2
    simp only [List.getElem?_toArray, List.getElem?_cons_zero, List.getElem?_cons_succ] at s0 s1 s2
    refine bodyPost_ret (v := .tuple #[.agg #[.int .i64 ((intMv x).fst), .int .i64 ((intMv x).snd.fst), .int .i64 ((intMv x).snd.snd)], .bool true]) (by simp [results, Tryz.results92, go_sem, s0, s1, s2]) rfl ⟨?_, mv_store_bel HB.out.1 (by rw [HN0.out]; omega) _ _ _⟩
    rw [HA.out]; rfl
  ·have HKK := Lib.hid (show R = none by
    rw [HH.out.2.2.2, find_no _ (fun y hy => HI.out y (by rw [List.take_of_length_le (by rw [← HK.out]; omega)]; exact hy))]; rfl)
   have hdk : decide ((k : Int) < (K : Int)) = false := decide_eq_false (by omega)
   have f0 : wr.frozen? ⟨N0 + 1, 0, none⟩ = false := by rw [HN0.out]; exact HB.out.2.1.free 0
   have f1 : wr.frozen? ⟨N0 + 1, 1, none⟩ = false := by rw [HN0.out]; exact HB.out.2.1.free 1
   have f2 : wr.frozen? ⟨N0 + 1, 2, none⟩ = false := by rw [HN0.out]; exact HB.out.2.1.free 2
   go_wp2_with fail
   have BS := mv_store (HN0.out ▸ HB.out.2.1) (.int .i64 (0)) (.int .i64 (0)) (.int .i64 (0))
   have s0 := BS.cell 0; have s1 := BS.cell 1; have s2 := BS.cell 2
   simp only [List.getElem?_toArray, List.getElem?_cons_zero, List.getElem?_cons_succ] at s0 s1 s2
   refine bodyPost_ret (v := .tuple #[.agg #[.int .i64 (0), .int .i64 (0), .int .i64 (0)], .bool false]) (by simp [results, Tryz.results92, go_sem, s0, s1, s2]) rfl ⟨?_, mv_store_bel HB.out.1 (by rw [HN0.out]; omega) _ _ _⟩
   rw [HKK.out]; rfl
end Go.Proofs.YtlbhjikkpbknnaaGreatDoor
end
