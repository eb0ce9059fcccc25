import Derived.Test.YtmngjhfhpldifaaDoorHL1
/-
  Given contracts of functions of the program, and laws for them, one behind the other.
-/
set_option linter.unusedVariables false
set_option linter.unusedSimpArgs false
set_option linter.unusedSectionVars false
section
namespace Go.Proofs.YtmngjhfhpldifaaDoor
open Go.RowKit Go.Rel Go.Draw
set_option maxRecDepth 100000
/-! DrawBegun -/
theorem lit_one {W : World} {b : Nat} {x : Value} {l : List Int} {t : TypeId} (h : Blk W b #[x] t) (hx : SlI W x l) : SlLL W (.slice (some ⟨b, 0, none⟩) 1 1) [l] :=
 lit_lists (us := [x]) h (by simp) rfl (fun i u z => by
  match i, u, z with
  | 0, _, _ =>
   intro hu hl
   simp at hu hl
   subst hu hl
   exact hx
  | (i + 1), _, _ =>
   intro hu hl
   simp at hu)
set_option maxHeartbeats 32000000 in
theorem DrawBegun_walk {W : World} {v lv gv : Value} {m : List Sol} {ls : List MvI} {g : List Int} (H : SlS W v m) (HL : SlX W lv ls) (HG : SlI W gv g) (hT : Tab W) : Calls Tryd.prog 8 #[v, lv, gv] W fun e w' => e = .returned (.bool true) ∧ Below W.heap.size W w' := by
 have HF := Lib.hid (few_spec 12 H)
 obtain ⟨b2, c2, rfl, hmx, hcl⟩ := mvs_open HL
 obtain ⟨pg, cg, rfl, hmg, -⟩ := ints_open HG
 have hb1 : Below W.heap.size W (W.alloc (.cells #[.slice pg g.length cg] 23)) := bel_alloc (bel_refl W) _
 have HSh := Lib.hid (short_spec (lit_one (Blk.new W #[.slice pg g.length cg] 23) (HG.mono hb1)))
 have HH := Lib.hid (And.intro H (And.intro HL (And.intro HG (And.intro hT hcl))))
 have HC := Lib.hid (cast_spec hT)
 have HC1 := Lib.hid (cast_spec (hT.grow hb1))
 have HB1 := Lib.hid hb1
 clear H HL HG hT hb1 hcl
 by_cases hfew : (m.length : Int) ≤ 12 ∨ 12 < m.length ∧ m.length ≤ 15
 ·rw [few_ok hfew] at HF
  clear hfew
  by_cases hlen : ls.length ≤ 20
  ·have hln : ¬ (20 < (ls.length : Int)) := by omega
   have hld : decide (20 < (ls.length : Int)) = false := decide_eq_false hln
   cases hsh : ([g].all fun q => decide (q.length ≤ 20))
   ·rw [hsh] at HSh
    clear hsh
    go_enter Tryd.func8, Tryd.ntmps8
    go_wp2_with fail
    refine HF.out.mono ?_
    rintro e w1 ⟨rfl, hw1⟩
    have hw2 := hw1.symm
    subst hw2
    clear hw1
    go_wp2_with fail
    refine HSh.out.mono ?_
    rintro e w1 ⟨rfl, hw1⟩
    subst hw1
    go_wp2_with fail
    refine HC1.out.mono ?_
    rintro e w4 ⟨rfl, hb4⟩
    have H4 := Lib.hid hb4; clear hb4
    go_wp2_with fail
    go_ret
    exact ⟨rfl, bel_trans HB1.out H4.out⟩
   ·rw [hsh] at HSh
    clear hsh
    go_enter Tryd.func8, Tryd.ntmps8
    go_wp2_with fail
    refine HF.out.mono ?_
    rintro e w1 ⟨rfl, hw1⟩
    have hw2 := hw1.symm
    subst hw2
    clear hw1
    go_wp2_with fail
    refine HSh.out.mono ?_
    rintro e w1 ⟨rfl, hw1⟩
    have HB1' : Hid (Below W.heap.size W w1) := Lib.hid (by rw [hw1]; exact HB1.out)
    clear hw1 HB1
    go_wp2_with fail
    refine (CheckOrder_spec (HH.out.1.mono HB1'.out) (HH.out.2.1.mono HB1'.out)).mono ?_
    rintro e w3 ⟨hb3, b, rfl, hb1, hb0⟩
    have H3 := Lib.hid (And.intro (bel_trans HB1'.out hb3) (And.intro hb1 hb0)); clear hb3 hb1 hb0
    have HC3 := Lib.hid (cast_spec (HH.out.2.2.2.1.grow H3.out.1))
    by_cases hE : errM m = 0
    ·rw [hE]
     have hbe := H3.out.2.1 hE
     cases hmade : madeM m ls with
     | none =>
      rw [hmade] at hbe
      replace hbe : b = false := hbe
      subst hbe
      clear hmade hE
      go_wp2_with fail
      refine HC3.out.mono ?_
      rintro e w4 ⟨rfl, hb4⟩
      have H4 := Lib.hid hb4; clear hb4
      go_wp2_with fail
      go_ret
      exact ⟨rfl, bel_trans H3.out.1 H4.out⟩
     | some S =>
      rw [hmade] at hbe
      replace hbe : b = true := hbe
      subst hbe
      have hm := (errM_zero.1 hE).1
      obtain ⟨hfe, hSa⟩ := made_fe hm hmade
      have HX := Lib.hid (And.intro hm (And.intro hE (And.intro hfe (And.intro hSa (And.intro hmade (madeF_gath ls 0 S hmade))))))
      clear hm hfe hSa hmade hE HC HC1 HSh
      go_wp2_with fail
      go_loopw [9, 10] (fun mv iv wx => ∃ (i : Nat) (X : U), i ≤ ls.length ∧ iv = .int .i64 i ∧ Hid (X = gathU (ls.take i) ∧ SlI wx mv (intsL (listU X)) ∧ Below w3.heap.size w3 wx ∧ Sub X (allU 12))) (fun _ iv _ => ls.length - (intOf iv).toNat)
      case atStart => exact ⟨0, 0, Nat.zero_le _, rfl, Lib.hid ⟨rfl, by rw [listU_zero]; exact lit_ints (l := []) (Blk.new w3 #[] 3) (by simp), bel_alloc (bel_refl w3) _, sub_zero _⟩⟩
      case round =>
       obtain ⟨i, X, hi, rfl, HI⟩ := hrel
       have hbr := bel_trans H3.out.1 HI.out.2.2.1
       by_cases hlt : i < ls.length
       ·have hdl : decide ((i : Int) < (ls.length : Int)) = true := decide_eq_true (by omega)
        obtain ⟨x, hx⟩ : ∃ x, ls[i]? = some x := ⟨_, List.getElem?_eq_getElem hlt⟩
        obtain ⟨ib, io, rfl, lib, hc, _, _⟩ := HH.out.2.2.2.2 i x hx
        obtain ⟨q, hqe, hq⟩ := made_piece HX.out.1 HX.out.2.2.2.2.1 hx
        rw [hqe] at hc
        have hq12 : q < 12 := Nat.lt_of_lt_of_le hq HX.out.1
        have hgt := gath_take hx
        rw [← HI.out.1, hqe, Int.toNat_natCast] at hgt
        have c1 := (hbr.cell (p := ⟨ib, io + i * 3, none⟩) lib).trans hc
        have l1 : ib < wr.heap.size := Nat.lt_of_lt_of_le lib hbr.size
        have HU := Lib.hid (Union_spec (HI.out.2.1.mono (bel_alloc (bel_refl wr) (.cells #[.int .i64 (q : Int)] 3))) (sl_news (Blk.new wr #[.int .i64 (q : Int)] 3)))
        rw [unionF_bit HI.out.2.2.2 hq12] at HU
        have HQ := Lib.hid (And.intro hgt (bit_all hq12))
        clear hx hc hqe hq hq12 hgt lib hbr
        go_wp2_with fail
        refine HU.out.mono ?_
        rintro e w6 ⟨hb6, o, rfl, ho⟩
        have H6 := Lib.hid (And.intro (bel_trans (bel_alloc HI.out.2.2.1 (.cells #[.int .i64 (q : Int)] 3)) hb6) ho); clear hb6 ho
        go_wp2_with fail
        exact ⟨⟨i + 1, X ||| bit q, by omega, by simp, Lib.hid ⟨HQ.out.1.symm, OwnI.sl H6.out.2, H6.out.1, or_sub.2 ⟨HI.out.2.2.2, HQ.out.2⟩⟩⟩, by simp [intOf]; omega⟩
       ·obtain rfl : i = ls.length := by omega
        have hXS : X = S := by rw [HI.out.1, List.take_length]; exact HX.out.2.2.2.2.2.symm
        subst hXS
        have HR1 := Lib.hid (Ready_spec (HH.out.1.mono hbr) HI.out.2.1 (HH.out.2.2.2.1.grow hbr))
        have HBR := Lib.hid hbr
        clear hbr
        go_wp2_with fail
        refine HR1.out.mono ?_
        rintro e w5 ⟨hb5, u, rfl, hu0, -⟩
        have hE1 : askE m (intsL (listU X)) [] = 0 := askE_of HX.out.2.1 HX.out.2.2.2.1
        obtain ⟨S', hS', hO⟩ := hu0 hE1
        have hSe : S' = X := Option.some.inj (hS'.symm.trans (setI_of HX.out.1 HX.out.2.2.2.1))
        subst hSe
        rw [hE1]
        obtain ⟨bu, cu, rfl, hmu, hcu⟩ := ints_open (OwnI.sl hO)
        rw [intsL_length] at hmu ⊢
        have H5 := Lib.hid (And.intro (bel_trans HBR.out hb5) (And.intro (HI.out.2.1.mono hb5) hcu))
        clear hb5 hu0 hE1 hS' hO hcu
        have HU := Lib.hid (Union_spec H5.out.2.1 (HH.out.2.2.1.mono H5.out.1))
        go_wp2_with fail
        refine HU.out.mono ?_
        rintro e w6 ⟨hb6, o, rfl, ho⟩
        have hbW6 := bel_trans H5.out.1 hb6
        have HR2 := Lib.hid (Ready_spec (HH.out.1.mono hbW6) (OwnI.sl ho) (HH.out.2.2.2.1.grow hbW6))
        have H6 := Lib.hid (And.intro hbW6 hb6); clear hb6 ho hbW6
        go_wp2_with fail
        refine HR2.out.mono ?_
        rintro e w7 ⟨hb7, u2, rfl, hv0, -⟩
        obtain ⟨x2, hx2⟩ : ∃ x, x = askE m (intsL (unionF (intsL (listU S')) g 12)) [] := ⟨_, rfl⟩
        rw [← hx2] at hv0 ⊢
        have hgo : x2 = 0 → ∃ G, OwnI w7 w6.heap.size u2 (intsL (listU (readyM m G))) ∧ ∀ i : Nat, (readyM m S').getLsbD i = true → g.contains (i : Int) = true ∨ (readyM m G).getLsbD i = true := fun h => by
         obtain ⟨G, hG, hO⟩ := hv0 h
         exact ⟨G, hO, fun i hi => begun_go HX.out.1 HI.out.2.2.2 hG hi⟩
        have H7 := Lib.hid (And.intro (bel_trans H6.out.1 hb7) (And.intro (bel_trans H6.out.2 hb7) hgo))
        clear hb7 hv0 hx2 hgo
        obtain ⟨R, hR⟩ : ∃ R, R = readyM m S' := ⟨_, rfl⟩
        rw [← hR] at H7 H5 hmu ⊢
        have HR := Lib.hid hR; clear hR
        go_wp2_with fail
        go_loopw [15] (fun iv wx => ∃ (i : Nat), i ≤ (listU R).length ∧ iv = .int .i64 i ∧ Hid (wx = w7)) (fun iv _ => (listU R).length - (intOf iv).toNat)
        case atStart => exact ⟨0, Nat.zero_le _, rfl, Lib.hid rfl⟩
        case round =>
         obtain ⟨i, hi, rfl, hwr⟩ := hrel
         have hwr := hwr.out.symm
         subst hwr
         have hcs : (x2 = 0 ∧ i < (listU R).length) ∨ (x2 = 0 ∧ i = (listU R).length) ∨ ((x2 == 0) = false) := by
          by_cases h : x2 = 0
          ·by_cases h2 : i < (listU R).length
           ·exact .inl ⟨h, h2⟩
           ·exact .inr (.inl ⟨h, by omega⟩)
          ·exact .inr (.inr (by simpa using h))
         rcases hcs with ⟨rfl, hlt⟩ | ⟨rfl, rfl⟩ | he2
         ·have hdl : decide ((i : Int) < ((listU R).length : Int)) = true := decide_eq_true (by omega)
          obtain ⟨r, hr⟩ : ∃ r, (listU R)[i]? = some r := ⟨_, List.getElem?_eq_getElem hlt⟩
          have hir : (intsL (listU R))[i]? = some (r : Int) := by unfold intsL; rw [List.getElem?_map, hr]; rfl
          obtain ⟨ib, io, rfl, lib, hcell⟩ := H5.out.2.2 i _ hir
          have hc := hcell i _ hir
          obtain ⟨G, hO, hgo⟩ := H7.out.2.2 rfl
          have hg2 := hgo r ((listU_mem _ _).1 (List.mem_of_getElem? hr))
          have c1 := (H7.out.2.1.cell (p := ⟨ib, io + i, none⟩) lib).trans hc
          have l1 : ib < w7.heap.size := Nat.lt_of_lt_of_le lib H7.out.2.1.size
          have HI1 := Lib.hid (In_spec (r : Int) (HH.out.2.2.1.mono H7.out.1))
          have HI2 := Lib.hid (In_spec (r : Int) (OwnI.sl hO))
          rw [contains_listU] at HI2
          clear hr hir hcell hc hO hgo lib
          cases hg : g.contains (r : Int)
          ·rw [hg] at hg2 HI1
           have hg3 : (readyM m G).getLsbD r = true := by simpa using hg2
           rw [hg3] at HI2
           clear hg2 hg3 hg
           go_wp2_with fail
           refine HI1.out.mono ?_
           rintro e w8 ⟨rfl, hw8⟩
           have hw9 := hw8.symm
           subst hw9
           clear hw8
           go_wp2_with fail
           refine HI2.out.mono ?_
           rintro e w8 ⟨rfl, hw8⟩
           have hw9 := hw8.symm
           subst hw9
           clear hw8
           go_wp2_with fail
           exact ⟨⟨i + 1, by omega, by simp, Lib.hid (by trivial)⟩, by simp [intOf]; omega⟩
          ·rw [hg] at HI1
           clear hg2 hg
           go_wp2_with fail
           refine HI1.out.mono ?_
           rintro e w8 ⟨rfl, hw8⟩
           have hw9 := hw8.symm
           subst hw9
           clear hw8
           go_wp2_with fail
           exact ⟨⟨i + 1, by omega, by simp, Lib.hid (by trivial)⟩, by simp [intOf]; omega⟩
         all_goals
          have h7 := H7.out.2.1
          have hs7 := H5.out.2.1.mono h7
          have HS7 := Lib.hid hs7
          clear h7 hs7
          go_wp2_with fail
          go_loopw [9, 16] (fun mv jv wx => ∃ (j : Nat) (G : U), j ≤ 12 ∧ jv = .int .i64 j ∧ Hid (G = Nat.repeat (stepR m) j S' ∧ SlI wx mv (intsL (listU G)) ∧ Below w7.heap.size w7 wx)) (fun _ jv _ => 12 - (intOf jv).toNat)
          case atStart => exact ⟨0, S', Nat.zero_le _, rfl, Lib.hid ⟨rfl, HS7.out, Below.refl _ _⟩⟩
          case round =>
           obtain ⟨j, G, hj, rfl, HJ⟩ := hrel
           have hbr := bel_trans H7.out.1 HJ.out.2.2
           by_cases hlt : j < 12
           ·have hdj : decide ((j : Int) < 12) = true := decide_eq_true (by omega)
            have hGa : Sub G (allU m.length) := by rw [HJ.out.1]; exact fun i hi => last_all HX.out.1 i ((iter_last HX.out.1 HX.out.2.2.2.1 HX.out.2.2.1 j).2 i hi)
            have HRj := Lib.hid (Ready_spec (HH.out.1.mono hbr) HJ.out.2.1 (HH.out.2.2.2.1.grow hbr))
            have HQ := Lib.hid (And.intro hbr hGa)
            clear hbr hGa
            go_wp2_with fail
            refine HRj.out.mono ?_
            rintro e w8 ⟨hb8, u8, rfl, hu0, -⟩
            have hE1 : askE m (intsL (listU G)) [] = 0 := askE_of HX.out.2.1 HQ.out.2
            obtain ⟨G', hG', hO⟩ := hu0 hE1
            have hGe : G = G' := Option.some.inj ((setI_of HX.out.1 HQ.out.2).symm.trans hG')
            subst hGe
            rw [hE1]
            have HU := Lib.hid (Union_spec (HJ.out.2.1.mono hb8) (OwnI.sl hO))
            rw [unionF_sets (sub_all HX.out.1 HQ.out.2) (sub_all HX.out.1 (ready_all HX.out.1 G))] at HU
            have H8 := Lib.hid (bel_trans HJ.out.2.2 hb8)
            clear hb8 hu0 hE1 hG' hO
            go_wp2_with fail
            refine HU.out.mono ?_
            rintro e w9 ⟨hb9, o9, rfl, ho9⟩
            have H9 := Lib.hid (And.intro (bel_trans H8.out hb9) ho9); clear hb9 ho9
            go_wp2_with fail
            exact ⟨⟨j + 1, G ||| readyM m G, by omega, by simp, Lib.hid ⟨by rw [HJ.out.1]; rfl, OwnI.sl H9.out.2, H9.out.1⟩⟩, by simp [intOf]; omega⟩
           ·obtain rfl : j = 12 := by omega
            rw [show ((12 : Nat) : Int) = (12 : Int) from rfl]
            have hGl : G = lastR m := HJ.out.1.trans (begun_last HX.out.1 HX.out.2.2.2.1 HX.out.2.2.1)
            have HRo := Lib.hid (Rounds_spec (HH.out.1.mono hbr) (HH.out.2.2.2.1.grow hbr))
            have HQ := Lib.hid (And.intro hbr hGl)
            clear hbr hGl
            go_wp2_with fail
            refine HRo.out.mono ?_
            rintro e w8 ⟨hb8, u8, rfl, hu0⟩
            have hLL := (hu0 HX.out.2.1).sll
            rw [HX.out.2.1]
            obtain ⟨K, hK, -, -, hR, hKl⟩ := rounds_spec HX.out.1
            rw [hR] at hLL
            obtain ⟨br, cr, rfl, hrmx, hrc⟩ := sll_cell hLL
            simp only [List.length_map, List.length_range] at hrmx hrc ⊢
            have H8 := Lib.hid (And.intro (bel_trans HQ.out.1 hb8) (And.intro hrc (And.intro hKl (HJ.out.2.1.mono hb8))))
            clear hb8 hu0 hLL hR hKl hrc
            go_wp2_with fail
            go_loopw [21, 22] (fun av kv wx => ∃ (k : Nat), k ≤ K ∧ kv = .int .i64 k ∧ Hid (SlI wx av (intsL (listU (goneR m k))) ∧ Below w8.heap.size w8 wx)) (fun _ kv _ => K - (intOf kv).toNat)
            case atStart => exact ⟨0, Nat.zero_le _, rfl, Lib.hid ⟨by rw [show goneR m 0 = 0 from rfl, listU_zero]; exact sl_nil, Below.refl _ _⟩⟩
            case round =>
             obtain ⟨k, hk, rfl, HK⟩ := hrel
             by_cases hkl : k < K
             ·have hdk : decide ((k : Int) < (K : Int)) = true := decide_eq_true (by omega)
              obtain ⟨jb, jo, us, rfl, ljb, hju, hSu⟩ := H8.out.2.1 k (intsL (listU (readyM m (goneR m k)))) (by simp [hkl])
              have c2 := (HK.out.2.cell (p := ⟨jb, jo + k, none⟩) ljb).trans hju
              have l2 : jb < wr.heap.size := Nat.lt_of_lt_of_le ljb HK.out.2.size
              have HU := Lib.hid (Union_spec HK.out.1 (hSu.mono HK.out.2))
              rw [unionF_sets (sub_all HX.out.1 (gone_all HX.out.1 k)) (sub_all HX.out.1 (ready_all HX.out.1 _))] at HU
              clear hju hSu ljb
              go_wp2_with fail
              refine HU.out.mono ?_
              rintro e w9 ⟨hb9, o9, rfl, ho9⟩
              have H9 := Lib.hid (And.intro (bel_trans HK.out.2 hb9) ho9); clear hb9 ho9
              go_wp2_with fail
              exact ⟨⟨k + 1, by omega, by simp, Lib.hid ⟨OwnI.sl H9.out.2, H9.out.1⟩⟩, by simp [intOf]; omega⟩
             ·obtain rfl : k = K := by omega
              have hbk := bel_trans H8.out.1 HK.out.2
              have HC9 := Lib.hid (cast_spec (HH.out.2.2.2.1.grow hbk))
              have HSL := Lib.hid (fun W' (hb : Below wr.heap.size wr W') => SameInts_spec (HK.out.1.mono hb) ((H8.out.2.2.2.mono HK.out.2).mono hb))
              have HFI := Lib.hid (And.intro hbk (show (intsL (listU (goneR m k)) == intsL (listU G)) = true by rw [H8.out.2.2.1, HQ.out.2]; simp))
              clear hbk
              go_wp2_with fail
              refine HC9.out.mono ?_
              rintro e w9 ⟨rfl, hb9⟩
              have H9 := Lib.hid hb9; clear hb9
              go_wp2_with fail
              refine (HSL.out w9 H9.out).mono ?_
              rintro e w10 ⟨rfl, hb10⟩
              rw [HFI.out.2]
              have H10 := Lib.hid hb10; clear hb10
              go_wp2_with fail
              go_ret
              exact ⟨rfl, bel_trans HFI.out.1 (bel_trans H9.out H10.out)⟩
    ·have e0 : (errM m != 0) = true := by simpa using hE
     have hbe := H3.out.2.2 hE
     subst hbe
     clear hE
     go_wp2_with fail
     refine HC3.out.mono ?_
     rintro e w4 ⟨rfl, hb4⟩
     have H4 := Lib.hid hb4; clear hb4
     go_wp2_with fail
     go_ret
     exact ⟨ret_bool (by simp), bel_trans H3.out.1 H4.out⟩
  ·have hln : 20 < (ls.length : Int) := by omega
   have hld : decide (20 < (ls.length : Int)) = true := decide_eq_true hln
   go_enter Tryd.func8, Tryd.ntmps8
   go_wp2_with fail
   refine HF.out.mono ?_
   rintro e w1 ⟨rfl, hw1⟩
   have hw2 := hw1.symm
   subst hw2
   clear hw1
   go_wp2_with fail
   refine HC.out.mono ?_
   rintro e w4 ⟨rfl, hb4⟩
   have H4 := Lib.hid hb4; clear hb4
   go_wp2_with fail
   go_ret
   exact ⟨rfl, H4.out⟩
 ·rw [few_bad hfew] at HF
  clear hfew
  go_enter Tryd.func8, Tryd.ntmps8
  go_wp2_with fail
  refine HF.out.mono ?_
  rintro e w1 ⟨rfl, hw1⟩
  have hw2 := hw1.symm
  subst hw2
  clear hw1
  go_wp2_with fail
  refine HC.out.mono ?_
  rintro e w4 ⟨rfl, hb4⟩
  have H4 := Lib.hid hb4; clear hb4
  go_wp2_with fail
  go_ret
  exact ⟨rfl, H4.out⟩
end Go.Proofs.YtmngjhfhpldifaaDoor
end
section
namespace Go.Proofs.YtmngjhfhpldifaaDoor
open Go.RowKit Go.Rel Go.Draw
set_option maxRecDepth 100000
/-! Draw and Lock once more: what they give back when there is none -/
set_option maxHeartbeats 8000000 in
theorem Draw_nil {w : World} {v : Value} {l : List Sol} (H : SlS w v l) (hT : Tab w) : Calls Tryd.prog 28 #[v] w fun e w' => Below w.heap.size w w' ∧ ∃ u b, e = .returned (.tuple #[u, .bool b, .int .i64 (errM l)]) ∧ (errM l = 0 → (∃ L, orderM l (allU l.length) = some L ∧ b = true ∧ OwnM w' w.heap.size u L) ∨ (orderM l (allU l.length) = none ∧ b = false ∧ u = .slice none 0 0)) ∧ (errM l ≠ 0 → b = false ∧ u = .slice none 0 0) := by
 have HM := Lib.hid (moulded_x H)
 have HT := Lib.hid hT
 clear H hT
 go_enter Tryd.func28, Tryd.ntmps28
 go_wp2_with fail
 refine HM.out.mono ?_
 rintro e w1 ⟨hb, p, rfl, hx, -⟩
 by_cases h0 : errM l = 0
 ·obtain ⟨hl, g, mb, rfl, hg, hmb, hM⟩ := hx h0
  have HR := Lib.hid (order_spec hM hl (HT.out.grow hb) (allU l.length) (Sub.refl _))
  have HB := Lib.hid (And.intro hb (And.intro hmb h0))
  obtain ⟨pa, pc, hBk, _⟩ := hM.blk
  have cg := hBk.cell; have lg := hBk.lt
  rw [h0]
  clear hb hx h0 hM hBk
  go_wp2_with fail
  refine (all_spec pa l.length pc (by omega) w1).mono ?_
  rintro e w2 ⟨rfl, hw2⟩
  have hw3 := hw2.symm
  subst hw3
  clear hw2
  go_wp2_with fail
  refine HR.out.mono ?_
  rintro e w3 ⟨⟨L, u, ho, rfl, hO⟩ | ⟨ho, rfl⟩, hW, hgr⟩
  ·have HO := Lib.hid (And.intro ho (And.intro hO hgr)); clear ho hO hW hgr
   go_wp2_with fail
   refine bodyPost_ret (v := .tuple #[u, .bool true, .int .i64 0]) (by simp [results, Tryd.results28, go_sem]) rfl ?_
   exact ⟨gb_base HB.out.1 HO.out.2.2 HB.out.2.1, u, true, by rw [HB.out.2.2], fun _ => .inl ⟨L, HO.out.1, rfl, own_weak HO.out.2.1 HB.out.1.size⟩, fun h => absurd HB.out.2.2 h⟩
  ·have HO := Lib.hid (And.intro ho hgr); clear ho hW hgr
   go_wp2_with fail
   refine bodyPost_ret (v := .tuple #[.slice none 0 0, .bool false, .int .i64 0]) (by simp [results, Tryd.results28, go_sem]) rfl ?_
   exact ⟨gb_base HB.out.1 HO.out.2 HB.out.2.1, _, false, by rw [HB.out.2.2], fun _ => .inr ⟨HO.out.1, rfl, rfl⟩, fun h => absurd HB.out.2.2 h⟩
 ·have e0 : (errM l != 0) = true := by simpa using h0
  have HB := Lib.hid (And.intro hb h0)
  clear hb hx h0
  go_wp2_with fail
  refine bodyPost_ret (v := .tuple #[.slice none 0 0, .bool false, .int .i64 (errM l)]) (by simp [results, Tryd.results28, go_sem]) rfl ?_
  exact ⟨HB.out.1, _, _, rfl, (fun h => absurd h HB.out.2), fun _ => ⟨rfl, rfl⟩⟩
set_option maxHeartbeats 8000000 in
theorem Lock_nil {w : World} {v : Value} {l : List Sol} (H : SlS w v l) (hT : Tab w) : Calls Tryd.prog 29 #[v] w fun e w' => Below w.heap.size w w' ∧ ∃ u, e = .returned (.tuple #[u, .int .i64 (errM l)]) ∧ (errM l = 0 → OwnI w' w.heap.size u (intsL (listU (roundsM l).2))) ∧ (errM l ≠ 0 → u = .slice none 0 0) := by
 have HM := Lib.hid (moulded_x H)
 have HT := Lib.hid hT
 clear H hT
 go_enter Tryd.func29, Tryd.ntmps29
 go_wp2_with fail
 refine HM.out.mono ?_
 rintro e w1 ⟨hb, p, rfl, hx, -⟩
 by_cases h0 : errM l = 0
 ·obtain ⟨hl, g, mb, rfl, hg, hmb, hM⟩ := hx h0
  have HR := Lib.hid (rounds_spec' hM hl (HT.out.grow hb))
  have HB := Lib.hid (And.intro hb (And.intro hmb h0))
  rw [h0]
  clear hb hx h0 hM hl
  go_wp2_with fail
  refine HR.out.mono ?_
  rintro e w2 ⟨u, rfl, hO, hW, hgr⟩
  have hb2 := gb_base HB.out.1 hgr HB.out.2.1
  have HL := Lib.hid (list_spec (roundsM l).2 w2 (HT.out.grow hb2))
  have HB2 := Lib.hid hb2
  clear hO hW hgr hb2
  go_wp2_with fail
  refine HL.out.mono ?_
  rintro e w3 ⟨u, rfl, hO, hb3⟩
  go_wp2_with fail
  go_ret2
  exact ⟨bel_trans HB2.out hb3, u, by rw [HB.out.2.2]; rfl, (fun _ => own_weak hO HB2.out.size), fun h => absurd HB.out.2.2 h⟩
 ·have e0 : (errM l != 0) = true := by simpa using h0
  have HB := Lib.hid (And.intro hb h0)
  clear hb hx h0
  go_wp2_with fail
  go_ret2
  exact ⟨HB.out.1, _, by rfl, (fun h => absurd h HB.out.2), fun _ => rfl⟩
end Go.Proofs.YtmngjhfhpldifaaDoor
end
section
namespace Go.Proofs.YtmngjhfhpldifaaDoor
open Go.RowKit Go.Rel Go.Draw
set_option maxRecDepth 100000
/-! DrawEither -/
theorem OwnM.slx {W : World} {base : Nat} {v : Value} {l : List Mv} (h : OwnM W base v l) : SlX W v (l.map intMv) := by
 have := h.sl
 unfold SlM at this
 unfold SlX
 rw [List.map_map]
 exact this
theorem lockB_set {m : List Sol} (hm : m.length ≤ 12) {S : U} (hS : Sub S (allU m.length)) : lockB m (intsL (listU S)) = locksM m S := by
 unfold lockB; rw [setI_of hm hS]
theorem either_cases {m : List Sol} (hm : m.length ≤ 12) (ls : List MvI) (g : List Int) :
  (∃ x, orderM m (allU m.length) = some x ∧ madeM m (x.map intMv) = some (allU m.length) ∧ greatL m = 0 ∧ leastLockM m = none ∧ lockB m g = false) ∨
  (orderM m (allU m.length) = none ∧ greatL m ≠ 0 ∧ madeM m ls ≠ some (allU m.length) ∧ locksM m (greatL m) = true ∧ ∃ b, leastLockM m = some b ∧ locksM m b = true ∧ Sub b (allU m.length) ∧ Sub b (greatL m) ∧ (lockB m g = true → ∃ S, g = intsL (listU S) ∧ Sub S (greatL m) ∧ cardU b ≤ cardU S)) := by
 have e1 := leastLock_isSome hm
 have e2 := first_all hm
 have hlk : lockB m g = true → ∃ S, g = intsL (listU S) ∧ Sub S (allU m.length) ∧ locksM m S = true := fun h => by
  unfold lockB at h
  split at h
  ·rename_i S hS
   exact ⟨S, setI_list hm hS, setI_sub hm hS, h⟩
  ·cases h
 by_cases h0 : greatL m = 0
 ·left
  have h1 := e2.2 h0
  unfold firstM at h1
  obtain ⟨x, hx⟩ := Option.isSome_iff_exists.1 h1
  refine ⟨x, hx, order_made hm (Sub.refl _) hx, h0, ?_, ?_⟩
  ·rw [h0] at e1
   simpa using e1
  ·cases hl : lockB m g
   ·rfl
   ·obtain ⟨S, _, hS, hk⟩ := hlk hl
    obtain ⟨h1, h2⟩ := lock_great hm hS hk
    rw [h0] at h2
    exact absurd (Sub.antisymm h2 (sub_zero _)) h1
 ·right
  have h1 : orderM m (allU m.length) = none := by
   cases hx : orderM m (allU m.length) with
   | none => rfl
   | some x => exact absurd (e2.1 (by unfold firstM; rw [hx]; rfl)) h0
  refine ⟨h1, h0, fun h => h0 (e2.1 ((first_iff m hm _ (Sub.refl _)).2 (made_fe hm h).1)), great_locks hm h0, ?_⟩
  have h2 : (leastLockM m).isSome = true := by rw [e1]; simpa using h0
  obtain ⟨b, hb⟩ := Option.isSome_iff_exists.1 h2
  obtain ⟨h3, h4, h5⟩ := leastLock_some hm hb
  refine ⟨b, hb, h4, h3, (lock_great hm h3 h4).2, fun h => ?_⟩
  obtain ⟨S, hg, hS, hk⟩ := hlk h
  exact ⟨S, hg, (lock_great hm hS hk).2, h5 S hS hk⟩
end Go.Proofs.YtmngjhfhpldifaaDoor
end
section
namespace Go.Proofs.YtmngjhfhpldifaaDoor
open Go.RowKit Go.Rel Go.Draw
set_option maxRecDepth 100000
/-! DrawEither -/
set_option maxHeartbeats 32000000 in
theorem DrawEither_walk {W : World} {v lv gv : Value} {m : List Sol} {ls : List MvI} {g : List Int} (H : SlS W v m) (HL : SlX W lv ls) (HG : SlI W gv g) (hT : Tab W) : Calls Tryd.prog 9 #[v, lv, gv] W fun e w' => e = .returned (.bool true) ∧ Below W.heap.size W w' := by
 have HF := Lib.hid (few_spec 12 H)
 obtain ⟨b2, c2, rfl, hmx, -⟩ := mvs_open HL
 obtain ⟨pg, cg, rfl, hmg, -⟩ := ints_open HG
 have hb1 : Below W.heap.size W (W.alloc (.cells #[.slice pg g.length cg] 23)) := bel_alloc (bel_refl W) _
 have HSh := Lib.hid (short_spec (lit_one (Blk.new W #[.slice pg g.length cg] 23) (HG.mono hb1)))
 have HH := Lib.hid (And.intro H (And.intro HL (And.intro HG hT)))
 have HC := Lib.hid (cast_spec hT)
 have HC1 := Lib.hid (cast_spec (hT.grow hb1))
 have HB1 := Lib.hid hb1
 clear H HL HG hT hb1
 by_cases hfew : (m.length : Int) ≤ 12 ∨ 12 < m.length ∧ m.length ≤ 15
 ·rw [few_ok hfew] at HF
  clear hfew
  by_cases hlen : ls.length ≤ 20
  ·have hln : ¬ (20 < (ls.length : Int)) := by omega
   have hld : decide (20 < (ls.length : Int)) = false := decide_eq_false hln
   cases hsh : ([g].all fun q => decide (q.length ≤ 20))
   ·rw [hsh] at HSh
    clear hsh
    go_enter Tryd.func9, Tryd.ntmps9
    go_wp2_with fail
    refine HF.out.mono ?_
    rintro e w1 ⟨rfl, hw1⟩
    have hw2 := hw1.symm
    subst hw2
    clear hw1
    go_wp2_with fail
    refine HSh.out.mono ?_
    rintro e w1 ⟨rfl, hw1⟩
    subst hw1
    go_wp2_with fail
    refine HC1.out.mono ?_
    rintro e w4 ⟨rfl, hb4⟩
    have H4 := Lib.hid hb4; clear hb4
    go_wp2_with fail
    go_ret
    exact ⟨rfl, bel_trans HB1.out H4.out⟩
   ·rw [hsh] at HSh
    clear hsh
    go_enter Tryd.func9, Tryd.ntmps9
    go_wp2_with fail
    refine HF.out.mono ?_
    rintro e w1 ⟨rfl, hw1⟩
    have hw2 := hw1.symm
    subst hw2
    clear hw1
    go_wp2_with fail
    refine HSh.out.mono ?_
    rintro e w1 ⟨rfl, hw1⟩
    have HB1' : Hid (Below W.heap.size W w1) := Lib.hid (by rw [hw1]; exact HB1.out)
    clear hw1 HB1
    go_wp2_with fail
    obtain ⟨x, hx⟩ : ∃ x, x = errM m := ⟨_, rfl⟩
    refine (Draw_nil (HH.out.1.mono HB1'.out) (HH.out.2.2.2.grow HB1'.out)).mono ?_
    rintro e w2 ⟨hb2, u1, b1, rfl, h1z, h1n⟩
    rw [← hx] at h1z h1n ⊢
    have H2 := Lib.hid (And.intro (bel_trans HB1'.out hb2) (And.intro h1z h1n)); clear hb2 h1z h1n
    go_wp2_with fail
    refine (Lock_nil (HH.out.1.mono H2.out.1) (HH.out.2.2.2.grow H2.out.1)).mono ?_
    rintro e w3 ⟨hb3, u2, rfl, h2z, h2n⟩
    rw [← hx] at h2z h2n ⊢
    have H3 := Lib.hid (And.intro (bel_trans H2.out.1 hb3) (And.intro hb3 (And.intro h2z h2n))); clear hb3 h2z h2n
    go_wp2_with fail
    refine (LeastLock_spec (HH.out.1.mono H3.out.1) (HH.out.2.2.2.grow H3.out.1)).mono ?_
    rintro e w4 ⟨hb4, u3, b3, rfl, h3z, h3n⟩
    rw [← hx] at h3z h3n ⊢
    have H4 := Lib.hid (And.intro (bel_trans H3.out.1 hb4) (And.intro hb4 (And.intro h3z h3n))); clear hb4 h3z h3n
    go_wp2_with fail
    refine (CheckDraw_spec (HH.out.1.mono H4.out.1) (HH.out.2.1.mono H4.out.1)).mono ?_
    rintro e w5 ⟨hb5, b4, rfl, h4z, h4n⟩
    rw [← hx] at h4z h4n ⊢
    have H5 := Lib.hid (And.intro (bel_trans H4.out.1 hb5) (And.intro hb5 (And.intro h4z h4n))); clear hb5 h4z h4n
    go_wp2_with fail
    refine (CheckLock_spec (HH.out.1.mono H5.out.1) (HH.out.2.2.1.mono H5.out.1)).mono ?_
    rintro e w6 ⟨hb6, b5, rfl, h5z, h5n⟩
    rw [← hx] at h5z h5n ⊢
    have H6 := Lib.hid (And.intro (bel_trans H5.out.1 hb6) (And.intro hb6 (And.intro h5z h5n))); clear hb6 h5z h5n
    have HC6 := Lib.hid (cast_spec (HH.out.2.2.2.grow H6.out.1))
    clear HC HC1 HSh HB1'
    by_cases h0 : x = 0
    ·subst h0
     have hE : errM m = 0 := hx.symm
     have hm := (errM_zero.1 hE).1
     have ho1 := H2.out.2.1 rfl
     have ho2 := (H3.out.2.2.1 rfl)
     have ho3 := H4.out.2.2.1 rfl
     have ho4 := H5.out.2.2.1 rfl
     have ho5 := H6.out.2.2.1 rfl
     rw [rounds_left hm] at ho2
     have h46 := bel_trans H5.out.2.1 H6.out.2.1
     have h36 := bel_trans H4.out.2.1 h46
     have h26 := bel_trans H3.out.2.1 h36
     rcases either_cases hm ls g with ⟨y, hy, hmade, hg0, hl0, hlk⟩ | ⟨hn, hg0, hnm, hgl, b, hb, hbl, hbs, hbg, hlk⟩
     ·have hb1 : b1 = true ∧ OwnM w2 w1.heap.size u1 y := by
       rcases ho1 with ⟨L, h1, h2, h3⟩ | ⟨h1, _⟩
       ·rw [hy] at h1; cases h1; exact ⟨h2, h3⟩
       ·rw [hy] at h1; cases h1
      obtain ⟨hb1, ho⟩ := hb1
      have hb3 : b3 = false := by rw [ho3.1, hl0]; rfl
      have hb5 : b5 = false := ho5.trans hlk
      have hl3 := ho3.2
      rw [show lockL m = [] by unfold lockL; rw [hl0]] at hl3
      rw [hg0, listU_zero] at ho2
      have hs2 := (OwnI.sl ho2).mono h36
      have hs3 := (OwnI.sl hl3).mono h46
      have HCo := Lib.hid (Contains_spec hs2 hs3)
      have hs1 := Lib.hid (And.intro (ho.slx.mono h26) (And.intro hE hmade))
      obtain ⟨p2, cc2, rfl, -, -⟩ := ints_open hs2
      obtain ⟨p3, cc3, rfl, -, -⟩ := ints_open hs3
      rw [show ((intsL []).all fun x => (intsL []).contains x) = true from rfl, show (intsL []).length = 0 from rfl] at HCo
      rw [show (intsL []).length = 0 from rfl]
      subst hb1 hb3 hb5
      clear ho1 ho2 ho3 ho4 ho5 hy hmade hg0 hl0 hlk ho hl3 hs2 hs3 h46 h36 h26 hm hx hE H2 H3 H4 H5
      cases b4
      all_goals
       go_wp2_with fail
       refine HCo.out.mono ?_
       rintro e w7 ⟨rfl, hw7⟩
       have hw8 := hw7.symm
       subst hw8
       clear hw7
       go_wp2_with fail
       refine (CheckDraw_spec (HH.out.1.mono H6.out.1) hs1.out.1).mono ?_
       rintro e w7 ⟨hb7, b7, rfl, h7z, -⟩
       rw [hs1.out.2.1]
       have hb7e : b7 = true := (h7z hs1.out.2.1).2 hs1.out.2.2
       subst hb7e
       have H7 := Lib.hid (bel_trans H6.out.1 hb7); clear hb7 h7z
       have HC7 := Lib.hid (cast_spec (HH.out.2.2.2.grow H7.out))
       go_wp2_with fail
       refine HC7.out.mono ?_
       rintro e w8 ⟨rfl, hb8⟩
       have H8 := Lib.hid hb8; clear hb8
       go_wp2_with fail
       go_ret
       exact ⟨rfl, bel_trans H7.out H8.out⟩
     ·have hb1 : b1 = false ∧ u1 = .slice none 0 0 := by
       rcases ho1 with ⟨L, h1, h2, h3⟩ | ⟨_, h1⟩
       ·rw [hn] at h1; cases h1
       ·exact h1
      obtain ⟨hb1, hu1⟩ := hb1
      have hb3 : b3 = true := by rw [ho3.1, hb]; rfl
      have hb4 : b4 = false := by
       cases h : b4
       ·rfl
       ·exact absurd (ho4.1 h) hnm
      have hl3 := ho3.2
      rw [show lockL m = listU b by unfold lockL; rw [hb]] at hl3
      have hs2 := (OwnI.sl ho2).mono h36
      have hs3 := (OwnI.sl hl3).mono h46
      have HCo := Lib.hid (Contains_spec hs2 hs3)
      rw [all_subB, (subB_iff _ _).2 hbg] at HCo
      have HCg := Lib.hid (Contains_spec hs2 (HH.out.2.2.1.mono H6.out.1))
      have hgs : Sub (greatL m) (allU m.length) := sub_andnot _ _
      have hk1 := lockB_set hm hgs
      rw [hgl] at hk1
      have hk2 := lockB_set hm hbs
      rw [hbl] at hk2
      have hs1 := Lib.hid (And.intro hs2 (And.intro hs3 (And.intro hE (And.intro hk1 hk2))))
      obtain ⟨p2, cc2, rfl, -, -⟩ := ints_open hs2
      obtain ⟨p3, cc3, rfl, -, -⟩ := ints_open hs3
      have hlen2 : 0 < (intsL (listU (greatL m))).length := by
       rw [intsL_length]
       refine List.length_pos_iff.2 fun h => hg0 ?_
       apply BitVec.eq_of_getLsbD_eq
       intro i _
       cases hc : (greatL m).getLsbD i
       ·simp
       ·have := (listU_mem _ _).2 hc
        rw [h] at this; cases this
      have hgn : b5 = true → (intsL (listU b)).length ≤ g.length ∧ (g.all fun x => (intsL (listU (greatL m))).contains x) = true := fun h => by
       obtain ⟨S, hS, hSg, hc⟩ := hlk (ho5.symm.trans h)
       rw [hS, intsL_length, intsL_length, all_subB]
       unfold cardU at hc
       exact ⟨hc, (subB_iff _ _).2 hSg⟩
      obtain ⟨n2, hn2⟩ : ∃ n, n = (intsL (listU (greatL m))).length := ⟨_, rfl⟩
      obtain ⟨n3, hn3⟩ : ∃ n, n = (intsL (listU b)).length := ⟨_, rfl⟩
      rw [← hn2] at hlen2 HCo HCg hs1 ⊢
      rw [← hn3] at hgn HCo hs1 ⊢
      have e2 : decide (0 < (n2 : Int)) = true := decide_eq_true (by omega)
      subst hb1 hb3 hb4 hu1
      clear ho1 ho2 ho3 ho4 ho5 hn hg0 hnm hgl hb hbl hbs hbg hlk hl3 hs2 hs3 h46 h36 h26 hm hx hE H2 H3 H4 H5 hk1 hk2 hgs hn2 hn3
      cases b5
      ·clear hgn
       go_wp2_with fail
       refine HCo.out.mono ?_
       rintro e w7 ⟨rfl, hw7⟩
       have hw8 := hw7.symm
       subst hw8
       clear hw7
       go_wp2_with fail
       refine (CheckLock_spec (HH.out.1.mono H6.out.1) hs1.out.1).mono ?_
       rintro e w7 ⟨hb7, b7, rfl, h7z, -⟩
       rw [hs1.out.2.2.1]
       have hb7e : b7 = true := (h7z hs1.out.2.2.1).trans hs1.out.2.2.2.1
       subst hb7e
       have H7 := Lib.hid (And.intro (bel_trans H6.out.1 hb7) hb7); clear hb7 h7z
       go_wp2_with fail
       refine (CheckLock_spec (HH.out.1.mono H7.out.1) (hs1.out.2.1.mono H7.out.2)).mono ?_
       rintro e w8 ⟨hb8, b8, rfl, h8z, -⟩
       rw [hs1.out.2.2.1]
       have hb8e : b8 = true := (h8z hs1.out.2.2.1).trans hs1.out.2.2.2.2
       subst hb8e
       have H8 := Lib.hid (bel_trans H7.out.1 hb8); clear hb8 h8z
       have HC8 := Lib.hid (cast_spec (HH.out.2.2.2.grow H8.out))
       go_wp2_with fail
       refine HC8.out.mono ?_
       rintro e w9 ⟨rfl, hb9⟩
       have H9 := Lib.hid hb9; clear hb9
       go_wp2_with fail
       go_ret
       exact ⟨rfl, bel_trans H8.out H9.out⟩
      ·obtain ⟨hd, hal⟩ := hgn rfl
       rw [hal] at HCg
       clear hgn hal
       go_wp2_with fail
       refine HCo.out.mono ?_
       rintro e w7 ⟨rfl, hw7⟩
       have hw8 := hw7.symm
       subst hw8
       clear hw7
       go_wp2_with fail
       refine HCg.out.mono ?_
       rintro e w7 ⟨rfl, hw7⟩
       have hw8 := hw7.symm
       subst hw8
       clear hw7
       go_wp2_with fail
       refine (CheckLock_spec (HH.out.1.mono H6.out.1) hs1.out.1).mono ?_
       rintro e w7 ⟨hb7, b7, rfl, h7z, -⟩
       rw [hs1.out.2.2.1]
       have hb7e : b7 = true := (h7z hs1.out.2.2.1).trans hs1.out.2.2.2.1
       subst hb7e
       have H7 := Lib.hid (And.intro (bel_trans H6.out.1 hb7) hb7); clear hb7 h7z
       go_wp2_with fail
       refine (CheckLock_spec (HH.out.1.mono H7.out.1) (hs1.out.2.1.mono H7.out.2)).mono ?_
       rintro e w8 ⟨hb8, b8, rfl, h8z, -⟩
       rw [hs1.out.2.2.1]
       have hb8e : b8 = true := (h8z hs1.out.2.2.1).trans hs1.out.2.2.2.2
       subst hb8e
       have H8 := Lib.hid (bel_trans H7.out.1 hb8); clear hb8 h8z
       have HC8 := Lib.hid (cast_spec (HH.out.2.2.2.grow H8.out))
       go_wp2_with fail
       refine HC8.out.mono ?_
       rintro e w9 ⟨rfl, hb9⟩
       have H9 := Lib.hid hb9; clear hb9
       go_wp2_with fail
       go_ret
       exact ⟨rfl, bel_trans H8.out H9.out⟩
    ·have e0 : (x != 0) = true := by simpa using h0
     have hx0 : ¬ (errM m = 0) := by rw [← hx]; exact h0
     obtain ⟨q1, q2⟩ := H2.out.2.2 h0
     have q3 := H3.out.2.2.2 h0
     obtain ⟨q4, q5⟩ := H4.out.2.2.2 h0
     have q6 := H5.out.2.2.2 h0
     have q7 := H6.out.2.2.2 h0
     subst q1 q2 q3 q4 q5 q6 q7
     have e1 : (x != x) = false := by simp
     clear hx hx0 H2 H3 H4 H5
     go_wp2_with fail
     refine HC6.out.mono ?_
     rintro e w8 ⟨rfl, hb8⟩
     have H8 := Lib.hid hb8; clear hb8
     go_wp2_with fail
     go_ret
     exact ⟨rfl, bel_trans H6.out.1 H8.out⟩
  ·have hln : 20 < (ls.length : Int) := by omega
   have hld : decide (20 < (ls.length : Int)) = true := decide_eq_true hln
   go_enter Tryd.func9, Tryd.ntmps9
   go_wp2_with fail
   refine HF.out.mono ?_
   rintro e w1 ⟨rfl, hw1⟩
   have hw2 := hw1.symm
   subst hw2
   clear hw1
   go_wp2_with fail
   refine HC.out.mono ?_
   rintro e w4 ⟨rfl, hb4⟩
   have H4 := Lib.hid hb4; clear hb4
   go_wp2_with fail
   go_ret
   exact ⟨rfl, H4.out⟩
 ·rw [few_bad hfew] at HF
  clear hfew
  go_enter Tryd.func9, Tryd.ntmps9
  go_wp2_with fail
  refine HF.out.mono ?_
  rintro e w1 ⟨rfl, hw1⟩
  have hw2 := hw1.symm
  subst hw2
  clear hw1
  go_wp2_with fail
  refine HC.out.mono ?_
  rintro e w4 ⟨rfl, hb4⟩
  have H4 := Lib.hid hb4; clear hb4
  go_wp2_with fail
  go_ret
  exact ⟨rfl, H4.out⟩
end Go.Proofs.YtmngjhfhpldifaaDoor
end
