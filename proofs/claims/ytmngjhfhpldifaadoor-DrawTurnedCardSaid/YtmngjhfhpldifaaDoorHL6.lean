import Derived.Test.YtmngjhfhpldifaaDoorHL1
/-
  Given contracts of functions of the program, and laws for them, one behind the other.
-/
set_option linter.unusedVariables false
set_option linter.unusedSimpArgs false
set_option linter.unusedSectionVars false
section
namespace Go.Proofs.YtmngjhfhpldifaaDoor
open Go.RowKit Go.Rel Go.Draw
set_option maxRecDepth 100000
/-! DrawBegun -/
theorem lit_one {W : World} {b : Nat} {x : Value} {l : List Int} {t : TypeId} (h : Blk W b #[x] t) (hx : SlI W x l) : SlLL W (.slice (some ⟨b, 0, none⟩) 1 1) [l] :=
 lit_lists (us := [x]) h (by simp) rfl (fun i u z => by
  match i, u, z with
  | 0, _, _ =>
   intro hu hl
   simp at hu hl
   subst hu hl
   exact hx
  | (i + 1), _, _ =>
   intro hu hl
   simp at hu)
set_option maxHeartbeats 32000000 in
theorem DrawBegun_walk {W : World} {v lv gv : Value} {m : List Sol} {ls : List MvI} {g : List Int} (H : SlS W v m) (HL : SlX W lv ls) (HG : SlI W gv g) (hT : Tab W) : Calls Tryd.prog 8 #[v, lv, gv] W fun e w' => e = .returned (.bool true) ∧ Below W.heap.size W w' := by
 have HF := Lib.hid (few_spec 12 H)
 obtain ⟨b2, c2, rfl, hmx, hcl⟩ := mvs_open HL
 obtain ⟨pg, cg, rfl, hmg, -⟩ := ints_open HG
 have hb1 : Below W.heap.size W (W.alloc (.cells #[.slice pg g.length cg] 23)) := bel_alloc (bel_refl W) _
 have HSh := Lib.hid (short_spec (lit_one (Blk.new W #[.slice pg g.length cg] 23) (HG.mono hb1)))
 have HH := Lib.hid (And.intro H (And.intro HL (And.intro HG (And.intro hT hcl))))
 have HC := Lib.hid (cast_spec hT)
 have HC1 := Lib.hid (cast_spec (hT.grow hb1))
 have HB1 := Lib.hid hb1
 clear H HL HG hT hb1 hcl
 by_cases hfew : (m.length : Int) ≤ 12 ∨ 12 < m.length ∧ m.length ≤ 15
 ·rw [few_ok hfew] at HF
  clear hfew
  by_cases hlen : ls.length ≤ 20
  ·have hln : ¬ (20 < (ls.length : Int)) := by omega
   have hld : decide (20 < (ls.length : Int)) = false := decide_eq_false hln
   cases hsh : ([g].all fun q => decide (q.length ≤ 20))
   ·rw [hsh] at HSh
    clear hsh
    go_enter Tryd.func8, Tryd.ntmps8
    go_wp2_with fail
    refine HF.out.mono ?_
    rintro e w1 ⟨rfl, hw1⟩
    have hw2 := hw1.symm
    subst hw2
    clear hw1
    go_wp2_with fail
    refine HSh.out.mono ?_
    rintro e w1 ⟨rfl, hw1⟩
    subst hw1
    go_wp2_with fail
    refine HC1.out.mono ?_
    rintro e w4 ⟨rfl, hb4⟩
    have H4 := Lib.hid hb4; clear hb4
    go_wp2_with fail
    go_ret
    exact ⟨rfl, bel_trans HB1.out H4.out⟩
   ·rw [hsh] at HSh
    clear hsh
    go_enter Tryd.func8, Tryd.ntmps8
    go_wp2_with fail
    refine HF.out.mono ?_
    rintro e w1 ⟨rfl, hw1⟩
    have hw2 := hw1.symm
    subst hw2
    clear hw1
    go_wp2_with fail
    refine HSh.out.mono ?_
    rintro e w1 ⟨rfl, hw1⟩
    have HB1' : Hid (Below W.heap.size W w1) := Lib.hid (by rw [hw1]; exact HB1.out)
    clear hw1 HB1
    go_wp2_with fail
    refine (CheckOrder_spec (HH.out.1.mono HB1'.out) (HH.out.2.1.mono HB1'.out)).mono ?_
    rintro e w3 ⟨hb3, b, rfl, hb1, hb0⟩
    have H3 := Lib.hid (And.intro (bel_trans HB1'.out hb3) (And.intro hb1 hb0)); clear hb3 hb1 hb0
    have HC3 := Lib.hid (cast_spec (HH.out.2.2.2.1.grow H3.out.1))
    by_cases hE : errM m = 0
    ·rw [hE]
     have hbe := H3.out.2.1 hE
     cases hmade : madeM m ls with
     | none =>
      rw [hmade] at hbe
      replace hbe : b = false := hbe
      subst hbe
      clear hmade hE
      go_wp2_with fail
      refine HC3.out.mono ?_
      rintro e w4 ⟨rfl, hb4⟩
      have H4 := Lib.hid hb4; clear hb4
      go_wp2_with fail
      go_ret
      exact ⟨rfl, bel_trans H3.out.1 H4.out⟩
     | some S =>
      rw [hmade] at hbe
      replace hbe : b = true := hbe
      subst hbe
      have hm := (errM_zero.1 hE).1
      obtain ⟨hfe, hSa⟩ := made_fe hm hmade
      have HX := Lib.hid (And.intro hm (And.intro hE (And.intro hfe (And.intro hSa (And.intro hmade (madeF_gath ls 0 S hmade))))))
      clear hm hfe hSa hmade hE HC HC1 HSh
      go_wp2_with fail
      go_loopw [9, 10] (fun mv iv wx => ∃ (i : Nat) (X : U), i ≤ ls.length ∧ iv = .int .i64 i ∧ Hid (X = gathU (ls.take i) ∧ SlI wx mv (intsL (listU X)) ∧ Below w3.heap.size w3 wx ∧ Sub X (allU 12))) (fun _ iv _ => ls.length - (intOf iv).toNat)
      case atStart => exact ⟨0, 0, Nat.zero_le _, rfl, Lib.hid ⟨rfl, by rw [listU_zero]; exact lit_ints (l := []) (Blk.new w3 #[] 3) (by simp), bel_alloc (bel_refl w3) _, sub_zero _⟩⟩
      case round =>
       obtain ⟨i, X, hi, rfl, HI⟩ := hrel
       have hbr := bel_trans H3.out.1 HI.out.2.2.1
       by_cases hlt : i < ls.length
       ·have hdl : decide ((i : Int) < (ls.length : Int)) = true := decide_eq_true (by omega)
        obtain ⟨x, hx⟩ : ∃ x, ls[i]? = some x := ⟨_, List.getElem?_eq_getElem hlt⟩
        obtain ⟨ib, io, rfl, lib, hc, _, _⟩ := HH.out.2.2.2.2 i x hx
        obtain ⟨q, hqe, hq⟩ := made_piece HX.out.1 HX.out.2.2.2.2.1 hx
        rw [hqe] at hc
        have hq12 : q < 12 := Nat.lt_of_lt_of_le hq HX.out.1
        have hgt := gath_take hx
        rw [← HI.out.1, hqe, Int.toNat_natCast] at hgt
        have c1 := (hbr.cell (p := ⟨ib, io + i * 3, none⟩) lib).trans hc
        have l1 : ib < wr.heap.size := Nat.lt_of_lt_of_le lib hbr.size
        have HU := Lib.hid (Union_spec (HI.out.2.1.mono (bel_alloc (bel_refl wr) (.cells #[.int .i64 (q : Int)] 3))) (sl_news (Blk.new wr #[.int .i64 (q : Int)] 3)))
        rw [unionF_bit HI.out.2.2.2 hq12] at HU
        have HQ := Lib.hid (And.intro hgt (bit_all hq12))
        clear hx hc hqe hq hq12 hgt lib hbr
        go_wp2_with fail
        refine HU.out.mono ?_
        rintro e w6 ⟨hb6, o, rfl, ho⟩
        have H6 := Lib.hid (And.intro (bel_trans (bel_alloc HI.out.2.2.1 (.cells #[.int .i64 (q : Int)] 3)) hb6) ho); clear hb6 ho
        go_wp2_with fail
        exact ⟨⟨i + 1, X ||| bit q, by omega, by simp, Lib.hid ⟨HQ.out.1.symm, OwnI.sl H6.out.2, H6.out.1, or_sub.2 ⟨HI.out.2.2.2, HQ.out.2⟩⟩⟩, by simp [intOf]; omega⟩
       ·obtain rfl : i = ls.length := by omega
        have hXS : X = S := by rw [HI.out.1, List.take_length]; exact HX.out.2.2.2.2.2.symm
        subst hXS
        have HR1 := Lib.hid (Ready_spec (HH.out.1.mono hbr) HI.out.2.1 (HH.out.2.2.2.1.grow hbr))
        have HBR := Lib.hid hbr
        clear hbr
        go_wp2_with fail
        refine HR1.out.mono ?_
        rintro e w5 ⟨hb5, u, rfl, hu0, -⟩
        have hE1 : askE m (intsL (listU X)) [] = 0 := askE_of HX.out.2.1 HX.out.2.2.2.1
        obtain ⟨S', hS', hO⟩ := hu0 hE1
        have hSe : S' = X := Option.some.inj (hS'.symm.trans (setI_of HX.out.1 HX.out.2.2.2.1))
        subst hSe
        rw [hE1]
        obtain ⟨bu, cu, rfl, hmu, hcu⟩ := ints_open (OwnI.sl hO)
        rw [intsL_length] at hmu ⊢
        have H5 := Lib.hid (And.intro (bel_trans HBR.out hb5) (And.intro (HI.out.2.1.mono hb5) hcu))
        clear hb5 hu0 hE1 hS' hO hcu
        have HU := Lib.hid (Union_spec H5.out.2.1 (HH.out.2.2.1.mono H5.out.1))
        go_wp2_with fail
        refine HU.out.mono ?_
        rintro e w6 ⟨hb6, o, rfl, ho⟩
        have hbW6 := bel_trans H5.out.1 hb6
        have HR2 := Lib.hid (Ready_spec (HH.out.1.mono hbW6) (OwnI.sl ho) (HH.out.2.2.2.1.grow hbW6))
        have H6 := Lib.hid (And.intro hbW6 hb6); clear hb6 ho hbW6
        go_wp2_with fail
        refine HR2.out.mono ?_
        rintro e w7 ⟨hb7, u2, rfl, hv0, -⟩
        obtain ⟨x2, hx2⟩ : ∃ x, x = askE m (intsL (unionF (intsL (listU S')) g 12)) [] := ⟨_, rfl⟩
        rw [← hx2] at hv0 ⊢
        have hgo : x2 = 0 → ∃ G, OwnI w7 w6.heap.size u2 (intsL (listU (readyM m G))) ∧ ∀ i : Nat, (readyM m S').getLsbD i = true → g.contains (i : Int) = true ∨ (readyM m G).getLsbD i = true := fun h => by
         obtain ⟨G, hG, hO⟩ := hv0 h
         exact ⟨G, hO, fun i hi => begun_go HX.out.1 HI.out.2.2.2 hG hi⟩
        have H7 := Lib.hid (And.intro (bel_trans H6.out.1 hb7) (And.intro (bel_trans H6.out.2 hb7) hgo))
        clear hb7 hv0 hx2 hgo
        obtain ⟨R, hR⟩ : ∃ R, R = readyM m S' := ⟨_, rfl⟩
        rw [← hR] at H7 H5 hmu ⊢
        have HR := Lib.hid hR; clear hR
        go_wp2_with fail
        go_loopw [15] (fun iv wx => ∃ (i : Nat), i ≤ (listU R).length ∧ iv = .int .i64 i ∧ Hid (wx = w7)) (fun iv _ => (listU R).length - (intOf iv).toNat)
        case atStart => exact ⟨0, Nat.zero_le _, rfl, Lib.hid rfl⟩
        case round =>
         obtain ⟨i, hi, rfl, hwr⟩ := hrel
         have hwr := hwr.out.symm
         subst hwr
         have hcs : (x2 = 0 ∧ i < (listU R).length) ∨ (x2 = 0 ∧ i = (listU R).length) ∨ ((x2 == 0) = false) := by
          by_cases h : x2 = 0
          ·by_cases h2 : i < (listU R).length
           ·exact .inl ⟨h, h2⟩
           ·exact .inr (.inl ⟨h, by omega⟩)
          ·exact .inr (.inr (by simpa using h))
         rcases hcs with ⟨rfl, hlt⟩ | ⟨rfl, rfl⟩ | he2
         ·have hdl : decide ((i : Int) < ((listU R).length : Int)) = true := decide_eq_true (by omega)
          obtain ⟨r, hr⟩ : ∃ r, (listU R)[i]? = some r := ⟨_, List.getElem?_eq_getElem hlt⟩
          have hir : (intsL (listU R))[i]? = some (r : Int) := by unfold intsL; rw [List.getElem?_map, hr]; rfl
          obtain ⟨ib, io, rfl, lib, hcell⟩ := H5.out.2.2 i _ hir
          have hc := hcell i _ hir
          obtain ⟨G, hO, hgo⟩ := H7.out.2.2 rfl
          have hg2 := hgo r ((listU_mem _ _).1 (List.mem_of_getElem? hr))
          have c1 := (H7.out.2.1.cell (p := ⟨ib, io + i, none⟩) lib).trans hc
          have l1 : ib < w7.heap.size := Nat.lt_of_lt_of_le lib H7.out.2.1.size
          have HI1 := Lib.hid (In_spec (r : Int) (HH.out.2.2.1.mono H7.out.1))
          have HI2 := Lib.hid (In_spec (r : Int) (OwnI.sl hO))
          rw [contains_listU] at HI2
          clear hr hir hcell hc hO hgo lib
          cases hg : g.contains (r : Int)
          ·rw [hg] at hg2 HI1
           have hg3 : (readyM m G).getLsbD r = true := by simpa using hg2
           rw [hg3] at HI2
           clear hg2 hg3 hg
           go_wp2_with fail
           refine HI1.out.mono ?_
           rintro e w8 ⟨rfl, hw8⟩
           have hw9 := hw8.symm
           subst hw9
           clear hw8
           go_wp2_with fail
           refine HI2.out.mono ?_
           rintro e w8 ⟨rfl, hw8⟩
           have hw9 := hw8.symm
           subst hw9
           clear hw8
           go_wp2_with fail
           exact ⟨⟨i + 1, by omega, by simp, Lib.hid (by trivial)⟩, by simp [intOf]; omega⟩
          ·rw [hg] at HI1
           clear hg2 hg
           go_wp2_with fail
           refine HI1.out.mono ?_
           rintro e w8 ⟨rfl, hw8⟩
           have hw9 := hw8.symm
           subst hw9
           clear hw8
           go_wp2_with fail
           exact ⟨⟨i + 1, by omega, by simp, Lib.hid (by trivial)⟩, by simp [intOf]; omega⟩
         all_goals
          have h7 := H7.out.2.1
          have hs7 := H5.out.2.1.mono h7
          have HS7 := Lib.hid hs7
          clear h7 hs7
          go_wp2_with fail
          go_loopw [9, 16] (fun mv jv wx => ∃ (j : Nat) (G : U), j ≤ 12 ∧ jv = .int .i64 j ∧ Hid (G = Nat.repeat (stepR m) j S' ∧ SlI wx mv (intsL (listU G)) ∧ Below w7.heap.size w7 wx)) (fun _ jv _ => 12 - (intOf jv).toNat)
          case atStart => exact ⟨0, S', Nat.zero_le _, rfl, Lib.hid ⟨rfl, HS7.out, Below.refl _ _⟩⟩
          case round =>
           obtain ⟨j, G, hj, rfl, HJ⟩ := hrel
           have hbr := bel_trans H7.out.1 HJ.out.2.2
           by_cases hlt : j < 12
           ·have hdj : decide ((j : Int) < 12) = true := decide_eq_true (by omega)
            have hGa : Sub G (allU m.length) := by rw [HJ.out.1]; exact fun i hi => last_all HX.out.1 i ((iter_last HX.out.1 HX.out.2.2.2.1 HX.out.2.2.1 j).2 i hi)
            have HRj := Lib.hid (Ready_spec (HH.out.1.mono hbr) HJ.out.2.1 (HH.out.2.2.2.1.grow hbr))
            have HQ := Lib.hid (And.intro hbr hGa)
            clear hbr hGa
            go_wp2_with fail
            refine HRj.out.mono ?_
            rintro e w8 ⟨hb8, u8, rfl, hu0, -⟩
            have hE1 : askE m (intsL (listU G)) [] = 0 := askE_of HX.out.2.1 HQ.out.2
            obtain ⟨G', hG', hO⟩ := hu0 hE1
            have hGe : G = G' := Option.some.inj ((setI_of HX.out.1 HQ.out.2).symm.trans hG')
            subst hGe
            rw [hE1]
            have HU := Lib.hid (Union_spec (HJ.out.2.1.mono hb8) (OwnI.sl hO))
            rw [unionF_sets (sub_all HX.out.1 HQ.out.2) (sub_all HX.out.1 (ready_all HX.out.1 G))] at HU
            have H8 := Lib.hid (bel_trans HJ.out.2.2 hb8)
            clear hb8 hu0 hE1 hG' hO
            go_wp2_with fail
            refine HU.out.mono ?_
            rintro e w9 ⟨hb9, o9, rfl, ho9⟩
            have H9 := Lib.hid (And.intro (bel_trans H8.out hb9) ho9); clear hb9 ho9
            go_wp2_with fail
            exact ⟨⟨j + 1, G ||| readyM m G, by omega, by simp, Lib.hid ⟨by rw [HJ.out.1]; rfl, OwnI.sl H9.out.2, H9.out.1⟩⟩, by simp [intOf]; omega⟩
           ·obtain rfl : j = 12 := by omega
            rw [show ((12 : Nat) : Int) = (12 : Int) from rfl]
            have hGl : G = lastR m := HJ.out.1.trans (begun_last HX.out.1 HX.out.2.2.2.1 HX.out.2.2.1)
            have HRo := Lib.hid (Rounds_spec (HH.out.1.mono hbr) (HH.out.2.2.2.1.grow hbr))
            have HQ := Lib.hid (And.intro hbr hGl)
            clear hbr hGl
            go_wp2_with fail
            refine HRo.out.mono ?_
            rintro e w8 ⟨hb8, u8, rfl, hu0⟩
            have hLL := (hu0 HX.out.2.1).sll
            rw [HX.out.2.1]
            obtain ⟨K, hK, -, -, hR, hKl⟩ := rounds_spec HX.out.1
            rw [hR] at hLL
            obtain ⟨br, cr, rfl, hrmx, hrc⟩ := sll_cell hLL
            simp only [List.length_map, List.length_range] at hrmx hrc ⊢
            have H8 := Lib.hid (And.intro (bel_trans HQ.out.1 hb8) (And.intro hrc (And.intro hKl (HJ.out.2.1.mono hb8))))
            clear hb8 hu0 hLL hR hKl hrc
            go_wp2_with fail
            go_loopw [21, 22] (fun av kv wx => ∃ (k : Nat), k ≤ K ∧ kv = .int .i64 k ∧ Hid (SlI wx av (intsL (listU (goneR m k))) ∧ Below w8.heap.size w8 wx)) (fun _ kv _ => K - (intOf kv).toNat)
            case atStart => exact ⟨0, Nat.zero_le _, rfl, Lib.hid ⟨by rw [show goneR m 0 = 0 from rfl, listU_zero]; exact sl_nil, Below.refl _ _⟩⟩
            case round =>
             obtain ⟨k, hk, rfl, HK⟩ := hrel
             by_cases hkl : k < K
             ·have hdk : decide ((k : Int) < (K : Int)) = true := decide_eq_true (by omega)
              obtain ⟨jb, jo, us, rfl, ljb, hju, hSu⟩ := H8.out.2.1 k (intsL (listU (readyM m (goneR m k)))) (by simp [hkl])
              have c2 := (HK.out.2.cell (p := ⟨jb, jo + k, none⟩) ljb).trans hju
              have l2 : jb < wr.heap.size := Nat.lt_of_lt_of_le ljb HK.out.2.size
              have HU := Lib.hid (Union_spec HK.out.1 (hSu.mono HK.out.2))
              rw [unionF_sets (sub_all HX.out.1 (gone_all HX.out.1 k)) (sub_all HX.out.1 (ready_all HX.out.1 _))] at HU
              clear hju hSu ljb
              go_wp2_with fail
              refine HU.out.mono ?_
              rintro e w9 ⟨hb9, o9, rfl, ho9⟩
              have H9 := Lib.hid (And.intro (bel_trans HK.out.2 hb9) ho9); clear hb9 ho9
              go_wp2_with fail
              exact ⟨⟨k + 1, by omega, by simp, Lib.hid ⟨OwnI.sl H9.out.2, H9.out.1⟩⟩, by simp [intOf]; omega⟩
             ·obtain rfl : k = K := by omega
              have hbk := bel_trans H8.out.1 HK.out.2
              have HC9 := Lib.hid (cast_spec (HH.out.2.2.2.1.grow hbk))
              have HSL := Lib.hid (fun W' (hb : Below wr.heap.size wr W') => SameInts_spec (HK.out.1.mono hb) ((H8.out.2.2.2.mono HK.out.2).mono hb))
              have HFI := Lib.hid (And.intro hbk (show (intsL (listU (goneR m k)) == intsL (listU G)) = true by rw [H8.out.2.2.1, HQ.out.2]; simp))
              clear hbk
              go_wp2_with fail
              refine HC9.out.mono ?_
              rintro e w9 ⟨rfl, hb9⟩
              have H9 := Lib.hid hb9; clear hb9
              go_wp2_with fail
              refine (HSL.out w9 H9.out).mono ?_
              rintro e w10 ⟨rfl, hb10⟩
              rw [HFI.out.2]
              have H10 := Lib.hid hb10; clear hb10
              go_wp2_with fail
              go_ret
              exact ⟨rfl, bel_trans HFI.out.1 (bel_trans H9.out H10.out)⟩
    ·have e0 : (errM m != 0) = true := by simpa using hE
     have hbe := H3.out.2.2 hE
     subst hbe
     clear hE
     go_wp2_with fail
     refine HC3.out.mono ?_
     rintro e w4 ⟨rfl, hb4⟩
     have H4 := Lib.hid hb4; clear hb4
     go_wp2_with fail
     go_ret
     exact ⟨ret_bool (by simp), bel_trans H3.out.1 H4.out⟩
  ·have hln : 20 < (ls.length : Int) := by omega
   have hld : decide (20 < (ls.length : Int)) = true := decide_eq_true hln
   go_enter Tryd.func8, Tryd.ntmps8
   go_wp2_with fail
   refine HF.out.mono ?_
   rintro e w1 ⟨rfl, hw1⟩
   have hw2 := hw1.symm
   subst hw2
   clear hw1
   go_wp2_with fail
   refine HC.out.mono ?_
   rintro e w4 ⟨rfl, hb4⟩
   have H4 := Lib.hid hb4; clear hb4
   go_wp2_with fail
   go_ret
   exact ⟨rfl, H4.out⟩
 ·rw [few_bad hfew] at HF
  clear hfew
  go_enter Tryd.func8, Tryd.ntmps8
  go_wp2_with fail
  refine HF.out.mono ?_
  rintro e w1 ⟨rfl, hw1⟩
  have hw2 := hw1.symm
  subst hw2
  clear hw1
  go_wp2_with fail
  refine HC.out.mono ?_
  rintro e w4 ⟨rfl, hb4⟩
  have H4 := Lib.hid hb4; clear hb4
  go_wp2_with fail
  go_ret
  exact ⟨rfl, H4.out⟩
end Go.Proofs.YtmngjhfhpldifaaDoor
end
