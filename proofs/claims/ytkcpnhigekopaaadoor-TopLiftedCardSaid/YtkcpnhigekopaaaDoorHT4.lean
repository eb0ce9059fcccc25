import Derived.Test.YtkcpnhigekopaaaDoorG20
import Derived.Test.YtkcpnhigekopaaaDoorG21
import Derived.Test.YtkcpnhigekopaaaDoorHS15
/-
  Given contracts of functions of the program, and laws for them, one behind the other.
-/
set_option linter.unusedVariables false
set_option linter.unusedSimpArgs false
set_option linter.unusedSectionVars false
section
namespace Go.Proofs.YtkcpnhigekopaaaDoor
open Go.RowKit Go.Rel Go.Draw Go.Solid
set_option maxRecDepth 100000
/-! the law's example: drawn -/
theorem mvA_lit {W : World} {g : Nat} (h : Blk W g #[.int .i64 1, .int .i64 0, .int .i64 0, .int .i64 0, .int .i64 0, .int .i64 0, .int .i64 2, .int .i64 3, .int .i64 1] 50) : SlX W (.slice (some ⟨g, 0, none⟩) 3 3) [(1, 0, 0), (0, 0, 0), (2, 3, 1)] :=
 sl_block (ls := [(1, 0, 0), (0, 0, 0), (2, 3, 1)].map mvIL) h (fun r hr => by obtain ⟨x, _, rfl⟩ := List.mem_map.1 hr; rfl) rfl (by simp)
set_option maxHeartbeats 16000000 in
theorem drawn_spec {W : World} (hT : Tab W) : Calls Tryd.prog 5 #[] W fun e w' => e = .returned (.bool true) ∧ Below W.heap.size W w' := by
 obtain ⟨i0, hi, hz0, hz1, hz2⟩ := info_parts infoSolid
 have HI0 := Lib.hid (And.intro hi (And.intro hz0 (And.intro hz1 hz2))); clear hi hz0 hz1 hz2
 have HK := Lib.hid fun w => hook_spec w
 have HT := Lib.hid hT
 clear hT
 go_enter Tryd.func5, Tryd.ntmps5
 go_wp2_with fail
 refine (HK.out _).mono ?_
 rintro e w1 ⟨p1, rfl, hs1, hb1⟩
 obtain ⟨bv, cv, hv, hcl⟩ := solz_open hs1
 have hv := hv
 simp only [Value.slice.injEq] at hv
 obtain ⟨rfl, -, -⟩ := hv
 obtain ⟨m, hm⟩ : ∃ m, m = mH := ⟨_, rfl⟩
 have hmov : ∀ s ∈ m, movedM s (0, 0, ((2 : Nat) : Int)) = (upZ 2 s, 0) := by
  subst hm
  exact fun s hs => Prod.ext rfl (hook_ok s hs)
 have hml : m.length = 3 := by subst hm; rfl
 have hmA : m.map (upZ 2) = mA := by subst hm; exact hook_up
 rw [← hm] at hs1 hcl
 have HH := Lib.hid (And.intro hb1 (And.intro hcl (And.intro hmov (And.intro hml hmA))))
 clear hs1 hb1 hcl hm hmov hml hmA
 go_wp2_with fail
 go_loopw [1, 14] (fun tv iv wx => ∃ i : Nat, i ≤ 3 ∧ iv = .int .i64 i ∧ Hid (OwnZ wx w1.heap.size tv ((m.take i).map (upZ 2)) ∧ Below W.heap.size W wx ∧ Below w1.heap.size w1 wx)) (fun _ iv _ => 3 - (intOf iv).toNat)
 case atStart => exact ⟨0, Nat.zero_le _, rfl, Lib.hid ⟨World.ownsRow_nil _ _ _ _, HH.out.1, bel_refl _⟩⟩
 case round =>
  obtain ⟨i, hi, rfl, HI⟩ := hrel
  by_cases hlt : i < 3
  ·have hdl : decide ((i : Int) < 3) = true := decide_eq_true (by omega)
   obtain ⟨s, hs⟩ : ∃ s, m[i]? = some s := ⟨_, List.getElem?_eq_getElem (by rw [HH.out.2.2.2.1]; exact hlt)⟩
   obtain ⟨ib, io, rfl, lib, hcs⟩ := HH.out.2.1 i s hs
   obtain ⟨c0, c1, c2, c3, c4, c5, c6, c7⟩ := sol_cells (hcs.mono HI.out.2.2 lib) hs
   have l1 : ib < wr.heap.size := Nat.lt_of_lt_of_le lib HI.out.2.2.size
   have htk : (m.take (i + 1)).map (upZ 2) = (m.take i).map (upZ 2) ++ [upZ 2 s] := by rw [List.take_add_one, hs]; simp
   have HTk := Lib.hid (And.intro htk (HH.out.2.2.1 s (List.mem_of_getElem? hs)))
   have hbz : Below W.heap.size W wr := HI.out.2.1
   clear hs hcs lib htk hbz
   go_wp2_with fail
   refine (moved_up HTk.out.2 _ (HT.out.grow (bel_alloc HI.out.2.1 _))).mono ?_
   rintro e w6 ⟨rfl, hb6⟩
   have hsz := HI.out.2.1.size
   have hsz1 := HI.out.2.2.size
   have hbA : Below wr.heap.size wr w6 := bel_trans (bel_alloc (bel_refl wr) _) hb6
   have hO6 : OwnZ w6 w1.heap.size u1 ((m.take i).map (upZ 2)) := HI.out.1.kept (gb_below (gb_refl wr none) hbA) (by cases hv : u1.ownBlock <;> simp)
   have hbW6 := bel_trans HI.out.2.1 hbA
   have hb16 := bel_trans HI.out.2.2 hbA
   have hbs := hbW6.size
   have hbs1 := hb16.size
   have hx := hO6
   unfold OwnZ at hx
   rw [List.length_map, List.length_take, Nat.min_eq_left (by rw [HH.out.2.2.2.1]; exact hi)] at hx
   obtain ⟨x, hxx⟩ : ∃ x, x = upZ 2 s := ⟨_, rfl⟩
   rw [← hxx]
   obtain ⟨p6, n6, c6', hu6⟩ := own_shapeN hx
   subst hu6
   have HO := Lib.hid hx
   have HX := Lib.hid (And.intro hbW6 (And.intro hb16 hxx)); clear hx hO6 hbW6 hb16 hxx hbA hb6 c0 c1 c2 c3 c4 c5 c6 c7
   go_wp2_with (first
    | (at_builtin; refine wpList_append_own _ rfl _ _ 22 rfl w1.heap.size 29 i0 _ 8 64 Tryd.underlying22 HI0.out.1 HI0.out.2.1 HI0.out.2.2.1 HI0.out.2.2.2 rfl (by decide) _ _ _ rfl ((HO.out.alloc _).alloc _) ⟨w6.heap.size + 1, 0, none⟩ 1 1 (solL x) rfl rfl (blk_news (Blk.at _ _ (by simp))) (fun y hy => by simp [solL] at hy; rcases hy with rfl | rfl | rfl | rfl | rfl | rfl | rfl | rfl <;> rfl) (by unfold maxLen; omega) (by omega) (by simp; omega) ?_; intro v' w7 hown' hgrow7 hnil7))
   have hb7 : Below w1.heap.size w6 w7 := ((bel_alloc (bel_alloc (bel_refl w6) (.cells #[.int .u64 (pl x 0), .int .u64 (pl x 1), .int .u64 (pl x 2), .int .u64 (pl x 3), .int .u64 (pl x 4), .int .u64 (pl x 5), .int .u64 (pl x 6), .int .u64 (pl x 7)] 29)) (.cells #[.int .u64 (pl x 0), .int .u64 (pl x 1), .int .u64 (pl x 2), .int .u64 (pl x 3), .int .u64 (pl x 4), .int .u64 (pl x 5), .int .u64 (pl x 6), .int .u64 (pl x 7)] 29)).mono hbs1).grown hgrow7 (by simp; omega) (fun j hj => (((HO.out.alloc (.cells #[.int .u64 (pl x 0), .int .u64 (pl x 1), .int .u64 (pl x 2), .int .u64 (pl x 3), .int .u64 (pl x 4), .int .u64 (pl x 5), .int .u64 (pl x 6), .int .u64 (pl x 7)] 29)).alloc (.cells #[.int .u64 (pl x 0), .int .u64 (pl x 1), .int .u64 (pl x 2), .int .u64 (pl x 3), .int .u64 (pl x 4), .int .u64 (pl x 5), .int .u64 (pl x 6), .int .u64 (pl x 7)] 29)).lt j hj).1)
   have hb17 := HX.out.2.1.trans hb7
   refine ⟨⟨i + 1, by omega, by simp, Lib.hid ⟨?_, bel_trans HH.out.1 hb17, hb17⟩⟩, by simp [intOf]; omega⟩
   rw [HTk.out.1, ← HX.out.2.2]
   refine own_snocZ ?_
   rw [List.length_map, List.length_take, Nat.min_eq_left (by rw [HH.out.2.2.2.1]; exact hi)]
   exact hown'
  ·obtain rfl : i = 3 := by omega
   have hO := HI.out.1
   rw [show m.take 3 = m from List.take_of_length_le (by rw [HH.out.2.2.2.1]; omega), HH.out.2.2.2.2] at hO
   have HS := Lib.hid (And.intro hO.sl HI.out.2.1); clear hO
   go_wp2_with fail
   refine (drawA' HS.out.1 (HT.out.grow HS.out.2)).mono ?_
   rintro e w2 ⟨hb2, u2, rfl, hm2⟩
   have H2 := Lib.hid (And.intro hm2 (bel_trans HS.out.2 hb2)); clear hm2 hb2
   go_wp2_with fail
   refine (HK.out _).mono ?_
   rintro e w3 ⟨p3, rfl, hs3, hb3⟩
   have H3 := Lib.hid (And.intro hs3 (And.intro (bel_trans H2.out.2 hb3) (H2.out.1.mono hb3))); clear hs3 hb3
   go_wp2_with fail
   refine (drawH H3.out.1 (HT.out.grow H3.out.2.1)).mono ?_
   rintro e w4 ⟨hb4, u4', rfl⟩
   have H4 := Lib.hid (And.intro (bel_trans H3.out.2.1 hb4) (H3.out.2.2.mono hb4)); clear hb4
   go_wp2_with fail
   have hb5 : Below w4.heap.size w4 (w4.alloc (.cells #[.int .i64 1, .int .i64 0, .int .i64 0, .int .i64 0, .int .i64 0, .int .i64 0, .int .i64 2, .int .i64 3, .int .i64 1] 50)) := bel_alloc (bel_refl w4) _
   have hq := equalMv_spec (H4.out.2.mono hb5) (mvA_lit (Blk.new w4 #[.int .i64 1, .int .i64 0, .int .i64 0, .int .i64 0, .int .i64 0, .int .i64 0, .int .i64 2, .int .i64 3, .int .i64 1] 50))
   have he : (([(1, 0, 0), (0, 0, 0), (2, 3, 1)] : List MvI) == [(1, 0, 0), (0, 0, 0), (2, 3, 1)]) = true := by decide
   rw [he] at hq
   refine hq.mono ?_
   rintro e w8 ⟨rfl, hb8⟩
   have H8 := Lib.hid (bel_trans H4.out.1 (bel_trans hb5 hb8)); clear hb8 hb5 hq he
   go_wp2_with fail
   go_ret
   exact ⟨rfl, H8.out⟩
end Go.Proofs.YtkcpnhigekopaaaDoor
end
section
namespace Go.Proofs.YtkcpnhigekopaaaDoor
open Go.RowKit Go.Rel Go.Draw Go.Solid
set_option maxRecDepth 100000
/-! what the lifted mould answers beside the other one -/
theorem ask_up {m t : List Sol} (hl : t.length = m.length) (e1 : errM m = 0) (e2 : errM t = 0) (p : Int) : askE t [] [p] = askE m [] [p] := by
 unfold askE; rw [e1, e2, hl]
theorem need_up {m t : List Sol} (hE : Eas m t) (e1 : errM m = 0) (e2 : errM t = 0) {p : Int} (h : needE m p = 0) : needE t p = 0 ∧ Sub (needsU t p.toNat) (needsU m p.toNat) := by
 have hm := (errM_zero.1 e1).1
 unfold needE at h ⊢
 rw [ask_up hE.1 e1 e2]
 by_cases ha : askE m [] [p] = 0
 ·rw [if_neg (by simpa using ha)] at h ⊢
  have hp : p.toNat < m.length := by
   unfold askE at ha
   rw [if_neg (by simpa using e1)] at ha
   cases hs : setI m.length [] with
   | none => rw [hs] at ha; cases ha
   | some G =>
    rw [hs] at ha
    simp only at ha
    split at ha
    ·cases ha
    ·next hany =>
     obtain ⟨q, rfl, hq⟩ := askE_p (by simpa using hany)
     simpa using hq
  cases hi : (pathsM m p.toNat).isEmpty
  ·rw [eas_paths hE hm hi]
   exact ⟨rfl, eas_needs hE hm hp⟩
  ·rw [hi] at h; cases h
 ·rw [if_pos ha] at h
  exact absurd h ha
/-- a list of numbers of a set lies in that of a larger one -/
theorem mem_up {A B : U} (h : Sub A B) {x : Int} (hx : x ∈ intsL (listU A)) : (intsL (listU B)).contains x = true := by
 unfold intsL at hx
 obtain ⟨i, hi, rfl⟩ := List.mem_map.1 hx
 exact (contains_listU B i).trans (h i ((listU_mem A i).1 hi))
theorem none_up {A B : U} (h : Sub A B) : ((intsL (listU A)).any fun x => !(intsL (listU B)).contains x) = false := by
 rw [List.any_eq_false]
 intro x hx
 rw [mem_up h hx]; simp
theorem up_list {m : List Sol} {k : Nat} (e1 : errM m = 0) (h : ∀ s ∈ m, (movedM s (0, 0, (k : Int))).2 = 0) : Eas m (m.map (upZ k)) ∧ errM (m.map (upZ k)) = 0 := by
 obtain ⟨hl, hg⟩ := errM_zero.1 e1
 obtain ⟨h1, h2⟩ := moved_list hg h
 have h1' : m.map (upZ k) = shM k m := h1
 rw [h1']
 have hE := sh_eas (m := m) (by omega) k
 exact ⟨hE, errM_zero.2 ⟨by rw [hE.1]; exact hl, h2⟩⟩
end Go.Proofs.YtkcpnhigekopaaaDoor
end
section
namespace Go.Proofs.YtkcpnhigekopaaaDoor
open Go.RowKit Go.Rel Go.Draw Go.Solid
set_option maxRecDepth 100000
/-! TopLifted -/
set_option maxHeartbeats 16000000 in
theorem TopLifted_walk {W : World} {v lv : Value} {m : List Sol} {l : List MvI} {up p : Int} (hup : 0 ≤ up ∧ up < 256) (H : SlS W v m) (HL : SlX W lv l) (hT : Tab W) : Calls Tryd.prog 3 #[v, lv, .int .u8 up, .int .i64 p] W fun e w' => e = .returned (.bool true) ∧ Below W.heap.size W w' := by
 obtain ⟨i0, hi, hz0, hz1, hz2⟩ := info_parts infoSolid
 have HI0 := Lib.hid (And.intro hi (And.intro hz0 (And.intro hz1 hz2))); clear hi hz0 hz1 hz2
 have HM := Lib.hid (upMould_n H)
 obtain ⟨bv, cv, rfl, hcl⟩ := solz_open H
 obtain ⟨bl, cl, rfl, -, -⟩ := mvs_open HL
 have HH := Lib.hid (And.intro H (And.intro HL (And.intro hT hcl)))
 have HD := Lib.hid fun w (h : Below W.heap.size W w) => drawn_spec (hT.grow h)
 clear H HL hT hcl
 by_cases h1 : 14 < m.length
 ·have d1 : decide ((14 : Int) < (m.length : Int)) = true := decide_eq_true (by omega)
  clear h1
  go_enter Tryd.func3, Tryd.ntmps3
  go_wp2_with fail
  refine (HD.out _ (bel_refl W)).mono ?_
  rintro e w4 ⟨rfl, hb4⟩
  have H4 := Lib.hid hb4; clear hb4
  go_wp2_with fail
  go_ret
  exact ⟨rfl, H4.out⟩
 ·have d1 : decide ((14 : Int) < (m.length : Int)) = false := decide_eq_false (by omega)
  by_cases h2 : 20 < l.length
  ·have d2 : decide ((20 : Int) < (l.length : Int)) = true := decide_eq_true (by omega)
   clear h2
   go_enter Tryd.func3, Tryd.ntmps3
   go_wp2_with fail
   refine (HD.out _ (bel_refl W)).mono ?_
   rintro e w4 ⟨rfl, hb4⟩
   have H4 := Lib.hid hb4; clear hb4
   go_wp2_with fail
   go_ret
   exact ⟨rfl, H4.out⟩
  ·have d2 : decide ((20 : Int) < (l.length : Int)) = false := decide_eq_false (by omega)
   by_cases h3 : errM m = 0
   ·rw [h3] at HM
    have HE := Lib.hid h3; clear h3
    go_enter Tryd.func3, Tryd.ntmps3
    go_wp2_with fail
    refine HM.out.mono ?_
    rintro e w1 ⟨rfl, hb1⟩
    have H1 := Lib.hid hb1; clear hb1
    go_wp2_with fail
    obtain ⟨k, hk, hk7⟩ : ∃ k : Nat, (k : Int) = up % 8 ∧ k ≤ 7 := ⟨(up % 8).toNat, by omega, by omega⟩
    have HK := Lib.hid (And.intro hk (And.intro hk7 (And.intro hup (Nat.le_of_not_lt h1)))); clear hk hk7 hup h1 h2
    clear d1 d2
    go_loopw [9, 44] (fun tv iv wx => ∃ i : Nat, i ≤ m.length ∧ iv = .int .i64 i ∧ Hid (OwnZ wx w1.heap.size tv ((m.take i).map (upZ k)) ∧ Below W.heap.size W wx ∧ Below w1.heap.size w1 wx ∧ ∀ s ∈ m.take i, (movedM s (0, 0, (k : Int))).2 = 0)) (fun _ iv _ => m.length - (intOf iv).toNat)
    case atStart => exact ⟨0, Nat.zero_le _, rfl, Lib.hid ⟨World.ownsRow_nil _ _ _ _, H1.out, bel_refl _, fun s hs => by simp at hs⟩⟩
    case round =>
     obtain ⟨i, hi, rfl, HI⟩ := hrel
     by_cases hlt : i < m.length
     ·have hdl : decide ((i : Int) < (m.length : Int)) = true := decide_eq_true (by omega)
      obtain ⟨s, hs⟩ : ∃ s, m[i]? = some s := ⟨_, List.getElem?_eq_getElem hlt⟩
      obtain ⟨ib, io, rfl, lib0, hcs0⟩ := HH.out.2.2.2 i s hs
      have lib : ib < w1.heap.size := Nat.lt_of_lt_of_le lib0 H1.out.size
      have hcs := hcs0.mono H1.out lib0
      obtain ⟨c0, c1, c2, c3, c4, c5, c6, c7⟩ := sol_cells (hcs.mono HI.out.2.2.1 lib) hs
      have l1 : ib < wr.heap.size := Nat.lt_of_lt_of_le lib HI.out.2.2.1.size
      have htk : (m.take (i + 1)).map (upZ k) = (m.take i).map (upZ k) ++ [upZ k s] := by rw [List.take_add_one, hs]; simp
      have htk2 : m.take (i + 1) = m.take i ++ [s] := by rw [List.take_add_one, hs]; simp
      have HTk := Lib.hid (And.intro htk htk2)
      clear hs hcs lib htk htk2 hcs0 lib0
      go_wp2_with fail
      have hkw : wrap64 (up.tmod 8) = (k : Int) := by
       have := HK.out
       rw [Int.tmod_eq_emod_of_nonneg (by omega), Go.IntWalk.wrap64_in _ (by omega)]; omega
      rw [hkw]
      clear hkw
      obtain ⟨err, herr⟩ : ∃ err, err = (movedM s (0, 0, (k : Int))).2 := ⟨_, rfl⟩
      have hmv : movedM s (0, 0, (k : Int)) = (upZ k s, err) := by rw [herr]; rfl
      obtain ⟨x, hxx⟩ : ∃ x, x = upZ k s := ⟨_, rfl⟩
      rw [← hxx] at hmv
      refine (moved_up hmv _ (HH.out.2.2.1.grow (bel_alloc HI.out.2.1 _))).mono ?_
      rintro e w6 ⟨rfl, hb6⟩
      have hbA : Below wr.heap.size wr w6 := bel_trans (bel_alloc (bel_refl wr) _) hb6
      have hbW6 := bel_trans HI.out.2.1 hbA
      have hb16 := bel_trans HI.out.2.2.1 hbA
      have hbs1 := hb16.size
      have hO6 : OwnZ w6 w1.heap.size u9 ((m.take i).map (upZ k)) := HI.out.1.kept (gb_below (gb_refl wr none) hbA) (by cases hv : u9.ownBlock <;> simp)
      have hx := hO6
      unfold OwnZ at hx
      rw [List.length_map, List.length_take, Nat.min_eq_left hi] at hx
      obtain ⟨p6, n6, c6', hu6⟩ := own_shapeN hx
      subst hu6
      have HO := Lib.hid hx
      have HX := Lib.hid (And.intro hbW6 (And.intro hb16 (And.intro hxx herr))); clear hx hO6 hbW6 hb16 hxx herr hbA hb6 hmv c0 c1 c2 c3 c4 c5 c6 c7
      by_cases h0 : err = 0
      ·subst h0
       have HK14 : m.length ≤ 14 := HK.out.2.2.2
       go_wp2_with (first
        | (at_builtin; refine wpList_append_own _ rfl _ _ 22 rfl w1.heap.size 29 i0 _ 8 64 Tryd.underlying22 HI0.out.1 HI0.out.2.1 HI0.out.2.2.1 HI0.out.2.2.2 rfl (by decide) _ _ _ rfl ((HO.out.alloc _).alloc _) ⟨w6.heap.size + 1, 0, none⟩ 1 1 (solL x) rfl rfl (blk_news (Blk.at _ _ (by simp))) (fun y hy => by simp [solL] at hy; rcases hy with rfl | rfl | rfl | rfl | rfl | rfl | rfl | rfl <;> rfl) (by unfold maxLen; omega) (by omega) (by simp; omega) ?_; intro v' w7 hown' hgrow7 hnil7))
       have hb7 : Below w1.heap.size w6 w7 := ((bel_alloc (bel_alloc (bel_refl w6) (.cells #[.int .u64 (pl x 0), .int .u64 (pl x 1), .int .u64 (pl x 2), .int .u64 (pl x 3), .int .u64 (pl x 4), .int .u64 (pl x 5), .int .u64 (pl x 6), .int .u64 (pl x 7)] 29)) (.cells #[.int .u64 (pl x 0), .int .u64 (pl x 1), .int .u64 (pl x 2), .int .u64 (pl x 3), .int .u64 (pl x 4), .int .u64 (pl x 5), .int .u64 (pl x 6), .int .u64 (pl x 7)] 29)).mono hbs1).grown hgrow7 (by simp; omega) (fun j hj => (((HO.out.alloc (.cells #[.int .u64 (pl x 0), .int .u64 (pl x 1), .int .u64 (pl x 2), .int .u64 (pl x 3), .int .u64 (pl x 4), .int .u64 (pl x 5), .int .u64 (pl x 6), .int .u64 (pl x 7)] 29)).alloc (.cells #[.int .u64 (pl x 0), .int .u64 (pl x 1), .int .u64 (pl x 2), .int .u64 (pl x 3), .int .u64 (pl x 4), .int .u64 (pl x 5), .int .u64 (pl x 6), .int .u64 (pl x 7)] 29)).lt j hj).1)
       have hb17 := HX.out.2.1.trans hb7
       refine ⟨⟨i + 1, by omega, by simp, Lib.hid ⟨?_, bel_trans H1.out hb17, hb17, ?_⟩⟩, by simp [intOf]; omega⟩
       ·rw [HTk.out.1, ← HX.out.2.2.1]
        refine own_snocZ ?_
        rw [List.length_map, List.length_take, Nat.min_eq_left hi]
        exact hown'
       ·rw [HTk.out.2]
        intro y hy
        rcases List.mem_append.1 hy with hy | hy
        ·exact HI.out.2.2.2 y hy
        ·rw [List.mem_singleton.1 hy]; exact HX.out.2.2.2.symm
      ·have d0 : (err == 0) = false := by simpa using h0
       clear h0
       go_wp2_with fail
       refine (HD.out _ (bel_alloc HX.out.1 _)).mono ?_
       rintro e w8 ⟨rfl, hb8⟩
       have H8 := Lib.hid (bel_trans (bel_alloc HX.out.1 _) hb8); clear hb8
       go_wp2_with fail
       go_ret
       exact ⟨rfl, H8.out⟩
     ·obtain rfl : i = m.length := by omega
      have hO := HI.out.1
      rw [List.take_length] at hO
      obtain ⟨hEas, hEt⟩ := up_list (k := k) HE.out (by have := HI.out.2.2.2; rwa [List.take_length] at this)
      obtain ⟨t, ht⟩ : ∃ t, t = m.map (upZ k) := ⟨_, rfl⟩
      rw [← ht] at hO hEas hEt
      have HS := Lib.hid (And.intro hO.sl (And.intro HI.out.2.1 (And.intro hEas hEt))); clear hO hEas hEt ht
      go_wp2_with fail
      refine (CheckOrder_spec (HH.out.1.mono HS.out.2.1) (HH.out.2.1.mono HS.out.2.1)).mono ?_
      rintro e w2 ⟨hb2, q1, rfl, hq1, -⟩
      rw [HE.out]
      have hq1' := hq1 HE.out
      have H2 := Lib.hid (And.intro hb2 (And.intro (bel_trans HS.out.2.1 hb2) hq1')); clear hb2 hq1 hq1'
      go_wp2_with fail
      refine (CheckOrder_spec (HS.out.1.mono H2.out.1) (HH.out.2.1.mono H2.out.2.1)).mono ?_
      rintro e w3 ⟨hb3, q2, rfl, hq2, -⟩
      rw [HS.out.2.2.2]
      have hq2' := hq2 HS.out.2.2.2
      have hqq : q1 = true → q2 = true := fun h => by
       rw [H2.out.2.2] at h
       rw [hq2']
       exact eas_made HS.out.2.2.1 h
      have H3 := Lib.hid (And.intro (bel_trans H2.out.1 hb3) (bel_trans H2.out.2.1 hb3)); clear hb3 hq2 hq2' H2
      have hcc : q1 = false ∨ q1 = true ∧ q2 = true := by
       cases q1
       ·exact .inl rfl
       ·exact .inr ⟨rfl, hqq rfl⟩
      clear hqq
      rcases hcc with rfl | ⟨rfl, rfl⟩
      all_goals
       go_wp2_with fail
       refine (Lock_spec (HS.out.1.mono H3.out.1) (HH.out.2.2.1.grow H3.out.2)).mono ?_
       rintro e w4 ⟨hb4, u4', rfl, hl1⟩
       rw [HS.out.2.2.2]
       have hl1' := hl1 HS.out.2.2.2
       have H4 := Lib.hid (And.intro (bel_trans H3.out.1 hb4) (And.intro (bel_trans H3.out.2 hb4) hl1'.sl)); clear hb4 hl1 hl1' H3
       go_wp2_with fail
       refine (Lock_spec (HH.out.1.mono H4.out.2.1) (HH.out.2.2.1.grow H4.out.2.1)).mono ?_
       rintro e w5 ⟨hb5, u5', rfl, hl2⟩
       rw [HE.out]
       have hl2' := hl2 HE.out
       have H5 := Lib.hid (And.intro (bel_trans H4.out.1 hb5) (And.intro (bel_trans H4.out.2.1 hb5) (And.intro (H4.out.2.2.mono hb5) (And.intro hl2'.sl (eas_left HS.out.2.2.1 (errM_zero.1 HE.out).1))))); clear hb5 hl2 hl2' H4
       obtain ⟨A, hA⟩ : ∃ A, A = intsL (listU (roundsM t).2) := ⟨_, rfl⟩
       obtain ⟨B, hB⟩ : ∃ B, B = intsL (listU (roundsM m).2) := ⟨_, rfl⟩
       have hAB : ∀ x ∈ A, B.contains x = true := fun x hx => by
        rw [hB]; rw [hA] at hx
        exact mem_up H5.out.2.2.2.2 hx
       have hAl : A.length ≤ 64 := by
        rw [hA, intsL, List.length_map]
        exact cardU_le _
       have hsA := H5.out.2.2.1
       have hsB := H5.out.2.2.2.1
       rw [← hA] at hsA
       rw [← hB] at hsB
       have H5' := Lib.hid (And.intro H5.out.1 (And.intro H5.out.2.1 (And.intro hsB hAB)))
       obtain ⟨ab, an, ac, rfl, han, -, hAH⟩ := ints_op hsA
       subst han
       have HA := Lib.hid hAH
       clear H5 hA hB hsA hsB hAB hAH
       go_wp2_with fail
       go_loopw [107] (fun iv wx => ∃ j : Nat, j ≤ A.length ∧ iv = .int .i64 j ∧ wx = w5) (fun iv _ => A.length - (intOf iv).toNat)
       case atStart => exact ⟨0, Nat.zero_le _, rfl, rfl⟩
       case round =>
        obtain ⟨j, hj, rfl, hwr⟩ := hrel
        subst hwr
        by_cases hlt : j < A.length
        ·have hdl : decide ((j : Int) < (A.length : Int)) = true := decide_eq_true (by omega)
         obtain ⟨z, hz⟩ : ∃ z, A[j]? = some z := ⟨_, List.getElem?_eq_getElem hlt⟩
         obtain ⟨ib, io, rfl, lib, hc⟩ := HA.out j z hz
         have hck := hc j z hz
         have hct := contains_at (z := z) H5'.out.2.2.1
         rw [H5'.out.2.2.2 z (List.mem_of_getElem? hz)] at hct
         have HC := Lib.hid hct
         clear hz hc hct
         go_wp2_with fail
         refine HC.out.mono ?_
         rintro e w6 ⟨rfl, hw6⟩
         have hw7 := hw6.symm
         subst hw7
         clear hw6
         go_wp2_with fail
         exact ⟨⟨j + 1, by omega, by simp, trivial⟩, by simp [intOf]; omega⟩
        ·obtain rfl : j = A.length := by omega
         go_wp2_with fail
         refine (Needs_spec (p := p) (HS.out.1.mono H5'.out.1) (HH.out.2.2.1.grow H5'.out.2.1)).mono ?_
         rintro e w6 ⟨hb6, a', rfl, hn1, -⟩
         obtain ⟨eT, heT⟩ : ∃ x, x = needE t p := ⟨_, rfl⟩
         rw [← heT] at hn1 ⊢
         have H6 := Lib.hid (And.intro (bel_trans H5'.out.1 hb6) (And.intro (bel_trans H5'.out.2.1 hb6) (And.intro hn1 heT))); clear hb6 hn1 heT H5'
         go_wp2_with fail
         refine (Needs_spec (p := p) (HH.out.1.mono H6.out.2.1) (HH.out.2.2.1.grow H6.out.2.1)).mono ?_
         rintro e w7 ⟨hb7, b', rfl, hn2, hn2z⟩
         by_cases hM0 : needE m p = 0
         ·rw [hM0]
          obtain ⟨hT0, hsub⟩ := need_up HS.out.2.2.1 HE.out HS.out.2.2.2 hM0
          obtain rfl : eT = 0 := H6.out.2.2.2.trans hT0
          have ha := ((H6.out.2.2.1 rfl).sl).mono hb7
          have hb := (hn2 hM0).sl
          have hany := none_up hsub
          obtain ⟨b0, b1, b2, rfl, -, -, -⟩ := ints_op hb
          obtain ⟨A2, hA2⟩ : ∃ A2, A2 = intsL (listU (needsU t p.toNat)) := ⟨_, rfl⟩
          obtain ⟨B2, hB2⟩ : ∃ B2, B2 = intsL (listU (needsU m p.toNat)) := ⟨_, rfl⟩
          rw [← hA2] at ha hany
          rw [← hB2] at hb hany
          have H7 := Lib.hid (And.intro (bel_trans H6.out.2.1 hb7) (And.intro ha (And.intro hb hany)))
          clear hb7 hn2 hn2z hM0 hT0 hsub ha hb hany hA2 hB2 H6
          go_wp2_with fail
          refine (HD.out _ (bel_alloc H7.out.1 _)).mono ?_
          rintro e w8 ⟨rfl, hb8⟩
          have hb78 := bel_trans (bel_alloc (bel_refl w7) (.cells #[.slice b0 b1 b2] 34)) hb8
          have Bv : Blk w8 w7.heap.size #[.slice b0 b1 b2] 34 := (Blk.new w7 #[.slice b0 b1 b2] 34).grow hb8
          have hsb := H7.out.2.2.1.mono hb78
          have hsa := H7.out.2.1.mono hb78
          have hF := containsF_ints (c0 := .pointer (some ⟨w7.heap.size, 0, none⟩)) (p := fun x => !B2.contains x) hsa (fun x _ => lifted1_spec x Bv hsb)
          rw [H7.out.2.2.2] at hF
          have H8 := Lib.hid (And.intro (bel_trans H7.out.1 hb78) hF)
          clear hb8 hb78 Bv hsb hsa hF
          go_wp2_with fail
          refine H8.out.2.mono ?_
          rintro e w9 ⟨rfl, hw9⟩
          have hw10 := hw9.symm
          subst hw10
          clear hw9
          go_wp2_with fail
          go_ret
          exact ⟨rfl, H8.out.1⟩
         ·obtain rfl := hn2z hM0
          clear hn2z
          obtain ⟨eM, heM⟩ : ∃ x, x = needE m p := ⟨_, rfl⟩
          rw [← heM] at hM0 ⊢
          have dM : (eM == 0) = false := by simpa using hM0
          have H7 := Lib.hid (bel_trans H6.out.2.1 hb7)
          clear hb7 hn2 heM H6 hM0
          go_wp2_with fail
          refine (HD.out _ (bel_alloc H7.out _)).mono ?_
          rintro e w8 ⟨rfl, hb8⟩
          have H8 := Lib.hid (bel_trans (bel_alloc H7.out _) hb8); clear hb8
          go_wp2_with fail
          go_ret
          exact ⟨rfl, H8.out⟩
   ·obtain ⟨E, hE⟩ : ∃ E, E = errM m := ⟨_, rfl⟩
    rw [← hE] at HM h3
    clear hE
    have d3 : (E == 0) = false := by simpa using h3
    go_enter Tryd.func3, Tryd.ntmps3
    go_wp2_with fail
    refine HM.out.mono ?_
    rintro e w1 ⟨rfl, hb1⟩
    have H1 := Lib.hid hb1; clear hb1
    go_wp2_with fail
    refine (HD.out _ H1.out).mono ?_
    rintro e w4 ⟨rfl, hb4⟩
    have H4 := Lib.hid hb4; clear hb4
    go_wp2_with fail
    go_ret
    exact ⟨rfl, bel_trans H1.out H4.out⟩
end Go.Proofs.YtkcpnhigekopaaaDoor
end
section
namespace Go.Proofs.YtkcpnhigekopaaaDoor
open Go.RowKit Go.Rel Go.ChangeShapes Go.WideShapes Go.Draw
set_option maxRecDepth 100000
/-! a number of one byte, opened -/
theorem open_u8 {H : Type} {enc : TypeId × Value → H} {W : World} {base b0 : Nat} {r : Reach} {sp : Nat → Bool} {held : Bool} {v : Value} {d : DataW H} {p : List MemPlace} (hv : Value.okWide Tryd.prog W r b0 5 v) (h : DataW.Trod enc Tryd.prog W base sp held 5 v d p) : ∃ n : Int, v = .int .u8 n ∧ 0 ≤ n ∧ n < 256 := by
 obtain ⟨n, rfl, h1, h2, h3⟩ := open_int Tryd.underlying5 hv h
 refine ⟨n, rfl, ?_⟩
 simp [Lit.wf, IntKind.min, IntKind.max, IntKind.signed, IntKind.bits] at h3
 omega
end Go.Proofs.YtkcpnhigekopaaaDoor
end
