import Derived.Test.YtccnkebkgegohaaGreatDoorG13
/-
  Given contracts of functions of the program, and laws for them, one behind the other.
-/
set_option linter.unusedVariables false
set_option linter.unusedSimpArgs false
set_option linter.unusedSectionVars false
section
namespace Go.Proofs.YtccnkebkgegohaaGreatDoor
open Go.RowKit Go.Rel
set_option maxRecDepth 100000
set_option maxHeartbeats 8000000 in
theorem both_good_true {blank : Sol} {v av : Value} {l : List Sol} {acts : List Ac} {s : Stn} (h : begunM blank l acts = .inr s) {blank2 : Sol} {v2 av2 : Value} {l2 : List Sol} {acts2 : List Ac} {s2 : Stn} (h2 : begunM blank2 l2 acts2 = .inr s2) (w : World) (Hv : SlS w v l) (Hav : SlA w av acts) (Hv2 : SlS w v2 l2) (Hav2 : SlA w av2 acts2) (hbl : (blank == blank2) = true) :
    Calls Tryz.prog 107 #[.agg #[.int .u64 (pl blank 0), .int .u64 (pl blank 1), .int .u64 (pl blank 2), .int .u64 (pl blank 3), .int .u64 (pl blank 4), .int .u64 (pl blank 5), .int .u64 (pl blank 6), .int .u64 (pl blank 7), v, av], .agg #[.int .u64 (pl blank2 0), .int .u64 (pl blank2 1), .int .u64 (pl blank2 2), .int .u64 (pl blank2 3), .int .u64 (pl blank2 4), .int .u64 (pl blank2 5), .int .u64 (pl blank2 6), .int .u64 (pl blank2 7), v2, av2]] w fun e w' => ∃ bp bq, e = .returned (.tuple #[.pointer (some ⟨bp, 0, none⟩), .pointer (some ⟨bq, 0, none⟩), .bool (l == l2), .int .i64 0]) ∧ PastAt bp blank v av l acts s w' ∧ PastAt bq blank2 v2 av2 l2 acts2 s2 w' ∧ Below w.heap.size w w' := by
  have H := Lib.hid fun w' (hb : Below w.heap.size w w') => begun_good h w' (Hv.mono hb) (Hav.mono hb)
  have H2 := Lib.hid fun w' (hb : Below w.heap.size w w') => begun_good h2 w' (Hv2.mono hb) (Hav2.mono hb)
  have HE := Lib.hid fun w' (hb : Below w.heap.size w w') => EqualSol_spec v v2 l l2 w' (Hv.mono hb) (Hv2.mono hb)
  generalize hr : (l == l2) = r at HE
  have hvs : ∃ a n c, v = .slice a n c := by obtain ⟨a, c, h, _⟩ := Hv; exact ⟨_, _, _, h⟩
  have hvs2 : ∃ a n c, v2 = .slice a n c := by obtain ⟨a, c, h, _⟩ := Hv2; exact ⟨_, _, _, h⟩
  clear h h2 Hv Hav Hv2 Hav2
  go_enter Tryz.func107, Tryz.ntmps107
  go_wp2_with fail
  refine (H.out _ bel_by).mono ?_
  rintro e w1 ⟨bp, rfl, hbp, hP, hb⟩
  have hB1 : Below w.heap.size w w1 := bel_trans bel_by hb
  have g2 : Blk w1 (w.heap.size + 1) #[.int .u64 (pl blank2 0), .int .u64 (pl blank2 1), .int .u64 (pl blank2 2), .int .u64 (pl blank2 3), .int .u64 (pl blank2 4), .int .u64 (pl blank2 5), .int .u64 (pl blank2 6), .int .u64 (pl blank2 7), v2, av2] 30 := Blk.grow blk_by hb
  have cg := g2.cell
  have lg := g2.lt
  clear hb g2
  go_wp2_with fail
  refine (H2.out _ hB1).mono ?_
  rintro e w2 ⟨bq, rfl, hbq, hP2, hb2⟩
  have hB2 : Below w.heap.size w w2 := bel_trans hB1 hb2
  have HP := Lib.hid (And.intro (hP.grow hb2) hP2); clear hP hP2
  refine Veil.out ?_
  obtain ⟨dv, hpast, _⟩ := HP.out.1.past
  obtain ⟨dv2, hpast2, _⟩ := HP.out.2.past
  refine Veil.on ?_
  have cp := hpast.cell
  have lp := hpast.lt
  have cq := hpast2.cell
  have lq := hpast2.lt
  clear hpast hpast2 cg lg hb2
  go_wp2_with fail
  refine wp_region_inv Grows (fun _ _ => True) [Is (.pointer (some ⟨bp, 0, none⟩)), Is (.pointer (some ⟨bq, 0, none⟩)), Is (.pointer (some ⟨bp, 0, none⟩)), Is (.pointer (some ⟨bp, 0, none⟩)), Is (.pointer (some ⟨bp, 0, none⟩)), Is (.pointer (some ⟨bp, 0, none⟩)), Is (.agg #[.int .u64 (pl blank 0), .int .u64 (pl blank 1), .int .u64 (pl blank 2), .int .u64 (pl blank 3), .int .u64 (pl blank 4), .int .u64 (pl blank 5), .int .u64 (pl blank 6), .int .u64 (pl blank 7)]), Is (.pointer (some ⟨bq, 0, none⟩)), Is (.pointer (some ⟨bq, 0, none⟩)), Is (.pointer (some ⟨bq, 0, none⟩)), Is (.pointer (some ⟨bq, 0, none⟩)), Is (.agg #[.int .u64 (pl blank2 0), .int .u64 (pl blank2 1), .int .u64 (pl blank2 2), .int .u64 (pl blank2 3), .int .u64 (pl blank2 4), .int .u64 (pl blank2 5), .int .u64 (pl blank2 6), .int .u64 (pl blank2 7)]), Is (.bool true), Is (.bool true), Is (.pointer (some ⟨bp, 0, none⟩)), Is (.pointer (some ⟨bp, 0, none⟩)), Is (.pointer (some ⟨bp, 0, none⟩)), Is (.pointer (some ⟨bp, 8, none⟩)), Is v, Is (.pointer (some ⟨bq, 0, none⟩)), Is (.pointer (some ⟨bq, 0, none⟩)), Is (.pointer (some ⟨bq, 0, none⟩)), Is (.pointer (some ⟨bq, 8, none⟩)), Is v2, Is (.bool r), Is (.bool r), Is (.pointer (some ⟨bp, 0, none⟩)), Is (.pointer (some ⟨bq, 0, none⟩)), Is (.bool r), Is (.int .i64 0)] (by kernel_rfl) (by kernel_rfl) rfl Grows.refl (fun _ _ _ => Grows.trans) (stable_mem ⟨fun _ _ _ h _ => h, fun _ _ _ h _ => h, fun _ _ _ h _ => h, fun _ _ _ h _ => h, fun _ _ _ h _ => h, fun _ _ _ h _ => h, fun _ _ _ h _ => h, fun _ _ _ h _ => h, fun _ _ _ h _ => h, fun _ _ _ h _ => h, fun _ _ _ h _ => h, fun _ _ _ h _ => h, fun _ _ _ h _ => h, fun _ _ _ h _ => h, fun _ _ _ h _ => h, fun _ _ _ h _ => h, fun _ _ _ h _ => h, fun _ _ _ h _ => h, fun _ _ _ h _ => h, fun _ _ _ h _ => h, fun _ _ _ h _ => h, fun _ _ _ h _ => h, fun _ _ _ h _ => h, fun _ _ _ h _ => h, fun _ _ _ h _ => h, fun _ _ _ h _ => h, fun _ _ _ h _ => h, fun _ _ _ h _ => h, fun _ _ _ h _ => h, fun _ _ _ h _ => h, trivial⟩) _ (Below.drew (Below.refl _ _)) trivial ?_
  refine inv_cons ?_ (fun v0 => ?_)
  · intro L w1 hat hb hI hF
    have hc := (Grows.cells hb).1
    try simp [factsI, Region.binds, Is] at hF
    go_simp
    try exact Grows.refl _
  refine inv_cons ?_ (fun v1 => ?_)
  · intro L w1 hat hb hI hF
    have hc := (Grows.cells hb).1
    try simp [factsI, Region.binds, Is] at hF
    go_simp
    try exact Grows.refl _
  refine inv_cons ?_ (fun v2 => ?_)
  · intro L w1 hat hb hI hF
    have hc := (Grows.cells hb).1
    try simp [factsI, Region.binds, Is] at hF
    go_simp
    try exact Grows.refl _
  refine inv_cons ?_ (fun v3 => ?_)
  · intro L w1 hat hb hI hF
    have hc := (Grows.cells hb).1
    try simp [factsI, Region.binds, Is] at hF
    go_simp
    try exact Grows.refl _
  refine inv_cons ?_ (fun v4 => ?_)
  · intro L w1 hat hb hI hF
    have hc := (Grows.cells hb).1
    try simp [factsI, Region.binds, Is] at hF
    go_simp
    try exact Grows.refl _
  refine inv_cons ?_ (fun v5 => ?_)
  · intro L w1 hat hb hI hF
    have hc := (Grows.cells hb).1
    try simp [factsI, Region.binds, Is] at hF
    go_simp
    try exact Grows.refl _
  refine inv_cons ?_ (fun v6 => ?_)
  · intro L w1 hat hb hI hF
    have hc := (Grows.cells hb).1
    try simp [factsI, Region.binds, Is] at hF
    go_simp
    try exact Grows.refl _
  refine inv_cons ?_ (fun v7 => ?_)
  · intro L w1 hat hb hI hF
    have hc := (Grows.cells hb).1
    try simp [factsI, Region.binds, Is] at hF
    go_simp
    try exact Grows.refl _
  refine inv_cons ?_ (fun v8 => ?_)
  · intro L w1 hat hb hI hF
    have hc := (Grows.cells hb).1
    try simp [factsI, Region.binds, Is] at hF
    go_simp
    try exact Grows.refl _
  refine inv_cons ?_ (fun v9 => ?_)
  · intro L w1 hat hb hI hF
    have hc := (Grows.cells hb).1
    try simp [factsI, Region.binds, Is] at hF
    go_simp
    try exact Grows.refl _
  refine inv_cons ?_ (fun v10 => ?_)
  · intro L w1 hat hb hI hF
    have hc := (Grows.cells hb).1
    try simp [factsI, Region.binds, Is] at hF
    go_simp
    try exact Grows.refl _
  refine inv_cons ?_ (fun v11 => ?_)
  · intro L w1 hat hb hI hF
    have hc := (Grows.cells hb).1
    try simp [factsI, Region.binds, Is] at hF
    go_simp
    try exact Grows.refl _
  refine inv_cons ?_ (fun v12 => ?_)
  · intro L w1 hat hb hI hF
    have hc := (Grows.cells hb).1
    try simp [factsI, Region.binds, Is] at hF
    go_simp
    try exact Grows.refl _
  refine inv_cons ?_ (fun v13 => ?_)
  · intro L w1 hat hb hI hF
    have hc := (Grows.cells hb).1
    try simp [factsI, Region.binds, Is] at hF
    go_simp
    try exact Grows.refl _
  refine inv_cons ?_ (fun v14 => ?_)
  · intro L w1 hat hb hI hF
    have hc := (Grows.cells hb).1
    try simp [factsI, Region.binds, Is] at hF
    go_simp
    try exact Grows.refl _
  refine inv_cons ?_ (fun v15 => ?_)
  · intro L w1 hat hb hI hF
    have hc := (Grows.cells hb).1
    try simp [factsI, Region.binds, Is] at hF
    go_simp
    try exact Grows.refl _
  refine inv_cons ?_ (fun v16 => ?_)
  · intro L w1 hat hb hI hF
    have hc := (Grows.cells hb).1
    try simp [factsI, Region.binds, Is] at hF
    go_simp
    try exact Grows.refl _
  refine inv_cons ?_ (fun v17 => ?_)
  · intro L w1 hat hb hI hF
    have hc := (Grows.cells hb).1
    try simp [factsI, Region.binds, Is] at hF
    go_simp
    try exact Grows.refl _
  refine inv_cons ?_ (fun v18 => ?_)
  · intro L w1 hat hb hI hF
    have hc := (Grows.cells hb).1
    try simp [factsI, Region.binds, Is] at hF
    go_simp
    try exact Grows.refl _
  refine inv_cons ?_ (fun v19 => ?_)
  · intro L w1 hat hb hI hF
    have hc := (Grows.cells hb).1
    try simp [factsI, Region.binds, Is] at hF
    go_simp
    try exact Grows.refl _
  refine inv_cons ?_ (fun v20 => ?_)
  · intro L w1 hat hb hI hF
    have hc := (Grows.cells hb).1
    try simp [factsI, Region.binds, Is] at hF
    go_simp
    try exact Grows.refl _
  refine inv_cons ?_ (fun v21 => ?_)
  · intro L w1 hat hb hI hF
    have hc := (Grows.cells hb).1
    try simp [factsI, Region.binds, Is] at hF
    go_simp
    try exact Grows.refl _
  refine inv_cons ?_ (fun v22 => ?_)
  · intro L w1 hat hb hI hF
    have hc := (Grows.cells hb).1
    try simp [factsI, Region.binds, Is] at hF
    go_simp
    try exact Grows.refl _
  refine inv_cons ?_ (fun v23 => ?_)
  · intro L w1 hat hb hI hF
    have hc := (Grows.cells hb).1
    try simp [factsI, Region.binds, Is] at hF
    go_simp
    try exact Grows.refl _
  refine inv_cons ?_ (fun v24 => ?_)
  · intro L w1 hat hb hI hF
    have hc := (Grows.cells hb).1
    try simp [factsI, Region.binds, Is] at hF
    go_simp
    refine (HE.out _ (bel_trans hB2 hb)).mono ?_
    rintro e w4 ⟨rfl, hb4⟩
    exact ⟨rfl, hb4⟩
  refine inv_cons ?_ (fun v25 => ?_)
  · intro L w1 hat hb hI hF
    have hc := (Grows.cells hb).1
    try simp [factsI, Region.binds, Is] at hF
    go_simp
    try exact Grows.refl _
  refine inv_cons ?_ (fun v26 => ?_)
  · intro L w1 hat hb hI hF
    have hc := (Grows.cells hb).1
    try simp [factsI, Region.binds, Is] at hF
    go_simp
    try exact Grows.refl _
  refine inv_cons ?_ (fun v27 => ?_)
  · intro L w1 hat hb hI hF
    have hc := (Grows.cells hb).1
    try simp [factsI, Region.binds, Is] at hF
    go_simp
    try exact Grows.refl _
  refine inv_cons ?_ (fun v28 => ?_)
  · intro L w1 hat hb hI hF
    have hc := (Grows.cells hb).1
    try simp [factsI, Region.binds, Is] at hF
    go_simp
    try exact Grows.refl _
  refine inv_cons ?_ (fun v29 => ?_)
  · intro L w1 hat hb hI hF
    have hc := (Grows.cells hb).1
    try simp [factsI, Region.binds, Is] at hF
    go_simp
    try exact Grows.refl _
  refine inv_nil ?_
  intro w1 hb hI hF
  simp [Is, Nat.forall_lt_succ_right] at hF
  have e0 := hF.1.1.1.1.1.1.1.1.1.1.1.1.1.1.1.1.1.1.1.1.1.1.1.1.1.1.1.1.1
  have e1 := hF.1.1.1.1.1.1.1.1.1.1.1.1.1.1.1.1.1.1.1.1.1.1.1.1.1.1.1.1.2
  have e2 := hF.1.1.1.1.1.1.1.1.1.1.1.1.1.1.1.1.1.1.1.1.1.1.1.1.1.1.1.2
  have e3 := hF.1.1.1.1.1.1.1.1.1.1.1.1.1.1.1.1.1.1.1.1.1.1.1.1.1.1.2
  have e4 := hF.1.1.1.1.1.1.1.1.1.1.1.1.1.1.1.1.1.1.1.1.1.1.1.1.1.2
  have e5 := hF.1.1.1.1.1.1.1.1.1.1.1.1.1.1.1.1.1.1.1.1.1.1.1.1.2
  have e6 := hF.1.1.1.1.1.1.1.1.1.1.1.1.1.1.1.1.1.1.1.1.1.1.1.2
  have e7 := hF.1.1.1.1.1.1.1.1.1.1.1.1.1.1.1.1.1.1.1.1.1.1.2
  have e8 := hF.1.1.1.1.1.1.1.1.1.1.1.1.1.1.1.1.1.1.1.1.1.2
  have e9 := hF.1.1.1.1.1.1.1.1.1.1.1.1.1.1.1.1.1.1.1.1.2
  have e10 := hF.1.1.1.1.1.1.1.1.1.1.1.1.1.1.1.1.1.1.1.2
  have e11 := hF.1.1.1.1.1.1.1.1.1.1.1.1.1.1.1.1.1.1.2
  have e12 := hF.1.1.1.1.1.1.1.1.1.1.1.1.1.1.1.1.1.2
  have e13 := hF.1.1.1.1.1.1.1.1.1.1.1.1.1.1.1.1.2
  have e14 := hF.1.1.1.1.1.1.1.1.1.1.1.1.1.1.1.2
  have e15 := hF.1.1.1.1.1.1.1.1.1.1.1.1.1.1.2
  have e16 := hF.1.1.1.1.1.1.1.1.1.1.1.1.1.2
  have e17 := hF.1.1.1.1.1.1.1.1.1.1.1.1.2
  have e18 := hF.1.1.1.1.1.1.1.1.1.1.1.2
  have e19 := hF.1.1.1.1.1.1.1.1.1.1.2
  have e20 := hF.1.1.1.1.1.1.1.1.1.2
  have e21 := hF.1.1.1.1.1.1.1.1.2
  have e22 := hF.1.1.1.1.1.1.1.2
  have e23 := hF.1.1.1.1.1.1.2
  have e24 := hF.1.1.1.1.1.2
  have e25 := hF.1.1.1.1.2
  have e26 := hF.1.1.1.2
  have e27 := hF.1.1.2
  have e28 := hF.1.2
  have e29 := hF.2
  clear hF
  simp only [Act.put, List.setIfInBounds_toArray, List.set_cons_succ, List.set_cons_zero, e0, e1, e2, e3, e4, e5, e6, e7, e8, e9, e10, e11, e12, e13, e14, e15, e16, e17, e18, e19, e20, e21, e22, e23, e24, e25, e26, e27, e28, e29]
  clear e0 e1 e2 e3 e4 e5 e6 e7 e8 e9 e10 e11 e12 e13 e14 e15 e16 e17 e18 e19 e20 e21 e22 e23 e24 e25 e26 e27 e28 e29
  go_wp2_with fail
  refine bodyPost_ret (by simp [results, Tryz.results107, go_sem]) rfl ⟨_, _, rfl, HP.out.1.grow hb, HP.out.2.grow hb, bel_trans hB2 hb⟩
set_option maxHeartbeats 8000000 in
theorem both_good_false {blank : Sol} {v av : Value} {l : List Sol} {acts : List Ac} {s : Stn} (h : begunM blank l acts = .inr s) {blank2 : Sol} {v2 av2 : Value} {l2 : List Sol} {acts2 : List Ac} {s2 : Stn} (h2 : begunM blank2 l2 acts2 = .inr s2) (w : World) (Hv : SlS w v l) (Hav : SlA w av acts) (Hv2 : SlS w v2 l2) (Hav2 : SlA w av2 acts2) (hbl : (blank == blank2) = false) :
    Calls Tryz.prog 107 #[.agg #[.int .u64 (pl blank 0), .int .u64 (pl blank 1), .int .u64 (pl blank 2), .int .u64 (pl blank 3), .int .u64 (pl blank 4), .int .u64 (pl blank 5), .int .u64 (pl blank 6), .int .u64 (pl blank 7), v, av], .agg #[.int .u64 (pl blank2 0), .int .u64 (pl blank2 1), .int .u64 (pl blank2 2), .int .u64 (pl blank2 3), .int .u64 (pl blank2 4), .int .u64 (pl blank2 5), .int .u64 (pl blank2 6), .int .u64 (pl blank2 7), v2, av2]] w fun e w' => ∃ bp bq, e = .returned (.tuple #[.pointer (some ⟨bp, 0, none⟩), .pointer (some ⟨bq, 0, none⟩), .bool false, .int .i64 0]) ∧ PastAt bp blank v av l acts s w' ∧ PastAt bq blank2 v2 av2 l2 acts2 s2 w' ∧ Below w.heap.size w w' := by
  have H := Lib.hid fun w' (hb : Below w.heap.size w w') => begun_good h w' (Hv.mono hb) (Hav.mono hb)
  have H2 := Lib.hid fun w' (hb : Below w.heap.size w w') => begun_good h2 w' (Hv2.mono hb) (Hav2.mono hb)
  have HE := Lib.hid fun w' (hb : Below w.heap.size w w') => EqualSol_spec v v2 l l2 w' (Hv.mono hb) (Hv2.mono hb)
  generalize hr : (l == l2) = r at HE
  have hvs : ∃ a n c, v = .slice a n c := by obtain ⟨a, c, h, _⟩ := Hv; exact ⟨_, _, _, h⟩
  have hvs2 : ∃ a n c, v2 = .slice a n c := by obtain ⟨a, c, h, _⟩ := Hv2; exact ⟨_, _, _, h⟩
  clear h h2 Hv Hav Hv2 Hav2
  go_enter Tryz.func107, Tryz.ntmps107
  go_wp2_with fail
  refine (H.out _ bel_by).mono ?_
  rintro e w1 ⟨bp, rfl, hbp, hP, hb⟩
  have hB1 : Below w.heap.size w w1 := bel_trans bel_by hb
  have g2 : Blk w1 (w.heap.size + 1) #[.int .u64 (pl blank2 0), .int .u64 (pl blank2 1), .int .u64 (pl blank2 2), .int .u64 (pl blank2 3), .int .u64 (pl blank2 4), .int .u64 (pl blank2 5), .int .u64 (pl blank2 6), .int .u64 (pl blank2 7), v2, av2] 30 := Blk.grow blk_by hb
  have cg := g2.cell
  have lg := g2.lt
  clear hb g2
  go_wp2_with fail
  refine (H2.out _ hB1).mono ?_
  rintro e w2 ⟨bq, rfl, hbq, hP2, hb2⟩
  have hB2 : Below w.heap.size w w2 := bel_trans hB1 hb2
  have HP := Lib.hid (And.intro (hP.grow hb2) hP2); clear hP hP2
  refine Veil.out ?_
  obtain ⟨dv, hpast, _⟩ := HP.out.1.past
  obtain ⟨dv2, hpast2, _⟩ := HP.out.2.past
  refine Veil.on ?_
  have cp := hpast.cell
  have lp := hpast.lt
  have cq := hpast2.cell
  have lq := hpast2.lt
  clear hpast hpast2 cg lg hb2
  go_wp2_with fail
  refine wp_region_inv Grows (fun _ _ => True) [Is (.pointer (some ⟨bp, 0, none⟩)), Is (.pointer (some ⟨bq, 0, none⟩)), Is (.pointer (some ⟨bp, 0, none⟩)), Is (.pointer (some ⟨bp, 0, none⟩)), Is (.pointer (some ⟨bp, 0, none⟩)), Is (.pointer (some ⟨bp, 0, none⟩)), Is (.agg #[.int .u64 (pl blank 0), .int .u64 (pl blank 1), .int .u64 (pl blank 2), .int .u64 (pl blank 3), .int .u64 (pl blank 4), .int .u64 (pl blank 5), .int .u64 (pl blank 6), .int .u64 (pl blank 7)]), Is (.pointer (some ⟨bq, 0, none⟩)), Is (.pointer (some ⟨bq, 0, none⟩)), Is (.pointer (some ⟨bq, 0, none⟩)), Is (.pointer (some ⟨bq, 0, none⟩)), Is (.agg #[.int .u64 (pl blank2 0), .int .u64 (pl blank2 1), .int .u64 (pl blank2 2), .int .u64 (pl blank2 3), .int .u64 (pl blank2 4), .int .u64 (pl blank2 5), .int .u64 (pl blank2 6), .int .u64 (pl blank2 7)]), Is (.bool false), Is (.bool false), Is undef, Is undef, Is undef, Is undef, Is undef, Is undef, Is undef, Is undef, Is undef, Is undef, Is undef, Is (.bool false), Is (.pointer (some ⟨bp, 0, none⟩)), Is (.pointer (some ⟨bq, 0, none⟩)), Is (.bool false), Is (.int .i64 0)] (by kernel_rfl) (by kernel_rfl) rfl Grows.refl (fun _ _ _ => Grows.trans) (stable_mem ⟨fun _ _ _ h _ => h, fun _ _ _ h _ => h, fun _ _ _ h _ => h, fun _ _ _ h _ => h, fun _ _ _ h _ => h, fun _ _ _ h _ => h, fun _ _ _ h _ => h, fun _ _ _ h _ => h, fun _ _ _ h _ => h, fun _ _ _ h _ => h, fun _ _ _ h _ => h, fun _ _ _ h _ => h, fun _ _ _ h _ => h, fun _ _ _ h _ => h, fun _ _ _ h _ => h, fun _ _ _ h _ => h, fun _ _ _ h _ => h, fun _ _ _ h _ => h, fun _ _ _ h _ => h, fun _ _ _ h _ => h, fun _ _ _ h _ => h, fun _ _ _ h _ => h, fun _ _ _ h _ => h, fun _ _ _ h _ => h, fun _ _ _ h _ => h, fun _ _ _ h _ => h, fun _ _ _ h _ => h, fun _ _ _ h _ => h, fun _ _ _ h _ => h, fun _ _ _ h _ => h, trivial⟩) _ (Below.drew (Below.refl _ _)) trivial ?_
  refine inv_cons ?_ (fun v0 => ?_)
  · intro L w1 hat hb hI hF
    have hc := (Grows.cells hb).1
    try simp [factsI, Region.binds, Is] at hF
    go_simp
    try exact Grows.refl _
  refine inv_cons ?_ (fun v1 => ?_)
  · intro L w1 hat hb hI hF
    have hc := (Grows.cells hb).1
    try simp [factsI, Region.binds, Is] at hF
    go_simp
    try exact Grows.refl _
  refine inv_cons ?_ (fun v2 => ?_)
  · intro L w1 hat hb hI hF
    have hc := (Grows.cells hb).1
    try simp [factsI, Region.binds, Is] at hF
    go_simp
    try exact Grows.refl _
  refine inv_cons ?_ (fun v3 => ?_)
  · intro L w1 hat hb hI hF
    have hc := (Grows.cells hb).1
    try simp [factsI, Region.binds, Is] at hF
    go_simp
    try exact Grows.refl _
  refine inv_cons ?_ (fun v4 => ?_)
  · intro L w1 hat hb hI hF
    have hc := (Grows.cells hb).1
    try simp [factsI, Region.binds, Is] at hF
    go_simp
    try exact Grows.refl _
  refine inv_cons ?_ (fun v5 => ?_)
  · intro L w1 hat hb hI hF
    have hc := (Grows.cells hb).1
    try simp [factsI, Region.binds, Is] at hF
    go_simp
    try exact Grows.refl _
  refine inv_cons ?_ (fun v6 => ?_)
  · intro L w1 hat hb hI hF
    have hc := (Grows.cells hb).1
    try simp [factsI, Region.binds, Is] at hF
    go_simp
    try exact Grows.refl _
  refine inv_cons ?_ (fun v7 => ?_)
  · intro L w1 hat hb hI hF
    have hc := (Grows.cells hb).1
    try simp [factsI, Region.binds, Is] at hF
    go_simp
    try exact Grows.refl _
  refine inv_cons ?_ (fun v8 => ?_)
  · intro L w1 hat hb hI hF
    have hc := (Grows.cells hb).1
    try simp [factsI, Region.binds, Is] at hF
    go_simp
    try exact Grows.refl _
  refine inv_cons ?_ (fun v9 => ?_)
  · intro L w1 hat hb hI hF
    have hc := (Grows.cells hb).1
    try simp [factsI, Region.binds, Is] at hF
    go_simp
    try exact Grows.refl _
  refine inv_cons ?_ (fun v10 => ?_)
  · intro L w1 hat hb hI hF
    have hc := (Grows.cells hb).1
    try simp [factsI, Region.binds, Is] at hF
    go_simp
    try exact Grows.refl _
  refine inv_cons ?_ (fun v11 => ?_)
  · intro L w1 hat hb hI hF
    have hc := (Grows.cells hb).1
    try simp [factsI, Region.binds, Is] at hF
    go_simp
    try exact Grows.refl _
  refine inv_cons ?_ (fun v12 => ?_)
  · intro L w1 hat hb hI hF
    have hc := (Grows.cells hb).1
    try simp [factsI, Region.binds, Is] at hF
    go_simp
    try exact Grows.refl _
  refine inv_cons ?_ (fun v13 => ?_)
  · intro L w1 hat hb hI hF
    have hc := (Grows.cells hb).1
    try simp [factsI, Region.binds, Is] at hF
    go_simp
    try exact Grows.refl _
  refine inv_cons ?_ (fun v14 => ?_)
  · intro L w1 hat hb hI hF
    have hc := (Grows.cells hb).1
    try simp [factsI, Region.binds, Is] at hF
    go_simp
    try exact Grows.refl _
  refine inv_cons ?_ (fun v15 => ?_)
  · intro L w1 hat hb hI hF
    have hc := (Grows.cells hb).1
    try simp [factsI, Region.binds, Is] at hF
    go_simp
    try exact Grows.refl _
  refine inv_cons ?_ (fun v16 => ?_)
  · intro L w1 hat hb hI hF
    have hc := (Grows.cells hb).1
    try simp [factsI, Region.binds, Is] at hF
    go_simp
    try exact Grows.refl _
  refine inv_cons ?_ (fun v17 => ?_)
  · intro L w1 hat hb hI hF
    have hc := (Grows.cells hb).1
    try simp [factsI, Region.binds, Is] at hF
    go_simp
    try exact Grows.refl _
  refine inv_cons ?_ (fun v18 => ?_)
  · intro L w1 hat hb hI hF
    have hc := (Grows.cells hb).1
    try simp [factsI, Region.binds, Is] at hF
    go_simp
    try exact Grows.refl _
  refine inv_cons ?_ (fun v19 => ?_)
  · intro L w1 hat hb hI hF
    have hc := (Grows.cells hb).1
    try simp [factsI, Region.binds, Is] at hF
    go_simp
    try exact Grows.refl _
  refine inv_cons ?_ (fun v20 => ?_)
  · intro L w1 hat hb hI hF
    have hc := (Grows.cells hb).1
    try simp [factsI, Region.binds, Is] at hF
    go_simp
    try exact Grows.refl _
  refine inv_cons ?_ (fun v21 => ?_)
  · intro L w1 hat hb hI hF
    have hc := (Grows.cells hb).1
    try simp [factsI, Region.binds, Is] at hF
    go_simp
    try exact Grows.refl _
  refine inv_cons ?_ (fun v22 => ?_)
  · intro L w1 hat hb hI hF
    have hc := (Grows.cells hb).1
    try simp [factsI, Region.binds, Is] at hF
    go_simp
    try exact Grows.refl _
  refine inv_cons ?_ (fun v23 => ?_)
  · intro L w1 hat hb hI hF
    have hc := (Grows.cells hb).1
    try simp [factsI, Region.binds, Is] at hF
    go_simp
    try exact Grows.refl _
  refine inv_cons ?_ (fun v24 => ?_)
  · intro L w1 hat hb hI hF
    have hc := (Grows.cells hb).1
    try simp [factsI, Region.binds, Is] at hF
    go_simp
    try exact Grows.refl _
  refine inv_cons ?_ (fun v25 => ?_)
  · intro L w1 hat hb hI hF
    have hc := (Grows.cells hb).1
    try simp [factsI, Region.binds, Is] at hF
    go_simp
    try exact Grows.refl _
  refine inv_cons ?_ (fun v26 => ?_)
  · intro L w1 hat hb hI hF
    have hc := (Grows.cells hb).1
    try simp [factsI, Region.binds, Is] at hF
    go_simp
    try exact Grows.refl _
  refine inv_cons ?_ (fun v27 => ?_)
  · intro L w1 hat hb hI hF
    have hc := (Grows.cells hb).1
    try simp [factsI, Region.binds, Is] at hF
    go_simp
    try exact Grows.refl _
  refine inv_cons ?_ (fun v28 => ?_)
  · intro L w1 hat hb hI hF
    have hc := (Grows.cells hb).1
    try simp [factsI, Region.binds, Is] at hF
    go_simp
    try exact Grows.refl _
  refine inv_cons ?_ (fun v29 => ?_)
  · intro L w1 hat hb hI hF
    have hc := (Grows.cells hb).1
    try simp [factsI, Region.binds, Is] at hF
    go_simp
    try exact Grows.refl _
  refine inv_nil ?_
  intro w1 hb hI hF
  simp [Is, Nat.forall_lt_succ_right] at hF
  have e0 := hF.1.1.1.1.1.1.1.1.1.1.1.1.1.1.1.1.1.1.1.1.1.1.1.1.1.1.1.1.1
  have e1 := hF.1.1.1.1.1.1.1.1.1.1.1.1.1.1.1.1.1.1.1.1.1.1.1.1.1.1.1.1.2
  have e2 := hF.1.1.1.1.1.1.1.1.1.1.1.1.1.1.1.1.1.1.1.1.1.1.1.1.1.1.1.2
  have e3 := hF.1.1.1.1.1.1.1.1.1.1.1.1.1.1.1.1.1.1.1.1.1.1.1.1.1.1.2
  have e4 := hF.1.1.1.1.1.1.1.1.1.1.1.1.1.1.1.1.1.1.1.1.1.1.1.1.1.2
  have e5 := hF.1.1.1.1.1.1.1.1.1.1.1.1.1.1.1.1.1.1.1.1.1.1.1.1.2
  have e6 := hF.1.1.1.1.1.1.1.1.1.1.1.1.1.1.1.1.1.1.1.1.1.1.1.2
  have e7 := hF.1.1.1.1.1.1.1.1.1.1.1.1.1.1.1.1.1.1.1.1.1.1.2
  have e8 := hF.1.1.1.1.1.1.1.1.1.1.1.1.1.1.1.1.1.1.1.1.1.2
  have e9 := hF.1.1.1.1.1.1.1.1.1.1.1.1.1.1.1.1.1.1.1.1.2
  have e10 := hF.1.1.1.1.1.1.1.1.1.1.1.1.1.1.1.1.1.1.1.2
  have e11 := hF.1.1.1.1.1.1.1.1.1.1.1.1.1.1.1.1.1.1.2
  have e12 := hF.1.1.1.1.1.1.1.1.1.1.1.1.1.1.1.1.1.2
  have e13 := hF.1.1.1.1.1.1.1.1.1.1.1.1.1.1.1.1.2
  have e14 := hF.1.1.1.1.1.1.1.1.1.1.1.1.1.1.1.2
  have e15 := hF.1.1.1.1.1.1.1.1.1.1.1.1.1.1.2
  have e16 := hF.1.1.1.1.1.1.1.1.1.1.1.1.1.2
  have e17 := hF.1.1.1.1.1.1.1.1.1.1.1.1.2
  have e18 := hF.1.1.1.1.1.1.1.1.1.1.1.2
  have e19 := hF.1.1.1.1.1.1.1.1.1.1.2
  have e20 := hF.1.1.1.1.1.1.1.1.1.2
  have e21 := hF.1.1.1.1.1.1.1.1.2
  have e22 := hF.1.1.1.1.1.1.1.2
  have e23 := hF.1.1.1.1.1.1.2
  have e24 := hF.1.1.1.1.1.2
  have e25 := hF.1.1.1.1.2
  have e26 := hF.1.1.1.2
  have e27 := hF.1.1.2
  have e28 := hF.1.2
  have e29 := hF.2
  clear hF
  simp only [Act.put, List.setIfInBounds_toArray, List.set_cons_succ, List.set_cons_zero, e0, e1, e2, e3, e4, e5, e6, e7, e8, e9, e10, e11, e12, e13, e14, e15, e16, e17, e18, e19, e20, e21, e22, e23, e24, e25, e26, e27, e28, e29]
  clear e0 e1 e2 e3 e4 e5 e6 e7 e8 e9 e10 e11 e12 e13 e14 e15 e16 e17 e18 e19 e20 e21 e22 e23 e24 e25 e26 e27 e28 e29
  go_wp2_with fail
  refine bodyPost_ret (by simp [results, Tryz.results107, go_sem]) rfl ⟨_, _, rfl, HP.out.1.grow hb, HP.out.2.grow hb, bel_trans hB2 hb⟩
end Go.Proofs.YtccnkebkgegohaaGreatDoor
end
section
namespace Go.Proofs.YtccnkebkgegohaaGreatDoor
open Go.RowKit Go.Rel
set_option maxRecDepth 100000
theorem beqAc (a b : Ac) : (a == b) = (((a.1 : Int) == (b.1 : Int)) && ((a.2.1 == b.2.1) && (a.2.2 == b.2.2))) := by
  obtain ⟨a1, a2, a3⟩ := a
  obtain ⟨b1, b2, b3⟩ := b
  show (a1 == b1 && (a2 == b2 && a3 == b3)) = _
  congr 1
  rw [Bool.eq_iff_iff, beq_iff_eq, beq_iff_eq]; omega
/-- acts are compared field by field -/
@[go_sem high] theorem eqAc (d : Nat) (a b : Ac) (w : World) : (Op.equalIn (d+3) 46 (acV a) (acV b)).run Tryz.prog w = .ok (a == b) w := by
  rw [run_equalIn_struct w (d+2) 46 _ _ (by kernel_rfl) (by kernel_rfl)]
  rw [beqAc]
  go_simp
  split
  · next h1 =>
    split
    · next h2 =>
      split
      · next h3 => simp [h1, h2, h3]
      · next h3 => simp [h1, h2, h3]
    · next h2 => simp [h1, h2]
  · next h1 => simp [h1]
set_option maxHeartbeats 4000000 in
theorem EqualAc_spec (v u : Value) (l m : List Ac) (w : World) (hv : SlA w v l) (hu : SlA w u m) :
    Calls Tryz.prog 43 #[v, u] w fun e w' => e = .returned (.bool (l == m)) ∧ Below w.heap.size w w' := by
  have hlv : ∃ a c, v = .slice a l.length c := by obtain ⟨a, c, h, _⟩ := hv; exact ⟨a, c, by rw [h, List.length_map]⟩
  have hlu : ∃ a c, u = .slice a m.length c := by obtain ⟨a, c, h, _⟩ := hu; exact ⟨a, c, by rw [h, List.length_map]⟩
  by_cases hlen : l.length = m.length
  · rcases hv.cases with ⟨hl, a, c, rfl, hm⟩ | ⟨b, off, c, rfl, hc, hm, hpos, hcs⟩
    · have hl' : l = [] := by simpa using hl
      subst hl'
      have hm' : m = [] := List.eq_nil_of_length_eq_zero hlen.symm
      subst hm'
      obtain ⟨a', c', rfl⟩ := hlu
      clear hlv hl hv hu hlen
      simp only [List.length_nil]
      go_enter Tryz.func43, Tryz.ntmps43
      go_wp2_with fail
      refine wp_loop_rounds 1 ?_
      rw [rounds_succ]
      go_wp2_with fail
      go_ret
      exact ⟨rfl, Below.refl _ _⟩
    · rcases hu.cases with ⟨hl, _⟩ | ⟨b', off', c', rfl, hc', hm', hpos', hcs'⟩
      · have hl' : m = [] := by simpa using hl
        subst hl'
        rw [List.length_map] at hpos
        simp at hlen; rw [hlen] at hpos; simp at hpos
      rw [List.length_map] at hc hpos hc' hpos' ⊢
      rw [List.length_map]
      rw [← hlen] at hc' hpos' ⊢
      have H := Lib.hid hcs; have H' := Lib.hid hcs'
      have lb := hcs.1; have lb' := hcs'.1
      clear hcs hcs' hv hu hlv hlu
      generalize hn : l.length = n at *
      have HN := Lib.hid (And.intro hn hlen); clear hn hlen
      go_enter Tryz.func43, Tryz.ntmps43
      go_wp2_with fail
      go_loopw [13] (fun i wr => ∃ k q : Nat, k ≤ n ∧ i = .int .i64 k ∧ Hid (∀ (j : Nat), j < k → l[j]? = m[j]?) ∧ wr = w.drewN q) (fun i _ => n - (intOf i).toNat)
      case atStart => exact ⟨0, 0, Nat.zero_le _, rfl, fun j hj => (by omega), rfl⟩
      case round =>
        obtain ⟨k, q, hk, rfl, HP, rfl⟩ := hrel
        by_cases hlt : k < n
        · have hx : l[k]? = some (l[k]'(by rw [HN.out.1]; exact hlt)) := by simp
          have hy : m[k]? = some (m[k]'(by rw [← HN.out.2]; exact hlt)) := by simp
          generalize l[k]'(by rw [HN.out.1]; exact hlt) = x at hx
          generalize m[k]'(by rw [← HN.out.2]; exact hlt) = y at hy
          obtain ⟨c0, c1, c2, c3, c4, c5, c6, c7, c8, c9⟩ := ac_cells H.out hx
          obtain ⟨d0, d1, d2, d3, d4, d5, d6, d7, d8, d9⟩ := ac_cells H'.out hy
          have HX := Lib.hid (And.intro hx hy); clear hx hy
          go_wp2_with fail
          go_quiet (fail)
          go_wp2_with fail
          · have he : (x != y) = true := by assumption
            have hz : (l == m) = false := by
              rw [beq_eq_false_iff_ne]
              intro h
              have h1 := HX.out.1
              rw [h, HX.out.2] at h1
              cases h1
              simp at he
            go_ret
            exact ⟨ret_bool hz.symm, bel_by⟩
          · have he : (x != y) = false := by assumption
            have hxy : x = y := by simpa using he
            refine ⟨⟨k + 1, q + nq, by omega, by go_num, fun j hj => ?_, rfl⟩, by simp [intOf]; omega⟩
            rcases Nat.lt_or_eq_of_le (Nat.le_of_lt_succ hj) with h | h
            · exact HP.out j h
            · subst h; rw [HX.out.1, HX.out.2, hxy]
        · have hkn : k = n := by omega
          subst hkn
          have hz : (l == m) = true := by
            rw [beq_iff_eq]
            apply List.ext_getElem?
            intro j
            by_cases hj : j < l.length
            · exact HP.out j (by rw [← HN.out.1]; exact hj)
            · rw [List.getElem?_eq_none (by omega), List.getElem?_eq_none (by have := HN.out; omega)]
          have HZ := Lib.hid hz; clear hz
          go_wp2_with fail
          go_ret
          exact ⟨ret_bool HZ.out.symm, below_drewN (Below.refl _ _) _⟩
  · have hz : (l == m) = false := by
      rw [beq_eq_false_iff_ne]
      exact fun h => hlen (by rw [h])
    obtain ⟨a, c, rfl⟩ := hlv
    obtain ⟨a', c', rfl⟩ := hlu
    have HZ := Lib.hid hz; clear hz hv hu
    generalize l.length = n at *
    generalize m.length = n' at *
    go_enter Tryz.func43, Tryz.ntmps43
    go_wp2_with fail
    go_ret
    exact ⟨ret_bool HZ.out.symm, Below.refl _ _⟩
end Go.Proofs.YtccnkebkgegohaaGreatDoor
end
section
namespace Go.Proofs.YtccnkebkgegohaaGreatDoor
open Go.RowKit Go.Rel
set_option maxRecDepth 100000
set_option maxHeartbeats 4000000 in
theorem both_bad1 {blank : Sol} {v av : Value} {l : List Sol} {acts : List Ac} {x : Nat × Int} (h : begunM blank l acts = .inl x) (blank2 : Sol) (v2 av2 : Value) (w : World) (Hv : SlS w v l) (Hav : SlA w av acts) :
    Calls Tryz.prog 107 #[.agg #[.int .u64 (pl blank 0), .int .u64 (pl blank 1), .int .u64 (pl blank 2), .int .u64 (pl blank 3), .int .u64 (pl blank 4), .int .u64 (pl blank 5), .int .u64 (pl blank 6), .int .u64 (pl blank 7), v, av], .agg #[.int .u64 (pl blank2 0), .int .u64 (pl blank2 1), .int .u64 (pl blank2 2), .int .u64 (pl blank2 3), .int .u64 (pl blank2 4), .int .u64 (pl blank2 5), .int .u64 (pl blank2 6), .int .u64 (pl blank2 7), v2, av2]] w fun e w' => e = .returned (.tuple #[.pointer none, .pointer none, .bool false, .int .i64 x.2]) ∧ Below w.heap.size w w' := by
  have H := Lib.hid fun w' (hb : Below w.heap.size w w') => begun_bad h w' (Hv.mono hb) (Hav.mono hb)
  have hne := begunM_bad h
  clear h Hv Hav
  go_enter Tryz.func107, Tryz.ntmps107
  go_wp2_with fail
  refine (H.out _ bel_by).mono ?_
  rintro e w1 ⟨rfl, hb⟩
  have hB1 : Below w.heap.size w w1 := bel_trans bel_by hb
  go_wp2_with fail
  refine bodyPost_ret (by simp [results, Tryz.results107, go_sem]) rfl ⟨rfl, hB1⟩
set_option maxHeartbeats 4000000 in
theorem both_bad2 {blank : Sol} {v av : Value} {l : List Sol} {acts : List Ac} {s : Stn} (h : begunM blank l acts = .inr s) {blank2 : Sol} {v2 av2 : Value} {l2 : List Sol} {acts2 : List Ac} {x : Nat × Int} (h2 : begunM blank2 l2 acts2 = .inl x) (w : World) (Hv : SlS w v l) (Hav : SlA w av acts) (Hv2 : SlS w v2 l2) (Hav2 : SlA w av2 acts2) :
    Calls Tryz.prog 107 #[.agg #[.int .u64 (pl blank 0), .int .u64 (pl blank 1), .int .u64 (pl blank 2), .int .u64 (pl blank 3), .int .u64 (pl blank 4), .int .u64 (pl blank 5), .int .u64 (pl blank 6), .int .u64 (pl blank 7), v, av], .agg #[.int .u64 (pl blank2 0), .int .u64 (pl blank2 1), .int .u64 (pl blank2 2), .int .u64 (pl blank2 3), .int .u64 (pl blank2 4), .int .u64 (pl blank2 5), .int .u64 (pl blank2 6), .int .u64 (pl blank2 7), v2, av2]] w fun e w' => e = .returned (.tuple #[.pointer none, .pointer none, .bool false, .int .i64 x.2]) ∧ Below w.heap.size w w' := by
  have H := Lib.hid fun w' (hb : Below w.heap.size w w') => begun_good h w' (Hv.mono hb) (Hav.mono hb)
  have H2 := Lib.hid fun w' (hb : Below w.heap.size w w') => begun_bad h2 w' (Hv2.mono hb) (Hav2.mono hb)
  have hne := begunM_bad h2
  have hvs2 : ∃ a n c, v2 = .slice a n c := by obtain ⟨a, c, h, _⟩ := Hv2; exact ⟨_, _, _, h⟩
  clear h h2 Hv Hav Hv2 Hav2
  go_enter Tryz.func107, Tryz.ntmps107
  go_wp2_with fail
  refine (H.out _ bel_by).mono ?_
  rintro e w1 ⟨bp, rfl, hbp, hP, hb⟩
  have hB1 : Below w.heap.size w w1 := bel_trans bel_by hb
  have g2 : Blk w1 (w.heap.size + 1) #[.int .u64 (pl blank2 0), .int .u64 (pl blank2 1), .int .u64 (pl blank2 2), .int .u64 (pl blank2 3), .int .u64 (pl blank2 4), .int .u64 (pl blank2 5), .int .u64 (pl blank2 6), .int .u64 (pl blank2 7), v2, av2] 30 := Blk.grow blk_by hb
  have cg := g2.cell
  have lg := g2.lt
  clear hb g2 hP
  go_wp2_with fail
  refine (H2.out _ hB1).mono ?_
  rintro e w2 ⟨rfl, hb2⟩
  have hB2 : Below w.heap.size w w2 := bel_trans hB1 hb2
  clear cg lg
  go_wp2_with fail
  refine bodyPost_ret (by simp [results, Tryz.results107, go_sem]) rfl ⟨rfl, hB2⟩
end Go.Proofs.YtccnkebkgegohaaGreatDoor
end
section
namespace Go.Proofs.YtccnkebkgegohaaGreatDoor
open Go.RowKit Go.Rel
set_option maxRecDepth 100000
set_option maxHeartbeats 4000000 in
theorem acted_bad {blank : Sol} {v av : Value} {l : List Sol} {acts : List Ac} {x : Nat × Int} (h : begunM blank l acts = .inl x) (i : Int) (w : World) (Hv : SlS w v l) (Hav : SlA w av acts) :
    Calls Tryz.prog 116 #[.agg #[.int .u64 (pl blank 0), .int .u64 (pl blank 1), .int .u64 (pl blank 2), .int .u64 (pl blank 3), .int .u64 (pl blank 4), .int .u64 (pl blank 5), .int .u64 (pl blank 6), .int .u64 (pl blank 7), v, av], .int .i64 i] w fun e w' => e = .returned (.tuple #[.pointer none, .int .i64 x.2]) ∧ Below w.heap.size w w' := by
  have H := Lib.hid fun w' (hb : Below w.heap.size w w') => begun_bad h w' (Hv.mono hb) (Hav.mono hb)
  have hne := begunM_bad h
  have hne' : (x.2 == 0) = false := by simpa using hne
  clear h Hv Hav
  go_enter Tryz.func116, Tryz.ntmps116
  go_wp2_with fail
  refine (H.out _ bel_by).mono ?_
  rintro e w1 ⟨rfl, hb⟩
  have hB1 : Below w.heap.size w w1 := bel_trans bel_by hb
  go_wp2_with fail
  refine bodyPost_ret (by simp [results, Tryz.results116, go_sem]) rfl ⟨rfl, hB1⟩
/-- the error of an act that there is not -/
def actedE (n : Nat) (i : Int) : Int := if i < 0 ∨ (n : Int) ≤ i then 1 else 0
set_option maxHeartbeats 4000000 in
theorem acted_good {blank : Sol} {v av : Value} {l : List Sol} {acts : List Ac} {s : Stn} (h : begunM blank l acts = .inr s) (i : Int) (w : World) (Hv : SlS w v l) (Hav : SlA w av acts) :
    Calls Tryz.prog 116 #[.agg #[.int .u64 (pl blank 0), .int .u64 (pl blank 1), .int .u64 (pl blank 2), .int .u64 (pl blank 3), .int .u64 (pl blank 4), .int .u64 (pl blank 5), .int .u64 (pl blank 6), .int .u64 (pl blank 7), v, av], .int .i64 i] w fun e w' => ∃ bp, e = .returned (.tuple #[.pointer (some ⟨bp, 0, none⟩), .int .i64 (actedE acts.length i)]) ∧ PastAt bp blank v av l acts s w' ∧ Below w.heap.size w w' := by
  have H := Lib.hid fun w' (hb : Below w.heap.size w w') => begun_good h w' (Hv.mono hb) (Hav.mono hb)
  have hn := (begunM_good h).2.1
  obtain ⟨ap, ac, rfl, _⟩ := Hav
  rw [List.length_map] at *
  clear h Hv
  unfold actedE
  have key : (i < 0) ∨ (0 ≤ i ∧ (acts.length : Int) ≤ i) ∨ (0 ≤ i ∧ i < acts.length) := by omega
  rcases key with h1 | ⟨h1, h2⟩ | ⟨h1, h2⟩
  · rw [if_pos (.inl h1)]
    go_enter Tryz.func116, Tryz.ntmps116
    go_wp2_with fail
    refine (H.out _ bel_by).mono ?_
    rintro e w1 ⟨bp, rfl, hbp, hP, hb⟩
    have hB1 : Below w.heap.size w w1 := bel_trans bel_by hb
    have g2 : Blk w1 w.heap.size #[.int .u64 (pl blank 0), .int .u64 (pl blank 1), .int .u64 (pl blank 2), .int .u64 (pl blank 3), .int .u64 (pl blank 4), .int .u64 (pl blank 5), .int .u64 (pl blank 6), .int .u64 (pl blank 7), v, .slice ap acts.length ac] 30 := Blk.grow blk_by hb
    have cg := g2.cell
    have lg := g2.lt
    clear hb g2
    go_wp2_with fail
    refine bodyPost_ret (by simp [results, Tryz.results116, go_sem]) rfl ⟨_, rfl, hP, hB1⟩
  · rw [if_pos (.inr h2)]
    have h1' : ¬ i < 0 := by omega
    go_enter Tryz.func116, Tryz.ntmps116
    go_wp2_with fail
    refine (H.out _ bel_by).mono ?_
    rintro e w1 ⟨bp, rfl, hbp, hP, hb⟩
    have hB1 : Below w.heap.size w w1 := bel_trans bel_by hb
    have g2 : Blk w1 w.heap.size #[.int .u64 (pl blank 0), .int .u64 (pl blank 1), .int .u64 (pl blank 2), .int .u64 (pl blank 3), .int .u64 (pl blank 4), .int .u64 (pl blank 5), .int .u64 (pl blank 6), .int .u64 (pl blank 7), v, .slice ap acts.length ac] 30 := Blk.grow blk_by hb
    have cg := g2.cell
    have lg := g2.lt
    clear hb g2
    go_wp2_with fail
    refine bodyPost_ret (by simp [results, Tryz.results116, go_sem]) rfl ⟨_, rfl, hP, hB1⟩
  · rw [if_neg (by omega)]
    have h1' : ¬ i < 0 := by omega
    have h2' : ¬ (acts.length : Int) ≤ i := by omega
    go_enter Tryz.func116, Tryz.ntmps116
    go_wp2_with fail
    refine (H.out _ bel_by).mono ?_
    rintro e w1 ⟨bp, rfl, hbp, hP, hb⟩
    have hB1 : Below w.heap.size w w1 := bel_trans bel_by hb
    have g2 : Blk w1 w.heap.size #[.int .u64 (pl blank 0), .int .u64 (pl blank 1), .int .u64 (pl blank 2), .int .u64 (pl blank 3), .int .u64 (pl blank 4), .int .u64 (pl blank 5), .int .u64 (pl blank 6), .int .u64 (pl blank 7), v, .slice ap acts.length ac] 30 := Blk.grow blk_by hb
    have cg := g2.cell
    have lg := g2.lt
    clear hb g2
    go_wp2_with fail
    refine bodyPost_ret (by simp [results, Tryz.results116, go_sem]) rfl ⟨_, rfl, hP, hB1⟩
end Go.Proofs.YtccnkebkgegohaaGreatDoor
end
