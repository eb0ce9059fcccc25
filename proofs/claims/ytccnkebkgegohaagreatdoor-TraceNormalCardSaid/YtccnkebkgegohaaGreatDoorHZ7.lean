import Derived.Test.YtccnkebkgegohaaGreatDoorHV12
/-
  Given contracts of functions of the program, and laws for them, one behind the other.
-/
set_option linter.unusedVariables false
set_option linter.unusedSimpArgs false
set_option linter.unusedSectionVars false
section
namespace Go.Proofs.YtccnkebkgegohaaGreatDoor
open Go.RowKit Go.Rel
set_option maxRecDepth 100000
/-! Steps of a bad history; lists of lists compared; Normal and Equal of the reference -/
set_option maxHeartbeats 4000000 in
theorem Steps_bad {b : Sol} {v av : Value} {l : List Sol} {m : List Ac} {x : Nat × Int} (h : begunM b l m = .inl x) (w : World) (Hv : SlS w v l) (Hav : SlA w av m) :
  Calls Tryz.prog 69 #[.agg #[.int .u64 (pl b 0), .int .u64 (pl b 1), .int .u64 (pl b 2), .int .u64 (pl b 3), .int .u64 (pl b 4), .int .u64 (pl b 5), .int .u64 (pl b 6), .int .u64 (pl b 7), v, av]] w fun e w' => e = .returned (.tuple #[.slice none 0 0, .int .i64 x.2]) ∧ Below w.heap.size w w' := by
 have H := Lib.hid fun w' (hb : Below w.heap.size w w') => begun_bad h w' (Hv.mono hb) (Hav.mono hb)
 have hne := begunM_bad h
 clear h Hv Hav
 go_enter Tryz.func69, Tryz.ntmps69
 go_wp2_with fail
 refine (H.out _ bel_by).mono ?_
 rintro e w1 ⟨rfl, hb⟩
 have hB1 : Below w.heap.size w w1 := bel_trans bel_by hb
 clear hb
 go_wp2_with fail
 refine bodyPost_ret (by simp [results, Tryz.results69, go_sem]) rfl ⟨rfl, hB1⟩
set_option maxHeartbeats 4000000 in
theorem refSteps_no (b : Sol) (p q : Option Addr) (n c k d : Nat) (x y : Int) (hne : (y != 0) = true) (w : World) (H : Hid (∀ w', Below w.heap.size w w' → Calls Tryz.prog 38 #[.agg #[.int .u64 (pl b 0), .int .u64 (pl b 1), .int .u64 (pl b 2), .int .u64 (pl b 3), .int .u64 (pl b 4), .int .u64 (pl b 5), .int .u64 (pl b 6), .int .u64 (pl b 7), .slice p n c, .slice q k d]] w' fun e w'' => e = .returned (.tuple #[.int .i64 x, .int .i64 y]) ∧ Below w'.heap.size w' w'')) :
  Calls Tryz.prog 78 #[.agg #[.int .u64 (pl b 0), .int .u64 (pl b 1), .int .u64 (pl b 2), .int .u64 (pl b 3), .int .u64 (pl b 4), .int .u64 (pl b 5), .int .u64 (pl b 6), .int .u64 (pl b 7), .slice p n c, .slice q k d]] w fun e w' => e = .returned (.tuple #[.slice none 0 0, .int .i64 y]) ∧ Below w.heap.size w w' := by
 go_enter Tryz.func78, Tryz.ntmps78
 go_wp2_with fail
 refine (H.out _ bel_by).mono ?_
 rintro e w1 ⟨rfl, hb⟩
 have hB1 : Below w.heap.size w w1 := bel_trans bel_by hb
 clear hb H
 go_wp2_with fail
 refine bodyPost_ret (by simp [results, Tryz.results78, go_sem]) rfl ⟨rfl, hB1⟩
theorem sl1_at {W : World} {q : Option Addr} {n c : Nat} {vs : List Value} {j : Nat} {x : Value} (h : Sl W 1 (.slice q n c) (vs.map fun x => [x])) (hx : vs[j]? = some x) : ∃ b o, q = some ⟨b, o, none⟩ ∧ b < W.heap.size ∧ ∀ W', Below W.heap.size W W' → ∀ (k : Nat) (y : Value), vs[k]? = some y → W'.cell? ⟨b, o + k, none⟩ = some y := by
 rcases Sl.cases h with ⟨hl, _⟩ | ⟨b, o, c', he, _, _, _, hc⟩
 ·have : vs = [] := by simpa using hl
  subst this; cases hx
 ·injection he with h1 _ _
  refine ⟨b, o, h1, hc.1, fun W' hb k y hk => ?_⟩
  have := (hc.mono hb hc.1).2 k 0 y (by simp [hk])
  simpa using this
set_option maxHeartbeats 8000000 in
theorem EqualFunc79_spec (v v2 : Value) (ps ps2 : List (Value × List Ac)) (w : World) (hv : Sl w 1 v (ps.map fun p => [p.1])) (hv2 : Sl w 1 v2 (ps2.map fun p => [p.1])) (hp : ∀ p ∈ ps, SlA w p.1 p.2) (hp2 : ∀ p ∈ ps2, SlA w p.1 p.2) (he : List.map (fun p : Value × List Ac => p.2) ps = ps2.map (·.2)) (hlen : ps.length ≤ 1048576) :
  Calls Tryz.prog 79 #[v, v2, .func (.func 80) #[] #[]] w fun e w' => e = .returned (.bool true) ∧ Below w.heap.size w w' := by
 have hl2 : ps2.length = ps.length := by have := congrArg List.length he; simpa using this.symm
 have e1 : (ps.map fun p => [p.1]) = (ps.map (·.1)).map fun x => [x] := by rw [List.map_map]; rfl
 have e2 : (ps2.map fun p => [p.1]) = (ps2.map (·.1)).map fun x => [x] := by rw [List.map_map]; rfl
 rw [e1] at hv
 rw [e2] at hv2
 have hs : ∃ q c, v = .slice q ps.length c := by obtain ⟨a, c, h, _⟩ := hv; exact ⟨a, c, by rw [h]; simp⟩
 have hs2 : ∃ q c, v2 = .slice q ps.length c := by obtain ⟨a, c, h, _⟩ := hv2; exact ⟨a, c, by rw [h]; simp [hl2]⟩
 obtain ⟨q, c, rfl⟩ := hs
 obtain ⟨q2, c2, rfl⟩ := hs2
 have HV := Lib.hid (And.intro hv (And.intro hv2 (And.intro hp (And.intro hp2 (And.intro he hl2)))))
 obtain ⟨n, hn⟩ : ∃ n, ps.length = n := ⟨_, rfl⟩
 rw [hn] at hv hv2 HV hlen ⊢
 have HN := Lib.hid hn
 clear hv hv2 hp hp2 he hl2 e1 e2 hn
 go_enter Tryz.func79, Tryz.ntmps79
 go_wp2_with fail
 go_loopw [17] (fun iv wr => ∃ k : Nat, k ≤ n ∧ iv = .int .i64 k ∧ Below w.heap.size w wr) (fun iv _ => n - (intOf iv).toNat)
 case atStart => exact ⟨0, Nat.zero_le _, rfl, Below.refl _ _⟩
 case round =>
  obtain ⟨k, hk, rfl, hB⟩ := hrel
  by_cases hlt : k < n
  ·have hn := HN.out
   have hl2 := HV.out.2.2.2.2.2
   have hx : ps[k]? = some (ps[k]'(by omega)) := by simp
   have hy : ps2[k]? = some (ps2[k]'(by omega)) := by simp
   have hxm : (ps[k]'(by omega)) ∈ ps := List.getElem_mem _
   have hym : (ps2[k]'(by omega)) ∈ ps2 := List.getElem_mem _
   generalize ps[k]'(by omega) = x at hx hxm
   generalize ps2[k]'(by omega) = y at hy hym
   have hxy : x.2 = y.2 := by
    have h1 : (ps.map (·.2))[k]? = some x.2 := by simp [hx]
    have h2 : (ps2.map (·.2))[k]? = some y.2 := by simp [hy]
    have := HV.out.2.2.2.2.1
    rw [this, h2] at h1
    exact (Option.some.inj h1).symm
   have hx1 : (ps.map (·.1))[k]? = some x.1 := by simp [hx]
   have hy1 : (ps2.map (·.1))[k]? = some y.1 := by simp [hy]
   obtain ⟨b, o, rfl, lb, hc⟩ := sl1_at HV.out.1 hx1
   obtain ⟨b2, o2, rfl, lb2, hc2⟩ := sl1_at HV.out.2.1 hy1
   have c1 := hc wr hB k _ hx1
   have d1 := hc2 wr hB k _ hy1
   have lbr : b < wr.heap.size := Nat.lt_of_lt_of_le lb hB.size
   have lbr2 : b2 < wr.heap.size := Nat.lt_of_lt_of_le lb2 hB.size
   have HS : Hid (∀ w', Below w.heap.size w w' → Calls Tryz.prog 80 #[x.1, y.1] w' fun e w'' => e = .returned (.bool true) ∧ Below w'.heap.size w' w'') := Lib.hid fun w' hb => (SameActs_spec x.1 y.1 x.2 y.2 w' ((HV.out.2.2.1 x hxm).mono hb) ((HV.out.2.2.2.1 y hym).mono hb)).mono fun e w2 h => by rw [hxy] at h; simpa using h
   clear hx hy hxm hym hxy hx1 hy1 hc hc2 hn hl2
   go_wp2_with fail
   refine (HS.out _ hB).mono ?_
   rintro e w2 ⟨rfl, hb⟩
   have hB2 := bel_trans hB hb
   clear hb c1 d1 HS
   go_wp2_with fail
   go_roundw
   case rel => exact ⟨k + 1, by omega, by go_num, hB2⟩
   case measure => simp [intOf]; omega
  ·have hkn : k = n := by omega
   subst hkn
   go_wp2_with fail
   refine bodyPost_ret (by simp [results, Tryz.results79, go_sem]) rfl ⟨rfl, hB⟩
set_option maxHeartbeats 4000000 in
theorem refNormal_no (b : Sol) (p q : Option Addr) (n c k d : Nat) (x y : Int) (hne : (y != 0) = true) (w : World) (H : Hid (∀ w', Below w.heap.size w w' → Calls Tryz.prog 38 #[.agg #[.int .u64 (pl b 0), .int .u64 (pl b 1), .int .u64 (pl b 2), .int .u64 (pl b 3), .int .u64 (pl b 4), .int .u64 (pl b 5), .int .u64 (pl b 6), .int .u64 (pl b 7), .slice p n c, .slice q k d]] w' fun e w'' => e = .returned (.tuple #[.int .i64 x, .int .i64 y]) ∧ Below w'.heap.size w' w'')) :
  Calls Tryz.prog 76 #[.agg #[.int .u64 (pl b 0), .int .u64 (pl b 1), .int .u64 (pl b 2), .int .u64 (pl b 3), .int .u64 (pl b 4), .int .u64 (pl b 5), .int .u64 (pl b 6), .int .u64 (pl b 7), .slice p n c, .slice q k d]] w fun e w' => e = .returned (.tuple #[.agg #[.int .u64 0, .int .u64 0, .int .u64 0, .int .u64 0, .int .u64 0, .int .u64 0, .int .u64 0, .int .u64 0, .slice none 0 0, .slice none 0 0], .int .i64 y]) ∧ Below w.heap.size w w' := by
 go_enter Tryz.func76, Tryz.ntmps76
 go_wp2_with fail
 refine (H.out _ bel_by).mono ?_
 rintro e w1 ⟨rfl, hb⟩
 have g2 : Blk w1 (w.heap.size + 1) #[.int .u64 0, .int .u64 0, .int .u64 0, .int .u64 0, .int .u64 0, .int .u64 0, .int .u64 0, .int .u64 0, .slice none 0 0, .slice none 0 0] 30 := Blk.grow blk_by hb
 have hB1 : Below w.heap.size w w1 := bel_trans bel_by hb
 have r2 := g2.row
 have l2 := g2.lt
 rw [← g2.rw]
 clear g2 hb H
 go_wp2_with fail
 refine bodyPost_ret (v := .tuple #[.agg #[.int .u64 0, .int .u64 0, .int .u64 0, .int .u64 0, .int .u64 0, .int .u64 0, .int .u64 0, .int .u64 0, .slice none 0 0, .slice none 0 0], .int .i64 y]) (by simp [results, Tryz.results76, go_sem, *]) rfl ⟨rfl, blw_row hB1 (by omega) _⟩
set_option maxHeartbeats 8000000 in
theorem refNormal_yes (b : Sol) (p q : Option Addr) (n c k d : Nat) (l : List Sol) (m : List Ac) (w : World) (F : Fine l m) (hk : k ≤ d ∧ d ≤ 9223372036854775807 ∧ k ≤ 1048576) (HV : Hid (SlS w (.slice p n c) l)) (HA : Hid (SlN w (.slice q k d) m)) (H : Hid (∀ w', Below w.heap.size w w' → Calls Tryz.prog 38 #[.agg #[.int .u64 (pl b 0), .int .u64 (pl b 1), .int .u64 (pl b 2), .int .u64 (pl b 3), .int .u64 (pl b 4), .int .u64 (pl b 5), .int .u64 (pl b 6), .int .u64 (pl b 7), .slice p n c, .slice q k d]] w' fun e w'' => e = .returned (.tuple #[.int .i64 0, .int .i64 0]) ∧ Below w'.heap.size w' w'')) :
  Calls Tryz.prog 76 #[.agg #[.int .u64 (pl b 0), .int .u64 (pl b 1), .int .u64 (pl b 2), .int .u64 (pl b 3), .int .u64 (pl b 4), .int .u64 (pl b 5), .int .u64 (pl b 6), .int .u64 (pl b 7), .slice p n c, .slice q k d]] w (HRes b l (nrm l m) 0 w) := by
 have HM := Lib.hid (And.intro (sl_len HA.out.1) F)
 clear F
 go_enter Tryz.func76, Tryz.ntmps76
 go_wp2_with fail
 refine (H.out _ bel_by).mono ?_
 rintro e w1 ⟨rfl, hb⟩
 have g0 : Blk w1 w.heap.size #[.int .u64 (pl b 0), .int .u64 (pl b 1), .int .u64 (pl b 2), .int .u64 (pl b 3), .int .u64 (pl b 4), .int .u64 (pl b 5), .int .u64 (pl b 6), .int .u64 (pl b 7), .slice p n c, .slice q k d] 30 := Blk.grow blk_by hb
 have g2 : Blk w1 (w.heap.size + 1) #[.int .u64 0, .int .u64 0, .int .u64 0, .int .u64 0, .int .u64 0, .int .u64 0, .int .u64 0, .int .u64 0, .slice none 0 0, .slice none 0 0] 30 := Blk.grow blk_by hb
 have hB2 : Below w.heap.size w w1 := bel_trans bel_by hb
 have c0 := g0.cell
 have l0 := g0.lt
 have l2 := g2.lt
 clear hb H
 go_wp2_with fail
 refine wp_region_grow 8 [Is (.pointer (some ⟨w.heap.size, 0, none⟩)), Is (.agg #[.int .u64 (pl b 0), .int .u64 (pl b 1), .int .u64 (pl b 2), .int .u64 (pl b 3), .int .u64 (pl b 4), .int .u64 (pl b 5), .int .u64 (pl b 6), .int .u64 (pl b 7), .slice p n c]), Is (.pointer (some ⟨w.heap.size, 0, none⟩)), Is (.agg #[.int .u64 (pl b 0), .int .u64 (pl b 1), .int .u64 (pl b 2), .int .u64 (pl b 3), .int .u64 (pl b 4), .int .u64 (pl b 5), .int .u64 (pl b 6), .int .u64 (pl b 7), .slice p n c]), Is (.pointer (some ⟨w.heap.size, 9, none⟩)), Is (.slice q k d), VAc (w.heap.size + 1 + 1) (nrm l m), VHd (w.heap.size + 1 + 1) b p n c (nrm l m)] (by kernel_rfl) (by kernel_rfl) rfl ⟨fun _ _ _ h _ => h, fun _ _ _ h _ => h, fun _ _ _ h _ => h, fun _ _ _ h _ => h, fun _ _ _ h _ => h, fun _ _ _ h _ => h, VAc.stable, VHd.stab, trivial⟩ ?_
 simp only [List.take_succ_cons, List.take_zero, List.drop_succ_cons, List.drop_zero]
 iterate 2 (refine rel_cons ?_ (fun _ => ?_); · intro w1 hb hF; have hc := (Grows.cells hb).1; have hf := (Grows.cells hb).2; (try simp [facts, Is] at hF); go_simp; exact Grows.refl _)
 refine rel_cons ?_ (fun v2 => ?_)
 ·intro w1 hb hF; have hc := (Grows.cells hb).1; have hf := (Grows.cells hb).2; try simp [facts, Is] at hF
  go_simp
  exact Grows.refl _
 refine rel_cons ?_ (fun v3 => ?_)
 ·intro w1 hb hF; have hc := (Grows.cells hb).1; have hf := (Grows.cells hb).2; try simp [facts, Is] at hF
  go_simp
  exact Grows.refl _
 refine rel_cons ?_ (fun v4 => ?_)
 ·intro w1 hb hF; have hc := (Grows.cells hb).1; have hf := (Grows.cells hb).2; try simp [facts, Is] at hF
  go_simp
  exact Grows.refl _
 refine rel_cons ?_ (fun v5 => ?_)
 ·intro w1 hb hF; have hc := (Grows.cells hb).1; have hf := (Grows.cells hb).2; try simp [facts, Is] at hF
  go_simp
  exact Grows.refl _
 refine rel_cons ?_ (fun v6 => ?_)
 ·intro w1 hb hF; have hc := (Grows.cells hb).1; have hf := (Grows.cells hb).2; try simp [facts, Is] at hF
  have hbw := bel_trans hB2 hb
  have hsz := hb.size
  go_simp
  refine (normal123_main b p n c q k d l m w1 HM.out.2 (HV.out.mono hbw) (HA.out.mono hbw) HM.out.1 hk.1 hk.2.1 hk.2.2).mono ?_
  rintro e w' ⟨x, rfl, hO, hB⟩
  have hO' : OwnA w' (w.heap.size + 1 + 1) x (nrm l m) := by
   rw [← normR_eq HM.out.2, HM.out.1]
   exact own_weak hO (by omega)
  exact ⟨_, rfl, hB, by unfold VAc; exact hO'⟩
 refine rel_cons ?_ (fun v7 => ?_)
 ·intro w1 hb hF; have hc := (Grows.cells hb).1; have hf := (Grows.cells hb).2; try simp [facts, Is] at hF
  have hV := hF.2
  have h0 := hF.1
  clear hF
  subst h0
  unfold VAc at hV
  refine Exists.elim (own_shape' hV) (fun p' h => Exists.elim h (fun c' h => ?_))
  have hv := h.1
  subst hv
  have HH := Lib.hid hV
  clear hV h
  go_simp
  exact ⟨Grows.refl _, by unfold VHd; exact ⟨_, rfl, HH.out⟩⟩
 refine rel_nil ?_
 intro w1 hb hF
 simp [Is, Nat.forall_lt_succ_right] at hF
 have e0 := hF.1.1.1.1.1.1.1
 have e1 := hF.1.1.1.1.1.1.2
 have e2 := hF.1.1.1.1.1.2
 have e3 := hF.1.1.1.1.2
 have e4 := hF.1.1.1.2
 have e5 := hF.1.1.2
 have e6 := hF.1.2
 have e7 := hF.2
 clear hF
 simp only [Act.put, List.setIfInBounds_toArray, List.set_cons_succ, List.set_cons_zero, e0, e1, e2, e3, e4, e5]
 clear e0 e1 e2 e3 e4 e5
 unfold VHd at e7
 refine Veil.out ?_
 obtain ⟨bv, rfl, hO⟩ := e7
 obtain ⟨q9, d9, rfl, _, _⟩ := own_shape' hO
 refine Veil.on ?_
 have hB3 := bel_trans hB2 hb
 have G2 := g2.grow hb
 have HO := Lib.hid hO
 clear e6 hO g0 g2 hb c0 l0
 have r2 := G2.row
 have l2' := G2.lt
 rw [← G2.rw]
 clear G2
 go_wp2_with fail
 refine bodyPost_ret (v := .tuple #[.agg #[.int .u64 (pl b 0), .int .u64 (pl b 1), .int .u64 (pl b 2), .int .u64 (pl b 3), .int .u64 (pl b 4), .int .u64 (pl b 5), .int .u64 (pl b 6), .int .u64 (pl b 7), .slice p n c, .slice q9 (nrm l m).length d9], .int .i64 0]) (by simp [results, Tryz.results76, go_sem, *]) rfl ?_
 have hBf : Below w.heap.size w (w1.setRow (w.heap.size + 1) #[.int .u64 (pl b 0), .int .u64 (pl b 1), .int .u64 (pl b 2), .int .u64 (pl b 3), .int .u64 (pl b 4), .int .u64 (pl b 5), .int .u64 (pl b 6), .int .u64 (pl b 7), .slice p n c, .slice q9 (nrm l m).length d9]) := blw_row hB3 (by omega) _
 exact ⟨p, n, c, q9, (nrm l m).length, d9, rfl, HV.out.mono hBf, (own_rowO HO.out _).sl, hBf⟩
set_option maxHeartbeats 8000000 in
theorem refEqual_no (b b2 : Sol) (p q p2 q2 : Option Addr) (n c k d n2 c2 k2 d2 : Nat) (y : Int) (hne : (y != 0) = true) (w : World) (H : Hid (∀ w', Below w.heap.size w w' → Calls Tryz.prog 124 #[.agg #[.int .u64 (pl b 0), .int .u64 (pl b 1), .int .u64 (pl b 2), .int .u64 (pl b 3), .int .u64 (pl b 4), .int .u64 (pl b 5), .int .u64 (pl b 6), .int .u64 (pl b 7), .slice p n c, .slice q k d], .agg #[.int .u64 (pl b2 0), .int .u64 (pl b2 1), .int .u64 (pl b2 2), .int .u64 (pl b2 3), .int .u64 (pl b2 4), .int .u64 (pl b2 5), .int .u64 (pl b2 6), .int .u64 (pl b2 7), .slice p2 n2 c2, .slice q2 k2 d2]] w' fun e w'' => e = .returned (.int .i64 y) ∧ Below w'.heap.size w' w'')) :
  Calls Tryz.prog 77 #[.agg #[.int .u64 (pl b 0), .int .u64 (pl b 1), .int .u64 (pl b 2), .int .u64 (pl b 3), .int .u64 (pl b 4), .int .u64 (pl b 5), .int .u64 (pl b 6), .int .u64 (pl b 7), .slice p n c, .slice q k d], .agg #[.int .u64 (pl b2 0), .int .u64 (pl b2 1), .int .u64 (pl b2 2), .int .u64 (pl b2 3), .int .u64 (pl b2 4), .int .u64 (pl b2 5), .int .u64 (pl b2 6), .int .u64 (pl b2 7), .slice p2 n2 c2, .slice q2 k2 d2]] w fun e w' => e = .returned (.tuple #[.bool false, .int .i64 y]) ∧ Below w.heap.size w w' := by
 go_enter Tryz.func77, Tryz.ntmps77
 go_wp2_with fail
 refine (H.out _ bel_by).mono ?_
 rintro e w1 ⟨rfl, hb⟩
 have g0 : Blk w1 w.heap.size #[.int .u64 (pl b 0), .int .u64 (pl b 1), .int .u64 (pl b 2), .int .u64 (pl b 3), .int .u64 (pl b 4), .int .u64 (pl b 5), .int .u64 (pl b 6), .int .u64 (pl b 7), .slice p n c, .slice q k d] 30 := Blk.grow blk_by hb
 have g1 : Blk w1 (w.heap.size + 1) #[.int .u64 (pl b2 0), .int .u64 (pl b2 1), .int .u64 (pl b2 2), .int .u64 (pl b2 3), .int .u64 (pl b2 4), .int .u64 (pl b2 5), .int .u64 (pl b2 6), .int .u64 (pl b2 7), .slice p2 n2 c2, .slice q2 k2 d2] 30 := Blk.grow blk_by hb
 have hB1 : Below w.heap.size w w1 := bel_trans bel_by hb
 have c0 := g0.cell
 have l0 := g0.lt
 have c1 := g1.cell
 have l1 := g1.lt
 clear hb H
 go_wp2_with fail
 refine bodyPost_ret (v := .tuple #[.bool false, .int .i64 y]) (by simp [results, Tryz.results77, go_sem]) rfl ⟨rfl, hB1⟩
set_option maxHeartbeats 8000000 in
theorem refEqual_other (b b2 : Sol) (p q p2 q2 : Option Addr) (n c k d n2 c2 k2 d2 : Nat) (w : World) (H : Hid (∀ w', Below w.heap.size w w' → Calls Tryz.prog 124 #[.agg #[.int .u64 (pl b 0), .int .u64 (pl b 1), .int .u64 (pl b 2), .int .u64 (pl b 3), .int .u64 (pl b 4), .int .u64 (pl b 5), .int .u64 (pl b 6), .int .u64 (pl b 7), .slice p n c, .slice q k d], .agg #[.int .u64 (pl b2 0), .int .u64 (pl b2 1), .int .u64 (pl b2 2), .int .u64 (pl b2 3), .int .u64 (pl b2 4), .int .u64 (pl b2 5), .int .u64 (pl b2 6), .int .u64 (pl b2 7), .slice p2 n2 c2, .slice q2 k2 d2]] w' fun e w'' => e = .returned (.int .i64 0) ∧ Below w'.heap.size w' w'')) (H2 : Hid (∀ w', Below w.heap.size w w' → Calls Tryz.prog 25 #[.agg #[.int .u64 (pl b 0), .int .u64 (pl b 1), .int .u64 (pl b 2), .int .u64 (pl b 3), .int .u64 (pl b 4), .int .u64 (pl b 5), .int .u64 (pl b 6), .int .u64 (pl b 7), .slice p n c], .agg #[.int .u64 (pl b2 0), .int .u64 (pl b2 1), .int .u64 (pl b2 2), .int .u64 (pl b2 3), .int .u64 (pl b2 4), .int .u64 (pl b2 5), .int .u64 (pl b2 6), .int .u64 (pl b2 7), .slice p2 n2 c2]] w' fun e w'' => e = .returned (.bool false) ∧ Below w'.heap.size w' w'')) :
  Calls Tryz.prog 77 #[.agg #[.int .u64 (pl b 0), .int .u64 (pl b 1), .int .u64 (pl b 2), .int .u64 (pl b 3), .int .u64 (pl b 4), .int .u64 (pl b 5), .int .u64 (pl b 6), .int .u64 (pl b 7), .slice p n c, .slice q k d], .agg #[.int .u64 (pl b2 0), .int .u64 (pl b2 1), .int .u64 (pl b2 2), .int .u64 (pl b2 3), .int .u64 (pl b2 4), .int .u64 (pl b2 5), .int .u64 (pl b2 6), .int .u64 (pl b2 7), .slice p2 n2 c2, .slice q2 k2 d2]] w fun e w' => e = .returned (.tuple #[.bool false, .int .i64 0]) ∧ Below w.heap.size w w' := by
 go_enter Tryz.func77, Tryz.ntmps77
 go_wp2_with fail
 refine (H.out _ bel_by).mono ?_
 rintro e w1 ⟨rfl, hb⟩
 have g0 : Blk w1 w.heap.size #[.int .u64 (pl b 0), .int .u64 (pl b 1), .int .u64 (pl b 2), .int .u64 (pl b 3), .int .u64 (pl b 4), .int .u64 (pl b 5), .int .u64 (pl b 6), .int .u64 (pl b 7), .slice p n c, .slice q k d] 30 := Blk.grow blk_by hb
 have g1 : Blk w1 (w.heap.size + 1) #[.int .u64 (pl b2 0), .int .u64 (pl b2 1), .int .u64 (pl b2 2), .int .u64 (pl b2 3), .int .u64 (pl b2 4), .int .u64 (pl b2 5), .int .u64 (pl b2 6), .int .u64 (pl b2 7), .slice p2 n2 c2, .slice q2 k2 d2] 30 := Blk.grow blk_by hb
 have hB1 : Below w.heap.size w w1 := bel_trans bel_by hb
 have c0 := g0.cell
 have l0 := g0.lt
 have c1 := g1.cell
 have l1 := g1.lt
 clear hb H
 go_wp2_with fail
 refine (H2.out _ (bel_trans hB1 bel_by)).mono ?_
 rintro e w2 ⟨rfl, hb⟩
 have hB2 := bel_trans hB1 (bel_trans bel_by hb)
 have G0 : Blk w2 w.heap.size #[.int .u64 (pl b 0), .int .u64 (pl b 1), .int .u64 (pl b 2), .int .u64 (pl b 3), .int .u64 (pl b 4), .int .u64 (pl b 5), .int .u64 (pl b 6), .int .u64 (pl b 7), .slice p n c, .slice q k d] 30 := Blk.grow blk_by hb
 have G1 : Blk w2 (w.heap.size + 1) #[.int .u64 (pl b2 0), .int .u64 (pl b2 1), .int .u64 (pl b2 2), .int .u64 (pl b2 3), .int .u64 (pl b2 4), .int .u64 (pl b2 5), .int .u64 (pl b2 6), .int .u64 (pl b2 7), .slice p2 n2 c2, .slice q2 k2 d2] 30 := Blk.grow blk_by hb
 clear hb g0 g1 c0 l0 c1 l1 H2
 have c0 := G0.cell
 have l0 := G0.lt
 have c1 := G1.cell
 have l1 := G1.lt
 go_wp2_with fail
 refine bodyPost_ret (v := .tuple #[.bool false, .int .i64 0]) (by simp [results, Tryz.results77, go_sem]) rfl ⟨rfl, hB2⟩
set_option maxHeartbeats 8000000 in
theorem refEqual_yes (b b2 : Sol) (p q p2 q2 : Option Addr) (n c k d n2 c2 k2 d2 : Nat) (l l2 : List Sol) (m m2 : List Ac) (F : Fine l m) (F2 : Fine l2 m2) (hk : k ≤ d ∧ d ≤ 9223372036854775807 ∧ k ≤ 1048576) (hk2 : k2 ≤ d2 ∧ d2 ≤ 9223372036854775807 ∧ k2 ≤ 1048576) (w : World) (HV : Hid (SlS w (.slice p n c) l)) (HA : Hid (SlN w (.slice q k d) m)) (HV2 : Hid (SlS w (.slice p2 n2 c2) l2)) (HA2 : Hid (SlN w (.slice q2 k2 d2) m2)) (H : Hid (∀ w', Below w.heap.size w w' → Calls Tryz.prog 124 #[.agg #[.int .u64 (pl b 0), .int .u64 (pl b 1), .int .u64 (pl b 2), .int .u64 (pl b 3), .int .u64 (pl b 4), .int .u64 (pl b 5), .int .u64 (pl b 6), .int .u64 (pl b 7), .slice p n c, .slice q k d], .agg #[.int .u64 (pl b2 0), .int .u64 (pl b2 1), .int .u64 (pl b2 2), .int .u64 (pl b2 3), .int .u64 (pl b2 4), .int .u64 (pl b2 5), .int .u64 (pl b2 6), .int .u64 (pl b2 7), .slice p2 n2 c2, .slice q2 k2 d2]] w' fun e w'' => e = .returned (.int .i64 0) ∧ Below w'.heap.size w' w'')) (H2 : Hid (∀ w', Below w.heap.size w w' → Calls Tryz.prog 25 #[.agg #[.int .u64 (pl b 0), .int .u64 (pl b 1), .int .u64 (pl b 2), .int .u64 (pl b 3), .int .u64 (pl b 4), .int .u64 (pl b 5), .int .u64 (pl b 6), .int .u64 (pl b 7), .slice p n c], .agg #[.int .u64 (pl b2 0), .int .u64 (pl b2 1), .int .u64 (pl b2 2), .int .u64 (pl b2 3), .int .u64 (pl b2 4), .int .u64 (pl b2 5), .int .u64 (pl b2 6), .int .u64 (pl b2 7), .slice p2 n2 c2]] w' fun e w'' => e = .returned (.bool true) ∧ Below w'.heap.size w' w'')) :
  Calls Tryz.prog 77 #[.agg #[.int .u64 (pl b 0), .int .u64 (pl b 1), .int .u64 (pl b 2), .int .u64 (pl b 3), .int .u64 (pl b 4), .int .u64 (pl b 5), .int .u64 (pl b 6), .int .u64 (pl b 7), .slice p n c, .slice q k d], .agg #[.int .u64 (pl b2 0), .int .u64 (pl b2 1), .int .u64 (pl b2 2), .int .u64 (pl b2 3), .int .u64 (pl b2 4), .int .u64 (pl b2 5), .int .u64 (pl b2 6), .int .u64 (pl b2 7), .slice p2 n2 c2, .slice q2 k2 d2]] w fun e w' => e = .returned (.tuple #[.bool (nrm l m == nrm l2 m2), .int .i64 0]) ∧ Below w.heap.size w w' := by
 go_enter Tryz.func77, Tryz.ntmps77
 have HM := Lib.hid (And.intro (sl_len HA.out.1) F)
 have HM2 := Lib.hid (And.intro (sl_len HA2.out.1) F2)
 clear F F2
 obtain ⟨r, hr⟩ : ∃ r, (nrm l m == nrm l2 m2) = r := ⟨_, rfl⟩
 rw [hr]
 have HRR := Lib.hid hr
 clear hr
 go_wp2_with fail
 refine (H.out _ bel_by).mono ?_
 rintro e w1 ⟨rfl, hb⟩
 have g0 : Blk w1 w.heap.size #[.int .u64 (pl b 0), .int .u64 (pl b 1), .int .u64 (pl b 2), .int .u64 (pl b 3), .int .u64 (pl b 4), .int .u64 (pl b 5), .int .u64 (pl b 6), .int .u64 (pl b 7), .slice p n c, .slice q k d] 30 := Blk.grow blk_by hb
 have g1 : Blk w1 (w.heap.size + 1) #[.int .u64 (pl b2 0), .int .u64 (pl b2 1), .int .u64 (pl b2 2), .int .u64 (pl b2 3), .int .u64 (pl b2 4), .int .u64 (pl b2 5), .int .u64 (pl b2 6), .int .u64 (pl b2 7), .slice p2 n2 c2, .slice q2 k2 d2] 30 := Blk.grow blk_by hb
 have hB1 : Below w.heap.size w w1 := bel_trans bel_by hb
 have c0 := g0.cell
 have l0 := g0.lt
 have c1 := g1.cell
 have l1 := g1.lt
 clear hb H
 go_wp2_with fail
 refine (H2.out _ (bel_trans hB1 bel_by)).mono ?_
 rintro e w2 ⟨rfl, hb⟩
 have hB2 := bel_trans hB1 (bel_trans bel_by hb)
 have G0 : Blk w2 w.heap.size #[.int .u64 (pl b 0), .int .u64 (pl b 1), .int .u64 (pl b 2), .int .u64 (pl b 3), .int .u64 (pl b 4), .int .u64 (pl b 5), .int .u64 (pl b 6), .int .u64 (pl b 7), .slice p n c, .slice q k d] 30 := Blk.grow blk_by hb
 have G1 : Blk w2 (w.heap.size + 1) #[.int .u64 (pl b2 0), .int .u64 (pl b2 1), .int .u64 (pl b2 2), .int .u64 (pl b2 3), .int .u64 (pl b2 4), .int .u64 (pl b2 5), .int .u64 (pl b2 6), .int .u64 (pl b2 7), .slice p2 n2 c2, .slice q2 k2 d2] 30 := Blk.grow blk_by hb
 clear hb g0 g1 c0 l0 c1 l1 H2
 have c0 := G0.cell
 have l0 := G0.lt
 have c1 := G1.cell
 have l1 := G1.lt
 go_wp2_with fail
 refine wp_region_inv Grows (fun _ _ => True) [Is (.pointer (some ⟨w.heap.size, 0, none⟩)), Is (.agg #[.int .u64 (pl b 0), .int .u64 (pl b 1), .int .u64 (pl b 2), .int .u64 (pl b 3), .int .u64 (pl b 4), .int .u64 (pl b 5), .int .u64 (pl b 6), .int .u64 (pl b 7), .slice p n c]), Is (.pointer (some ⟨w.heap.size, 9, none⟩)), Is (.slice q k d), VAc w.heap.size (nrm l m), Is (.pointer (some ⟨w.heap.size + 1, 0, none⟩)), Is (.agg #[.int .u64 (pl b2 0), .int .u64 (pl b2 1), .int .u64 (pl b2 2), .int .u64 (pl b2 3), .int .u64 (pl b2 4), .int .u64 (pl b2 5), .int .u64 (pl b2 6), .int .u64 (pl b2 7), .slice p2 n2 c2]), Is (.pointer (some ⟨w.heap.size + 1, 9, none⟩)), Is (.slice q2 k2 d2), VAc w.heap.size (nrm l2 m2), Is (.bool r), Is (.bool r), Is (.int .i64 0)] (by kernel_rfl) (by kernel_rfl) rfl Grows.refl (fun _ _ _ => Grows.trans) (stable_mem ⟨fun _ _ _ h _ => h, fun _ _ _ h _ => h, fun _ _ _ h _ => h, fun _ _ _ h _ => h, VAc.stable, fun _ _ _ h _ => h, fun _ _ _ h _ => h, fun _ _ _ h _ => h, fun _ _ _ h _ => h, VAc.stable, fun _ _ _ h _ => h, fun _ _ _ h _ => h, fun _ _ _ h _ => h, trivial⟩) _ (Below.drew (Below.refl _ _)) trivial ?_
 iterate 2 (refine inv_cons ?_ (fun _ => ?_); · intro L w1 hat hb hI hF; have hc := (Grows.cells hb).1; (try simp [factsI, Region.binds, Is] at hF); go_simp; (try first | exact Grows.refl _ | exact trivial | rfl))
 refine inv_cons ?_ (fun v2 => ?_)
 ·intro L w1 hat hb hI hF; have hc := (Grows.cells hb).1; try simp [factsI, Region.binds, Is] at hF
  go_simp
  try first | exact Grows.refl _ | exact trivial | rfl
 refine inv_cons ?_ (fun v3 => ?_)
 ·intro L w1 hat hb hI hF; have hc := (Grows.cells hb).1; try simp [factsI, Region.binds, Is] at hF
  go_simp
  try first | exact Grows.refl _ | exact trivial | rfl
 refine inv_cons ?_ (fun v4 => ?_)
 ·intro L w1 hat hb hI hF; have hc := (Grows.cells hb).1; try simp [factsI, Region.binds, Is] at hF
  have hbw := bel_trans hB2 hb
  have hsz := hbw.size
  go_simp
  refine (normal123_main b p n c q k d l m w1 HM.out.2 (HV.out.mono hbw) (HA.out.mono hbw) HM.out.1 hk.1 hk.2.1 hk.2.2).mono ?_
  rintro e w' ⟨x, rfl, hO, hB⟩
  have hO' : OwnA w' w.heap.size x (nrm l m) := by
   rw [← normR_eq HM.out.2, HM.out.1]
   exact own_weak hO (by omega)
  exact ⟨_, rfl, hB, by unfold VAc; exact hO'⟩
 iterate 4 (refine inv_cons ?_ (fun _ => ?_); · intro L w1 hat hb hI hF; have hc := (Grows.cells hb).1; (try simp [factsI, Region.binds, Is] at hF); go_simp; (try first | exact Grows.refl _ | exact trivial | rfl))
 refine inv_cons ?_ (fun v9 => ?_)
 ·intro L w1 hat hb hI hF; have hc := (Grows.cells hb).1; try simp [factsI, Region.binds, Is] at hF
  have hbw := bel_trans hB2 hb
  have hsz := hbw.size
  go_simp
  refine (normal123_main b2 p2 n2 c2 q2 k2 d2 l2 m2 w1 HM2.out.2 (HV2.out.mono hbw) (HA2.out.mono hbw) HM2.out.1 hk2.1 hk2.2.1 hk2.2.2).mono ?_
  rintro e w' ⟨x, rfl, hO, hB⟩
  have hO' : OwnA w' w.heap.size x (nrm l2 m2) := by
   rw [← normR_eq HM2.out.2, HM2.out.1]
   exact own_weak hO (by omega)
  exact ⟨_, rfl, hB, by unfold VAc; exact hO'⟩
 refine inv_cons ?_ (fun v10 => ?_)
 ·intro L w1 hat hb hI hF; have hc := (Grows.cells hb).1; try simp [factsI, Region.binds, Is] at hF
  unfold VAc at hF
  have HFF := Lib.hid hF
  clear hF
  go_simp
  refine (SameActs_spec v4 v9 (nrm l m) (nrm l2 m2) w1 (by first | exact OwnA.sl HFF.out.1 | exact OwnA.sl HFF.out.2) (by first | exact OwnA.sl HFF.out.2 | exact OwnA.sl HFF.out.1)).mono ?_
  rintro e w3 ⟨rfl, hb3⟩
  exact ⟨by rw [HRR.out], hb3⟩
 iterate 2 (refine inv_cons ?_ (fun _ => ?_); · intro L w1 hat hb hI hF; have hc := (Grows.cells hb).1; (try simp [factsI, Region.binds, Is] at hF); go_simp; (try first | exact Grows.refl _ | exact trivial | rfl))
 refine inv_nil ?_
 intro w1 hb hI hF
 simp [Is, Nat.forall_lt_succ_right] at hF
 have e0 := hF.1.1.1.1.1.1.1.1.1.1.1.1
 have e1 := hF.1.1.1.1.1.1.1.1.1.1.1.2
 have e2 := hF.1.1.1.1.1.1.1.1.1.1.2
 have e3 := hF.1.1.1.1.1.1.1.1.1.2
 have e4 := hF.1.1.1.1.1.1.1.1.2
 have e5 := hF.1.1.1.1.1.1.1.2
 have e6 := hF.1.1.1.1.1.1.2
 have e7 := hF.1.1.1.1.1.2
 have e8 := hF.1.1.1.1.2
 have e9 := hF.1.1.1.2
 have e10 := hF.1.1.2
 have e11 := hF.1.2
 have e12 := hF.2
 clear hF
 simp only [Act.put, List.setIfInBounds_toArray, List.set_cons_succ, List.set_cons_zero, e0, e1, e2, e3, e5, e6, e7, e8, e10, e11, e12]
 clear e0 e1 e2 e3 e5 e6 e7 e8 e10 e11 e12
 have hB3 := bel_trans hB2 hb
 clear e4 e9
 go_wp2_with fail
 refine bodyPost_ret (v := .tuple #[.bool r, .int .i64 0]) (by simp [results, Tryz.results77, go_sem]) rfl ⟨rfl, hB3⟩
end Go.Proofs.YtccnkebkgegohaaGreatDoor
end
