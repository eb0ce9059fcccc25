import Derived.Test.YtccnkebkgegohaaGreatDoorG13
/-
  Given contracts of functions of the program, and laws for them, one behind the other.
-/
set_option linter.unusedVariables false
set_option linter.unusedSimpArgs false
set_option linter.unusedSectionVars false
section
namespace Go.Proofs.YtccnkebkgegohaaGreatDoor
open Go.RowKit Go.Rel
set_option maxRecDepth 100000
/-- the first act of a row with which act i is a turn, unless one that is not independent of it comes first -/
def scanT (tb dep : Int → Int → Bool) (i : Int) : List Int → Option Int
 | [] => none
 | j :: js => if tb i j then some j else if dep i j then none else scanT tb dep i js
def turnM (tb dep : Int → Int → Bool) : List Int → Option (Int × Int)
 | [] => none
 | i :: rest => match scanT tb dep i rest with
  | some j => some (i, j)
  | none => turnM tb dep rest
def turnR : Option (Int × Int) → Value
 | some (i, j) => .tuple #[.int .i64 i, .int .i64 j, .bool true]
 | none => .tuple #[.int .i64 0, .int .i64 0, .bool false]
theorem scanT_yes {tb dep : Int → Int → Bool} {i j : Int} {js : List Int} (h : tb i j = true) : scanT tb dep i (j :: js) = some j := by simp [scanT, h]
theorem scanT_no {tb dep : Int → Int → Bool} {i j : Int} {js : List Int} (h : tb i j = false) (h2 : dep i j = false) : scanT tb dep i (j :: js) = scanT tb dep i js := by simp [scanT, h, h2]
theorem scanT_stop {tb dep : Int → Int → Bool} {i j : Int} {js : List Int} (h : tb i j = false) (h2 : dep i j = true) : scanT tb dep i (j :: js) = none := by simp [scanT, h, h2]
theorem turnM_yes {tb dep : Int → Int → Bool} {i j : Int} {rest : List Int} (h : scanT tb dep i rest = some j) : turnM tb dep (i :: rest) = some (i, j) := by simp [turnM, h]
theorem turnM_no {tb dep : Int → Int → Bool} {i : Int} {rest : List Int} (h : scanT tb dep i rest = none) : turnM tb dep (i :: rest) = turnM tb dep rest := by simp [turnM, h]
/-- whether two acts, by their numbers, have the same cells and are opposite -/
def turnB (l : List Sol) (acts : List Ac) (i j : Int) : Bool := ((cellsOf l acts).getD i.toNat 0 == (cellsOf l acts).getD j.toNat 0) && oppA (acts.getD i.toNat (0, 0, 0)) (acts.getD j.toNat (0, 0, 0))
/-- two acts as the walk of turn wants them -/
theorem PastAt.two {bp : Nat} {blank : Sol} {v av : Value} {l : List Sol} {acts : List Ac} {s : Stn} {W : World} (H : PastAt bp blank v av l acts s W) (Ha : SlA W av acts) (hpos : 0 < acts.length) :
  ∃ g c, (∀ W', Below W.heap.size W W' → Blk W' bp (pastC blank v av (.slice (some ⟨g, 0, none⟩) acts.length c) s.1 s.2) 113) ∧ acts.length ≤ c ∧ c ≤ 9223372036854775807 ∧ g < W.heap.size ∧ bp < W.heap.size ∧
   ∀ p q : Nat, p < acts.length → q < acts.length → ∃ t1 x1 f1 y1 t2 x2 f2 y2, (∀ W', Below W.heap.size W W' → W'.cell? ⟨g, p, none⟩ = some (.iface t1 x1) ∧ W'.cell? ⟨g, q, none⟩ = some (.iface t2 x2)) ∧
    (∀ w, (method 408 t1 x1 "strickle/trace.touches").run Tryz.prog w = .ok (f1, y1) w) ∧ (∀ args w, (callFunc f1 args).run Tryz.prog w = .ok (.enter f1 args) w) ∧ Hid (∀ w, Calls Tryz.prog f1 #[y1] w fun e w' => e = .returned (solV ((cellsOf l acts).getD p 0)) ∧ Below w.heap.size w w') ∧
    (∀ w, (method 408 t2 x2 "strickle/trace.touches").run Tryz.prog w = .ok (f2, y2) w) ∧ (∀ args w, (callFunc f2 args).run Tryz.prog w = .ok (.enter f2 args) w) ∧ Hid (∀ w, Calls Tryz.prog f2 #[y2] w fun e w' => e = .returned (solV ((cellsOf l acts).getD q 0)) ∧ Below w.heap.size w w') ∧
    Hid (∀ w', Calls Tryz.prog 101 #[.iface t1 x1, .iface t2 x2] w' fun e w'' => e = .returned (.bool (!(depI (cellsOf l acts) p q))) ∧ Below w'.heap.size w' w'') ∧
    Hid (∀ w', Below W.heap.size W w' → Calls Tryz.prog 145 #[.pointer (some ⟨bp, 0, none⟩), .int .i64 p, .int .i64 q] w' fun e w'' => e = .returned (.bool (oppA (acts.getD p (0, 0, 0)) (acts.getD q (0, 0, 0)))) ∧ Below w'.heap.size w' w'') := by
 obtain ⟨g, c, hpast, hcc, hcm, hg, hd⟩ := H.opn hpos
 refine ⟨g, c, fun W' hb => hpast.grow hb, hcc, hcm, hg, hpast.lt, fun p q hp hq => ?_⟩
 have hcp := hd p _ (by simp [hp] : acts[p]? = some acts[p])
 have hcq := hd q _ (by simp [hq] : acts[q]? = some acts[q])
 obtain ⟨t1, x1, f1, y1, e1, m1, c1, k1⟩ := touches_of (made l acts[p])
 obtain ⟨t2, x2, f2, y2, e2, m2, c2, k2⟩ := touches_of (made l acts[q])
 have a1 : (cellsOf l acts).getD p 0 = (made l acts[p]).2.2 := by simp [cellsOf, hp, made]
 have a2 : (cellsOf l acts).getD q 0 = (made l acts[q]).2.2 := by simp [cellsOf, hq, made]
 refine ⟨t1, x1, f1, y1, t2, x2, f2, y2, fun W' hb => ⟨?_, ?_⟩, m1, c1, ?_, m2, c2, ?_, Lib.hid fun w' => ?_, Lib.hid fun w' hb => ?_⟩
 ·rw [← e1]; exact (hb.cell (p := ⟨g, p, none⟩) hg).trans hcp
 ·rw [← e2]; exact (hb.cell (p := ⟨g, q, none⟩) hg).trans hcq
 ·rw [a1]; exact k1
 ·rw [a2]; exact k2
 ·have := independent_spec (made l acts[p]) (made l acts[q]) w'
  rw [e1, e2] at this
  have e : depI (cellsOf l acts) p q = meetsB (made l acts[p]).2.2 (made l acts[q]).2.2 := by simp [depI, depN, cellsOf, hp, hq, made]
  rw [e]; exact this
 ·exact opposite_spec w' (H.grow hb) (Ha.mono hb) p q _ _ (by simp [hp]) (by simp [hq])
set_option maxHeartbeats 16000000 in
theorem turn_spec {bp : Nat} {blank : Sol} {v av : Value} {l : List Sol} {acts : List Ac} {s : Stn} (w : World) (HP : PastAt bp blank v av l acts s w) (Ha : SlA w av acts) (u : Value) (left : List Int) (Hl : SlI w u left) (hleft : ∀ x ∈ left, 0 ≤ x ∧ x < acts.length) :
  Calls Tryz.prog 91 #[.pointer (some ⟨bp, 0, none⟩), u] w fun e w' => e = .returned (turnR (turnM (turnB l acts) (depI (cellsOf l acts)) left)) ∧ Below w.heap.size w w' := by
 rcases Hl.cases with ⟨hl, a, cu, rfl, hm⟩ | ⟨b, off, cu, rfl, hcu, hcum, hpos, hcs⟩
 ·have hl' : left = [] := by simpa using hl
  subst hl'
  clear hl Hl hleft HP Ha
  go_enter Tryz.func91, Tryz.ntmps91
  go_wp2_with fail
  go_step3
  go_wp2_with fail
  go_step3
  go_wp2_with fail
  refine wp_loop_rounds 1 ?_
  rw [rounds_succ]
  go_wp2_with fail
  rw [Exit.noGoto_ret]
  refine bodyPost_ret (v := .tuple #[.int .i64 0, .int .i64 0, .bool false]) (by simp [results, Tryz.results91, go_sem]) rfl ⟨rfl, Below.refl _ _⟩
 ·rw [List.length_map] at hcu hpos ⊢
  have h0 : 0 < acts.length := by
   have := hleft _ (List.getElem_mem (l := left) (n := 0) hpos)
   omega
  obtain ⟨g, c, HB, hcc, hcm, hg, lp, HT⟩ := HP.two Ha h0
  have HBK := Lib.hid HB; have HTW := Lib.hid HT; have HCS := Lib.hid hcs
  have lb := hcs.1
  have hEq : ∀ p q : Nat, turnB l acts p q = (((cellsOf l acts).getD p 0 == (cellsOf l acts).getD q 0) && oppA (acts.getD p (0, 0, 0)) (acts.getD q (0, 0, 0))) := fun p q => rfl
  have HEQ := Lib.hid hEq
  have HLF := Lib.hid hleft
  clear HB HT hcs HP Ha Hl hleft hEq h0
  generalize turnB l acts = tb at *
  generalize hdep : depI (cellsOf l acts) = dep at *
  clear hdep
  generalize hm : acts.length = m at *
  clear hm
  generalize hn : left.length = n at *
  have HN := Lib.hid hn; clear hn
  generalize hres : turnM tb dep left = res
  have HRES := Lib.hid hres; clear hres
  go_enter Tryz.func91, Tryz.ntmps91
  go_wp2_with fail
  go_step3
  go_wp2_with fail
  go_step3
  go_wp2_with fail
  go_loopw [13] (fun y wr => ∃ k : Nat, k ≤ n ∧ y = .int .i64 k ∧ Hid (res = turnM tb dep (left.drop k)) ∧ Below w.heap.size w wr) (fun y _ => n - (intOf y).toNat)
  case atStart => exact ⟨0, Nat.zero_le _, rfl, Lib.hid HRES.out.symm, Below.refl _ _⟩
  case round =>
   obtain ⟨k, hk, rfl, hrun, hbel⟩ := hrel
   by_cases hlt : k < n
   ·have hkl : k < left.length := by rw [HN.out]; exact hlt
    have hx : left[k]? = some (left[k]'hkl) := by simp
    have HX : Hid (left.drop k = left[k]'hkl :: left.drop (k + 1)) := Lib.hid (List.drop_eq_getElem_cons hkl)
    have hxr := HLF.out _ (List.getElem_mem (l := left) (n := k) hkl)
    generalize left[k]'hkl = x at hx hxr HX
    have c0 := int_cell (HCS.out.mono hbel lb) hx
    have lb' : b < wr.heap.size := Nat.lt_of_lt_of_le lb hbel.size
    refine Veil.out ?_
    obtain ⟨p, rfl⟩ : ∃ p : Nat, x = (p : Int) := ⟨x.toNat, by omega⟩
    refine Veil.on ?_
    have hpm : p < m := by omega
    clear hx hkl hxr
    by_cases hlast : k + 1 = n
    ·have HSC : Hid (scanT tb dep p (left.drop (k + 1)) = none) := Lib.hid (by rw [List.drop_of_length_le (by rw [HN.out]; omega)]; rfl)
     subst hlast
     by_cases hcap : cu = k + 1
     ·subst hcap
      go_wp2_with fail
      refine wp_loop_rounds 1 ?_
      rw [rounds_succ]
      go_wp2_with fail
      go_roundw
      case rel => exact ⟨k + 1, by omega, by go_num, Lib.hid (by rw [hrun.out, HX.out]; exact turnM_no HSC.out), hbel⟩
      case measure => simp [intOf]
     ·have hcap' : ¬ k + 1 = cu := fun e => hcap e.symm
      go_wp2_with fail
      refine wp_loop_rounds 1 ?_
      rw [rounds_succ]
      go_wp2_with fail
      go_roundw
      case rel => exact ⟨k + 1, by omega, by go_num, Lib.hid (by rw [hrun.out, HX.out]; exact turnM_no HSC.out), hbel⟩
      case measure => simp [intOf]
    ·have hcap : ¬ cu = k + 1 := by omega
     have hcap' : ¬ k + 1 = cu := by omega
     go_wp2_with fail
     obtain ⟨wo, rfl⟩ : ∃ wo : World, wo = wr := ⟨_, rfl⟩
     have HBO := Lib.hid hbel; clear hbel
     go_loopw [23] (fun y wr => ∃ j : Nat, j ≤ n - (k + 1) ∧ y = .int .i64 j ∧ Hid (scanT tb dep p (left.drop (k + 1)) = scanT tb dep p (left.drop (k + 1 + j))) ∧ Below w.heap.size w wr) (fun y _ => n - (k + 1) - (intOf y).toNat)
     case atStart => exact ⟨0, Nat.zero_le _, rfl, Lib.hid rfl, HBO.out⟩
     case round =>
      obtain ⟨j, hj, rfl, hscan, hbel⟩ := hrel
      by_cases hjt : j < n - (k + 1)
      ·have hjl : k + 1 + j < left.length := by rw [HN.out]; omega
       have hy : left[k + 1 + j]? = some (left[k + 1 + j]'hjl) := by simp
       have HY : Hid (left.drop (k + 1 + j) = left[k + 1 + j]'hjl :: left.drop (k + 1 + (j + 1))) := Lib.hid (List.drop_eq_getElem_cons hjl)
       have hyr := HLF.out _ (List.getElem_mem (l := left) (n := k + 1 + j) hjl)
       generalize left[k + 1 + j]'hjl = y at hy hyr HY
       have d0' := int_cell (HCS.out.mono hbel lb) hy
       have d0 : wr.cell? ⟨b, off + (k + 1) + j, none⟩ = some (.int .i64 y) := by rw [← d0']; congr 2; omega
       clear d0'
       have lb' : b < wr.heap.size := Nat.lt_of_lt_of_le lb hbel.size
       have lg' : g < wr.heap.size := Nat.lt_of_lt_of_le hg hbel.size
       have lp' : bp < wr.heap.size := Nat.lt_of_lt_of_le lp hbel.size
       refine Veil.out ?_
       obtain ⟨q, rfl⟩ : ∃ q : Nat, y = (q : Int) := ⟨y.toNat, by omega⟩
       obtain ⟨t1, x1, f1, y1, t2, x2, f2, y2, hcell, m1, c1, k1, m2, c2, k2, HD0, HOP0⟩ := HTW.out p q hpm (by omega)
       refine Veil.on ?_
       have hqm : q < m := by omega
       have e1 := (hcell wr hbel).1
       have e2 := (hcell wr hbel).2
       have cp := (HBK.out wr hbel).cell
       clear hy hyr hjl hcell
       have HQ := Lib.hid (HEQ.out p q)
       generalize (cellsOf l acts).getD p 0 = ci at *
       generalize (cellsOf l acts).getD q 0 = cj at *
       generalize hop : oppA (acts.getD p (0, 0, 0)) (acts.getD q (0, 0, 0)) = op at *
       clear hop
       generalize hrr : dep p q = r at HD0
       have HR := Lib.hid hrr; clear hrr
       have HD := HD0; have HOP := HOP0; clear HD0 HOP0
       rcases hq : (ci == cj) with _ | _
       ·have HTB : Hid (tb p q = false) := Lib.hid (by rw [HQ.out, hq]; rfl)
        clear HQ HOP
        go_wp2_with fail
        refine wp_region_grow 23 [Is (.pointer (some ⟨bp, 0, none⟩)), Is (.pointer (some ⟨bp, 0, none⟩)), Is (.pointer (some ⟨bp, 10, none⟩)), Is (.slice (some ⟨g, 0, none⟩) m c), Is (.int .i64 p), Is (.pointer (some ⟨g, p, none⟩)), Is (.iface t1 x1), Is (.agg #[.int .u64 (pl ci 0), .int .u64 (pl ci 1), .int .u64 (pl ci 2), .int .u64 (pl ci 3), .int .u64 (pl ci 4), .int .u64 (pl ci 5), .int .u64 (pl ci 6), .int .u64 (pl ci 7)]), Is (.pointer (some ⟨bp, 0, none⟩)), Is (.pointer (some ⟨bp, 0, none⟩)), Is (.pointer (some ⟨bp, 10, none⟩)), Is (.slice (some ⟨g, 0, none⟩) m c), Is (.int .i64 q), Is (.pointer (some ⟨g, q, none⟩)), Is (.iface t2 x2), Is (.agg #[.int .u64 (pl cj 0), .int .u64 (pl cj 1), .int .u64 (pl cj 2), .int .u64 (pl cj 3), .int .u64 (pl cj 4), .int .u64 (pl cj 5), .int .u64 (pl cj 6), .int .u64 (pl cj 7)]), Is (.bool false), Is (.bool false), Is undef, Is undef, Is undef, Is undef, Is (.bool false)] (by kernel_rfl) (by kernel_rfl) rfl ⟨fun _ _ _ h _ => h, fun _ _ _ h _ => h, fun _ _ _ h _ => h, fun _ _ _ h _ => h, fun _ _ _ h _ => h, fun _ _ _ h _ => h, fun _ _ _ h _ => h, fun _ _ _ h _ => h, fun _ _ _ h _ => h, fun _ _ _ h _ => h, fun _ _ _ h _ => h, fun _ _ _ h _ => h, fun _ _ _ h _ => h, fun _ _ _ h _ => h, fun _ _ _ h _ => h, fun _ _ _ h _ => h, fun _ _ _ h _ => h, fun _ _ _ h _ => h, fun _ _ _ h _ => h, fun _ _ _ h _ => h, fun _ _ _ h _ => h, fun _ _ _ h _ => h, fun _ _ _ h _ => h, trivial⟩ ?_
        simp only [List.take_succ_cons, List.take_zero, List.drop_succ_cons, List.drop_zero]
        iterate 7 (refine rel_cons ?_ (fun _ => ?_); · intro w1 hb hF; have hc := (Grows.cells hb).1; have hf := (Grows.cells hb).2; (try simp [facts, Is] at hF); go_simp; (all_goals first | exact Grows.refl _ | (intro hx; cases hx)))
        refine rel_cons ?_ (fun v7 => ?_)
        ·intro w1 hb hF; have hc := (Grows.cells hb).1; have hf := (Grows.cells hb).2; try simp [facts, Is] at hF
         go_simp
         refine (k1.out _).mono ?_
         rintro e w4 ⟨rfl, hb4⟩
         exact ⟨rfl, hb4⟩
        iterate 7 (refine rel_cons ?_ (fun _ => ?_); · intro w1 hb hF; have hc := (Grows.cells hb).1; have hf := (Grows.cells hb).2; (try simp [facts, Is] at hF); go_simp; (all_goals first | exact Grows.refl _ | (intro hx; cases hx)))
        refine rel_cons ?_ (fun v15 => ?_)
        ·intro w1 hb hF; have hc := (Grows.cells hb).1; have hf := (Grows.cells hb).2; try simp [facts, Is] at hF
         go_simp
         refine (k2.out _).mono ?_
         rintro e w4 ⟨rfl, hb4⟩
         exact ⟨rfl, hb4⟩
        iterate 7 (refine rel_cons ?_ (fun _ => ?_); · intro w1 hb hF; have hc := (Grows.cells hb).1; have hf := (Grows.cells hb).2; (try simp [facts, Is] at hF); go_simp; (all_goals first | exact Grows.refl _ | (intro hx; cases hx)))
        refine rel_nil ?_
        intro w1 hb hF
        simp [Is, Nat.forall_lt_succ_right] at hF
        simp only [Act.put, List.setIfInBounds_toArray, List.set_cons_succ, List.set_cons_zero, hF]
        clear hF
        have hB7 : Below w.heap.size w w1 := bel_trans hbel hb
        have hc := (Grows.cells hb).1
        have e1' := (hc g p lg').trans e1
        have e2' := (hc g q lg').trans e2
        have cp' : ∀ o, w1.cell? ⟨bp, o, none⟩ = _ := fun o => (hc bp o lp').trans (cp o)
        have lg1 : g < w1.heap.size := Nat.lt_of_lt_of_le lg' (Below.size hb)
        have lp1 : bp < w1.heap.size := Nat.lt_of_lt_of_le lp' (Below.size hb)
        clear e1 e2 cp lg' lp' hc hb hbel d0 c0 m1 m2 c1 c2 k1 k2 lb'
        clear hq
        go_wp2_with fail
        refine wp_region_grow 16 [Is (.pointer (some ⟨bp, 0, none⟩)), Is (.pointer (some ⟨bp, 0, none⟩)), Is (.pointer (some ⟨bp, 10, none⟩)), Is (.slice (some ⟨g, 0, none⟩) m c), Is (.int .i64 p), Is (.pointer (some ⟨g, p, none⟩)), Is (.iface t1 x1), Is (.pointer (some ⟨bp, 0, none⟩)), Is (.pointer (some ⟨bp, 0, none⟩)), Is (.pointer (some ⟨bp, 10, none⟩)), Is (.slice (some ⟨g, 0, none⟩) m c), Is (.int .i64 q), Is (.pointer (some ⟨g, q, none⟩)), Is (.iface t2 x2), Is (.bool (!r)), Is (.bool r)] (by kernel_rfl) (by kernel_rfl) rfl ⟨fun _ _ _ h _ => h, fun _ _ _ h _ => h, fun _ _ _ h _ => h, fun _ _ _ h _ => h, fun _ _ _ h _ => h, fun _ _ _ h _ => h, fun _ _ _ h _ => h, fun _ _ _ h _ => h, fun _ _ _ h _ => h, fun _ _ _ h _ => h, fun _ _ _ h _ => h, fun _ _ _ h _ => h, fun _ _ _ h _ => h, fun _ _ _ h _ => h, fun _ _ _ h _ => h, fun _ _ _ h _ => h, trivial⟩ ?_
        simp only [List.take_succ_cons, List.take_zero, List.drop_succ_cons, List.drop_zero]
        iterate 14 (refine rel_cons ?_ (fun _ => ?_); · intro w1 hb hF; have hc := (Grows.cells hb).1; have hf := (Grows.cells hb).2; (try simp [facts, Is] at hF); go_simp; exact Grows.refl _)
        refine rel_cons ?_ (fun v14 => ?_)
        ·intro w1 hb hF; have hc := (Grows.cells hb).1; have hf := (Grows.cells hb).2; try simp [facts, Is] at hF
         go_simp
         refine (HD.out _).mono ?_
         rintro e w4 ⟨rfl, hb4⟩
         exact ⟨rfl, hb4⟩
        refine rel_cons ?_ (fun v15 => ?_)
        ·intro w1 hb hF; have hc := (Grows.cells hb).1; have hf := (Grows.cells hb).2; try simp [facts, Is] at hF
         go_simp
         exact Grows.refl _
        refine rel_nil ?_
        intro w1 hb hF
        simp [Is, Nat.forall_lt_succ_right] at hF
        simp only [Act.put, List.setIfInBounds_toArray, List.set_cons_succ, List.set_cons_zero, hF]
        clear hF
        have hB9 : Below w.heap.size w w1 := bel_trans hB7 hb
        clear hb hB7
        rcases hr : r with _ | _
        ·have HSC : Hid (scanT tb dep p (left.drop (k + 1)) = scanT tb dep p (left.drop (k + 1 + (j + 1)))) := Lib.hid (by rw [hscan.out, HY.out]; exact scanT_no HTB.out (by rw [HR.out, hr]))
         clear hr HD
         go_wp2_with fail
         go_roundw
         case rel => exact ⟨j + 1, by omega, by go_num, HSC, hB9⟩
         case measure => simp [intOf]; omega
        ·have HSC : Hid (scanT tb dep p (left.drop (k + 1)) = none) := Lib.hid (by rw [hscan.out, HY.out]; exact scanT_stop HTB.out (by rw [HR.out, hr]))
         clear hr HD
         go_wp2_with fail
         go_roundw
         case rel => exact ⟨k + 1, by omega, by go_num, Lib.hid (by rw [hrun.out, HX.out]; exact turnM_no HSC.out), hB9⟩
         case measure => simp [intOf]; omega
       ·rcases op with _ | _
        ·have HTB : Hid (tb p q = false) := Lib.hid (by rw [HQ.out, hq]; rfl)
         clear HQ
         go_wp2_with fail
         refine wp_region_grow 23 [Is (.pointer (some ⟨bp, 0, none⟩)), Is (.pointer (some ⟨bp, 0, none⟩)), Is (.pointer (some ⟨bp, 10, none⟩)), Is (.slice (some ⟨g, 0, none⟩) m c), Is (.int .i64 p), Is (.pointer (some ⟨g, p, none⟩)), Is (.iface t1 x1), Is (.agg #[.int .u64 (pl ci 0), .int .u64 (pl ci 1), .int .u64 (pl ci 2), .int .u64 (pl ci 3), .int .u64 (pl ci 4), .int .u64 (pl ci 5), .int .u64 (pl ci 6), .int .u64 (pl ci 7)]), Is (.pointer (some ⟨bp, 0, none⟩)), Is (.pointer (some ⟨bp, 0, none⟩)), Is (.pointer (some ⟨bp, 10, none⟩)), Is (.slice (some ⟨g, 0, none⟩) m c), Is (.int .i64 q), Is (.pointer (some ⟨g, q, none⟩)), Is (.iface t2 x2), Is (.agg #[.int .u64 (pl cj 0), .int .u64 (pl cj 1), .int .u64 (pl cj 2), .int .u64 (pl cj 3), .int .u64 (pl cj 4), .int .u64 (pl cj 5), .int .u64 (pl cj 6), .int .u64 (pl cj 7)]), Is (.bool true), Is (.bool true), Is (.pointer (some ⟨bp, 0, none⟩)), Is (.int .i64 p), Is (.int .i64 q), Is (.bool false), Is (.bool false)] (by kernel_rfl) (by kernel_rfl) rfl ⟨fun _ _ _ h _ => h, fun _ _ _ h _ => h, fun _ _ _ h _ => h, fun _ _ _ h _ => h, fun _ _ _ h _ => h, fun _ _ _ h _ => h, fun _ _ _ h _ => h, fun _ _ _ h _ => h, fun _ _ _ h _ => h, fun _ _ _ h _ => h, fun _ _ _ h _ => h, fun _ _ _ h _ => h, fun _ _ _ h _ => h, fun _ _ _ h _ => h, fun _ _ _ h _ => h, fun _ _ _ h _ => h, fun _ _ _ h _ => h, fun _ _ _ h _ => h, fun _ _ _ h _ => h, fun _ _ _ h _ => h, fun _ _ _ h _ => h, fun _ _ _ h _ => h, fun _ _ _ h _ => h, trivial⟩ ?_
         simp only [List.take_succ_cons, List.take_zero, List.drop_succ_cons, List.drop_zero]
         iterate 7 (refine rel_cons ?_ (fun _ => ?_); · intro w1 hb hF; have hc := (Grows.cells hb).1; have hf := (Grows.cells hb).2; (try simp [facts, Is] at hF); go_simp; (all_goals first | exact Grows.refl _ | (intro hx; cases hx)))
         refine rel_cons ?_ (fun v7 => ?_)
         ·intro w1 hb hF; have hc := (Grows.cells hb).1; have hf := (Grows.cells hb).2; try simp [facts, Is] at hF
          go_simp
          refine (k1.out _).mono ?_
          rintro e w4 ⟨rfl, hb4⟩
          exact ⟨rfl, hb4⟩
         iterate 7 (refine rel_cons ?_ (fun _ => ?_); · intro w1 hb hF; have hc := (Grows.cells hb).1; have hf := (Grows.cells hb).2; (try simp [facts, Is] at hF); go_simp; (all_goals first | exact Grows.refl _ | (intro hx; cases hx)))
         refine rel_cons ?_ (fun v15 => ?_)
         ·intro w1 hb hF; have hc := (Grows.cells hb).1; have hf := (Grows.cells hb).2; try simp [facts, Is] at hF
          go_simp
          refine (k2.out _).mono ?_
          rintro e w4 ⟨rfl, hb4⟩
          exact ⟨rfl, hb4⟩
         iterate 5 (refine rel_cons ?_ (fun _ => ?_); · intro w1 hb hF; have hc := (Grows.cells hb).1; have hf := (Grows.cells hb).2; (try simp [facts, Is] at hF); go_simp; (all_goals first | exact Grows.refl _ | (intro hx; cases hx)))
         refine rel_cons ?_ (fun v21 => ?_)
         ·intro w1 hb hF; have hc := (Grows.cells hb).1; have hf := (Grows.cells hb).2; try simp [facts, Is] at hF
          go_simp
          refine (HOP.out _ (bel_trans hbel hb)).mono ?_
          rintro e w4 ⟨rfl, hb4⟩
          exact ⟨rfl, hb4⟩
         refine rel_cons ?_ (fun v22 => ?_)
         ·intro w1 hb hF; have hc := (Grows.cells hb).1; have hf := (Grows.cells hb).2; try simp [facts, Is] at hF
          go_simp
          all_goals first | exact Grows.refl _ | (intro hx; cases hx)
         refine rel_nil ?_
         intro w1 hb hF
         simp [Is, Nat.forall_lt_succ_right] at hF
         simp only [Act.put, List.setIfInBounds_toArray, List.set_cons_succ, List.set_cons_zero, hF]
         clear hF
         have hB7 : Below w.heap.size w w1 := bel_trans hbel hb
         have hc := (Grows.cells hb).1
         have e1' := (hc g p lg').trans e1
         have e2' := (hc g q lg').trans e2
         have cp' : ∀ o, w1.cell? ⟨bp, o, none⟩ = _ := fun o => (hc bp o lp').trans (cp o)
         have lg1 : g < w1.heap.size := Nat.lt_of_lt_of_le lg' (Below.size hb)
         have lp1 : bp < w1.heap.size := Nat.lt_of_lt_of_le lp' (Below.size hb)
         clear e1 e2 cp lg' lp' hc hb hbel d0 c0 m1 m2 c1 c2 k1 k2 lb'
         clear hq HOP
         go_wp2_with fail
         refine wp_region_grow 16 [Is (.pointer (some ⟨bp, 0, none⟩)), Is (.pointer (some ⟨bp, 0, none⟩)), Is (.pointer (some ⟨bp, 10, none⟩)), Is (.slice (some ⟨g, 0, none⟩) m c), Is (.int .i64 p), Is (.pointer (some ⟨g, p, none⟩)), Is (.iface t1 x1), Is (.pointer (some ⟨bp, 0, none⟩)), Is (.pointer (some ⟨bp, 0, none⟩)), Is (.pointer (some ⟨bp, 10, none⟩)), Is (.slice (some ⟨g, 0, none⟩) m c), Is (.int .i64 q), Is (.pointer (some ⟨g, q, none⟩)), Is (.iface t2 x2), Is (.bool (!r)), Is (.bool r)] (by kernel_rfl) (by kernel_rfl) rfl ⟨fun _ _ _ h _ => h, fun _ _ _ h _ => h, fun _ _ _ h _ => h, fun _ _ _ h _ => h, fun _ _ _ h _ => h, fun _ _ _ h _ => h, fun _ _ _ h _ => h, fun _ _ _ h _ => h, fun _ _ _ h _ => h, fun _ _ _ h _ => h, fun _ _ _ h _ => h, fun _ _ _ h _ => h, fun _ _ _ h _ => h, fun _ _ _ h _ => h, fun _ _ _ h _ => h, fun _ _ _ h _ => h, trivial⟩ ?_
         simp only [List.take_succ_cons, List.take_zero, List.drop_succ_cons, List.drop_zero]
         iterate 14 (refine rel_cons ?_ (fun _ => ?_); · intro w1 hb hF; have hc := (Grows.cells hb).1; have hf := (Grows.cells hb).2; (try simp [facts, Is] at hF); go_simp; exact Grows.refl _)
         refine rel_cons ?_ (fun v14 => ?_)
         ·intro w1 hb hF; have hc := (Grows.cells hb).1; have hf := (Grows.cells hb).2; try simp [facts, Is] at hF
          go_simp
          refine (HD.out _).mono ?_
          rintro e w4 ⟨rfl, hb4⟩
          exact ⟨rfl, hb4⟩
         refine rel_cons ?_ (fun v15 => ?_)
         ·intro w1 hb hF; have hc := (Grows.cells hb).1; have hf := (Grows.cells hb).2; try simp [facts, Is] at hF
          go_simp
          exact Grows.refl _
         refine rel_nil ?_
         intro w1 hb hF
         simp [Is, Nat.forall_lt_succ_right] at hF
         simp only [Act.put, List.setIfInBounds_toArray, List.set_cons_succ, List.set_cons_zero, hF]
         clear hF
         have hB9 : Below w.heap.size w w1 := bel_trans hB7 hb
         clear hb hB7
         rcases hr : r with _ | _
         ·have HSC : Hid (scanT tb dep p (left.drop (k + 1)) = scanT tb dep p (left.drop (k + 1 + (j + 1)))) := Lib.hid (by rw [hscan.out, HY.out]; exact scanT_no HTB.out (by rw [HR.out, hr]))
          clear hr HD
          go_wp2_with fail
          go_roundw
          case rel => exact ⟨j + 1, by omega, by go_num, HSC, hB9⟩
          case measure => simp [intOf]; omega
         ·have HSC : Hid (scanT tb dep p (left.drop (k + 1)) = none) := Lib.hid (by rw [hscan.out, HY.out]; exact scanT_stop HTB.out (by rw [HR.out, hr]))
          clear hr HD
          go_wp2_with fail
          go_roundw
          case rel => exact ⟨k + 1, by omega, by go_num, Lib.hid (by rw [hrun.out, HX.out]; exact turnM_no HSC.out), hB9⟩
          case measure => simp [intOf]; omega
        ·have HTB : Hid (tb p q = true) := Lib.hid (by rw [HQ.out, hq]; rfl)
         clear HQ
         go_wp2_with fail
         refine wp_region_grow 23 [Is (.pointer (some ⟨bp, 0, none⟩)), Is (.pointer (some ⟨bp, 0, none⟩)), Is (.pointer (some ⟨bp, 10, none⟩)), Is (.slice (some ⟨g, 0, none⟩) m c), Is (.int .i64 p), Is (.pointer (some ⟨g, p, none⟩)), Is (.iface t1 x1), Is (.agg #[.int .u64 (pl ci 0), .int .u64 (pl ci 1), .int .u64 (pl ci 2), .int .u64 (pl ci 3), .int .u64 (pl ci 4), .int .u64 (pl ci 5), .int .u64 (pl ci 6), .int .u64 (pl ci 7)]), Is (.pointer (some ⟨bp, 0, none⟩)), Is (.pointer (some ⟨bp, 0, none⟩)), Is (.pointer (some ⟨bp, 10, none⟩)), Is (.slice (some ⟨g, 0, none⟩) m c), Is (.int .i64 q), Is (.pointer (some ⟨g, q, none⟩)), Is (.iface t2 x2), Is (.agg #[.int .u64 (pl cj 0), .int .u64 (pl cj 1), .int .u64 (pl cj 2), .int .u64 (pl cj 3), .int .u64 (pl cj 4), .int .u64 (pl cj 5), .int .u64 (pl cj 6), .int .u64 (pl cj 7)]), Is (.bool true), Is (.bool true), Is (.pointer (some ⟨bp, 0, none⟩)), Is (.int .i64 p), Is (.int .i64 q), Is (.bool true), Is (.bool true)] (by kernel_rfl) (by kernel_rfl) rfl ⟨fun _ _ _ h _ => h, fun _ _ _ h _ => h, fun _ _ _ h _ => h, fun _ _ _ h _ => h, fun _ _ _ h _ => h, fun _ _ _ h _ => h, fun _ _ _ h _ => h, fun _ _ _ h _ => h, fun _ _ _ h _ => h, fun _ _ _ h _ => h, fun _ _ _ h _ => h, fun _ _ _ h _ => h, fun _ _ _ h _ => h, fun _ _ _ h _ => h, fun _ _ _ h _ => h, fun _ _ _ h _ => h, fun _ _ _ h _ => h, fun _ _ _ h _ => h, fun _ _ _ h _ => h, fun _ _ _ h _ => h, fun _ _ _ h _ => h, fun _ _ _ h _ => h, fun _ _ _ h _ => h, trivial⟩ ?_
         simp only [List.take_succ_cons, List.take_zero, List.drop_succ_cons, List.drop_zero]
         iterate 7 (refine rel_cons ?_ (fun _ => ?_); · intro w1 hb hF; have hc := (Grows.cells hb).1; have hf := (Grows.cells hb).2; (try simp [facts, Is] at hF); go_simp; (all_goals first | exact Grows.refl _ | (intro hx; cases hx)))
         refine rel_cons ?_ (fun v7 => ?_)
         ·intro w1 hb hF; have hc := (Grows.cells hb).1; have hf := (Grows.cells hb).2; try simp [facts, Is] at hF
          go_simp
          refine (k1.out _).mono ?_
          rintro e w4 ⟨rfl, hb4⟩
          exact ⟨rfl, hb4⟩
         iterate 7 (refine rel_cons ?_ (fun _ => ?_); · intro w1 hb hF; have hc := (Grows.cells hb).1; have hf := (Grows.cells hb).2; (try simp [facts, Is] at hF); go_simp; (all_goals first | exact Grows.refl _ | (intro hx; cases hx)))
         refine rel_cons ?_ (fun v15 => ?_)
         ·intro w1 hb hF; have hc := (Grows.cells hb).1; have hf := (Grows.cells hb).2; try simp [facts, Is] at hF
          go_simp
          refine (k2.out _).mono ?_
          rintro e w4 ⟨rfl, hb4⟩
          exact ⟨rfl, hb4⟩
         iterate 5 (refine rel_cons ?_ (fun _ => ?_); · intro w1 hb hF; have hc := (Grows.cells hb).1; have hf := (Grows.cells hb).2; (try simp [facts, Is] at hF); go_simp; (all_goals first | exact Grows.refl _ | (intro hx; cases hx)))
         refine rel_cons ?_ (fun v21 => ?_)
         ·intro w1 hb hF; have hc := (Grows.cells hb).1; have hf := (Grows.cells hb).2; try simp [facts, Is] at hF
          go_simp
          refine (HOP.out _ (bel_trans hbel hb)).mono ?_
          rintro e w4 ⟨rfl, hb4⟩
          exact ⟨rfl, hb4⟩
         refine rel_cons ?_ (fun v22 => ?_)
         ·intro w1 hb hF; have hc := (Grows.cells hb).1; have hf := (Grows.cells hb).2; try simp [facts, Is] at hF
          go_simp
          all_goals first | exact Grows.refl _ | (intro hx; cases hx)
         refine rel_nil ?_
         intro w1 hb hF
         simp [Is, Nat.forall_lt_succ_right] at hF
         simp only [Act.put, List.setIfInBounds_toArray, List.set_cons_succ, List.set_cons_zero, hF]
         clear hF
         have hB7 : Below w.heap.size w w1 := bel_trans hbel hb
         clear hb hbel
         go_wp2_with fail
         have HRE : Hid (res = some ((p : Int), (q : Int))) := Lib.hid (by rw [hrun.out, HX.out]; exact turnM_yes (by rw [hscan.out, HY.out]; exact scanT_yes HTB.out))
         rw [Exit.noGoto_ret]
         refine bodyPost_ret (v := .tuple #[.int .i64 p, .int .i64 q, .bool true]) (by simp [results, Tryz.results91, go_sem]) rfl ⟨congrArg Ending.returned (congrArg turnR HRE.out).symm, hB7⟩
      ·have hjn : j = n - (k + 1) := by omega
       have HSC : Hid (scanT tb dep p (left.drop (k + 1)) = none) := Lib.hid (by rw [hscan.out, List.drop_of_length_le (by rw [HN.out]; omega)]; rfl)
       go_wp2_with fail
       go_roundw
       case rel => exact ⟨k + 1, by omega, by go_num, Lib.hid (by rw [hrun.out, HX.out]; exact turnM_no HSC.out), hbel⟩
       case measure => simp [intOf]; omega
   ·have hkn : k = n := by omega
    subst hkn
    have HRE : Hid (res = none) := Lib.hid (by rw [hrun.out, List.drop_of_length_le (by rw [HN.out]; omega)]; rfl)
    go_wp2_with fail
    rw [Exit.noGoto_ret]
    refine bodyPost_ret (v := .tuple #[.int .i64 0, .int .i64 0, .bool false]) (by simp [results, Tryz.results91, go_sem]) rfl ⟨congrArg Ending.returned (congrArg turnR HRE.out).symm, hbel⟩
end Go.Proofs.YtccnkebkgegohaaGreatDoor
end
