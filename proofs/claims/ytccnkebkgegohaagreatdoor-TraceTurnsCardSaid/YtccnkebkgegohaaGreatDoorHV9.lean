import Derived.Test.YtccnkebkgegohaaGreatDoorHTrk
/-
  Given contracts of functions of the program, and laws for them, one behind the other.
-/
set_option linter.unusedVariables false
set_option linter.unusedSimpArgs false
set_option linter.unusedSectionVars false
section
namespace Go.Proofs.YtccnkebkgegohaaGreatDoor
open Go.RowKit Go.Rel
set_option maxRecDepth 100000
/-! Turn, of the reference -/
def turnVal : Option (Nat × Nat) → Value
 | none => .tuple #[.int .i64 0, .int .i64 0, .bool false]
 | some (i, j) => .tuple #[.int .i64 (i : Int), .int .i64 (j : Int), .bool true]
theorem turn_cut {l : List Sol} {m : List Ac} {i : Nat} {x : Ac} (hx : m[i]? = some x) (h : x.1 = 1) : turnRf l (m.drop i) i = turnRf l (m.drop (i + 1)) (i + 1) := by
 obtain ⟨hi, rfl⟩ := List.getElem?_eq_some_iff.1 hx
 rw [List.drop_eq_getElem_cons hi, turnRf, if_pos h]
theorem turn_step {l : List Sol} {m : List Ac} {i : Nat} {x : Ac} (hx : m[i]? = some x) (h : ¬ x.1 = 1) : turnRf l (m.drop i) i = match scanR l x (m.drop (i + 1)) (i + 1) with | some k => some (i, k) | none => turnRf l (m.drop (i + 1)) (i + 1) := by
 obtain ⟨hi, rfl⟩ := List.getElem?_eq_some_iff.1 hx
 rw [List.drop_eq_getElem_cons hi, turnRf, if_neg h]
 cases scanR l m[i] (m.drop (i + 1)) (i + 1) <;> rfl
theorem scan_step {l : List Sol} {m : List Ac} {j : Nat} {x y : Ac} (hy : m[j]? = some y) : scanR l x (m.drop j) j = if apartB l x y = true then scanR l x (m.drop (j + 1)) (j + 1) else if oppR x y then some j else none := by
 obtain ⟨hj, rfl⟩ := List.getElem?_eq_some_iff.1 hy
 rw [List.drop_eq_getElem_cons hj, scanR]
 unfold apartB
 cases meetsB (acCells l x) (acCells l m[j]) <;> simp
set_option maxHeartbeats 16000000 in
theorem Turn122_main (b : Sol) (p : Option Addr) (n c ab ao k d : Nat) (l : List Sol) (m : List Ac) (w : World) (hk : m.length = k) (hkd : k ≤ d) (hd : d ≤ 9223372036854775807) (hcs : Cells w ab ao 10 (m.map acL)) (Hv : SlS w (.slice p n c) l) (F : ∀ z ∈ m, fits l.length z = true) :
  Calls Tryz.prog 122 #[.agg #[.int .u64 (pl b 0), .int .u64 (pl b 1), .int .u64 (pl b 2), .int .u64 (pl b 3), .int .u64 (pl b 4), .int .u64 (pl b 5), .int .u64 (pl b 6), .int .u64 (pl b 7), .slice p n c], .slice (some ⟨ab, ao, none⟩) k d] w fun e w' => e = .returned (turnVal (turnRf l m 0)) ∧ Below w.heap.size w w' := by
 have hab := hcs.1
 have HCS := Lib.hid hcs
 have HK := Lib.hid hk
 have HH := Lib.hid fun x (hx : x ∈ m) y (hy : y ∈ m) w' (hb : Below w.heap.size w w') => refApart_spec b (.slice p n c) l x y w' (Hv.mono hb) (F x hx) (F y hy)
 clear hcs hk Hv F
 obtain ⟨R, hR⟩ : ∃ R, R = turnRf l m 0 := ⟨_, rfl⟩
 rw [← hR]
 have HR : Hid (turnRf l (m.drop 0) 0 = R) := Lib.hid (by rw [List.drop_zero, hR])
 clear hR
 go_enter Tryz.func122, Tryz.ntmps122
 go_wp2_with fail
 go_loopw [7] (fun iv wr => ∃ i : Nat, i ≤ k ∧ iv = .int .i64 i ∧ Hid (turnRf l (m.drop i) i = R) ∧ Blk wr w.heap.size #[.int .u64 (pl b 0), .int .u64 (pl b 1), .int .u64 (pl b 2), .int .u64 (pl b 3), .int .u64 (pl b 4), .int .u64 (pl b 5), .int .u64 (pl b 6), .int .u64 (pl b 7), .slice p n c] 27 ∧ Below w.heap.size w wr) (fun iv _ => k - (intOf iv).toNat)
 case atStart => exact ⟨0, Nat.zero_le _, rfl, HR, blk_by, bel_by⟩
 case round =>
  clear HR
  obtain ⟨i, hi, rfl, HT, g0, hB⟩ := hrel
  by_cases hlt : i < k
  ·have hx : m[i]? = some (m[i]'(by rw [HK.out]; omega)) := by simp
   generalize m[i]'(by rw [HK.out]; omega) = x at hx
   have HX := Lib.hid hx
   clear hx
   obtain ⟨d0, d1, d2, d3, d4, d5, d6, d7, d8, d9⟩ := ac_cells (HCS.out.mono hB HCS.out.1) HX.out
   by_cases hc : x.1 = 1
   ·have hc' : ((x.1 : Nat) : Int) = 1 := by omega
    have HN : Hid (turnRf l (m.drop (i + 1)) (i + 1) = R) := Lib.hid (by rw [← turn_cut HX.out hc]; exact HT.out)
    clear HT d1 d2 d3 d4 d5 d6 d7 d8 d9 hc
    rw [hc'] at d0
    clear hc'
    go_wp2_with fail
    go_roundw
    case rel => exact ⟨i + 1, by omega, by go_num, HN, g0, hB⟩
    case measure => simp [intOf]; omega
   ·have hc' : ¬ ((x.1 : Nat) : Int) = 1 := by omega
    have HC := Lib.hid hc
    clear hc
    go_wp2_with fail
    clear d0 d1 d2 d3 d4 d5 d6 d7 d8 d9
    go_loopw [8] (fun jv wr => ∃ j : Nat, i < j ∧ j ≤ k ∧ jv = .int .i64 j ∧ Hid (scanR l x (m.drop j) j = scanR l x (m.drop (i + 1)) (i + 1)) ∧ Blk wr w.heap.size #[.int .u64 (pl b 0), .int .u64 (pl b 1), .int .u64 (pl b 2), .int .u64 (pl b 3), .int .u64 (pl b 4), .int .u64 (pl b 5), .int .u64 (pl b 6), .int .u64 (pl b 7), .slice p n c] 27 ∧ Below w.heap.size w wr) (fun jv _ => k - (intOf jv).toNat)
    case atStart => exact ⟨i + 1, by omega, by omega, by go_num, Lib.hid rfl, g0, hB⟩
    case round =>
     clear g0 hB
     obtain ⟨j, hij, hj, rfl, HSC, g0, hB⟩ := hrel
     by_cases hlj : j < k
     ·have hy : m[j]? = some (m[j]'(by rw [HK.out]; omega)) := by simp
      generalize m[j]'(by rw [HK.out]; omega) = y at hy
      have HY := Lib.hid hy
      clear hy
      obtain ⟨d0, d1, d2, d3, d4, d5, d6, d7, d8, d9⟩ := ac_cells (HCS.out.mono hB HCS.out.1) HX.out
      obtain ⟨b0, b1, b2, b3, b4, b5, b6, b7, b8, b9⟩ := ac_cells (HCS.out.mono hB HCS.out.1) HY.out
      have c0 := g0.cell
      have l0 := g0.lt
      have hszB := hB.size
      have labr : ab < wr.heap.size := by omega
      obtain ⟨r, hr⟩ : ∃ r, apartB l x y = r := ⟨_, rfl⟩
      have HI : Hid (∀ w', Below w.heap.size w w' → Calls Tryz.prog 102 #[.agg #[.int .u64 (pl b 0), .int .u64 (pl b 1), .int .u64 (pl b 2), .int .u64 (pl b 3), .int .u64 (pl b 4), .int .u64 (pl b 5), .int .u64 (pl b 6), .int .u64 (pl b 7), .slice p n c], .agg #[.int .u8 x.1, .int .i64 x.2.1, .int .u64 (pl x.2.2 0), .int .u64 (pl x.2.2 1), .int .u64 (pl x.2.2 2), .int .u64 (pl x.2.2 3), .int .u64 (pl x.2.2 4), .int .u64 (pl x.2.2 5), .int .u64 (pl x.2.2 6), .int .u64 (pl x.2.2 7)], .agg #[.int .u8 y.1, .int .i64 y.2.1, .int .u64 (pl y.2.2 0), .int .u64 (pl y.2.2 1), .int .u64 (pl y.2.2 2), .int .u64 (pl y.2.2 3), .int .u64 (pl y.2.2 4), .int .u64 (pl y.2.2 5), .int .u64 (pl y.2.2 6), .int .u64 (pl y.2.2 7)]] w' fun e w'' => e = .returned (.bool r) ∧ Below w'.heap.size w' w'') := by
       subst hr; exact Lib.hid fun w' hb => HH.out x (List.mem_of_getElem? HX.out) y (List.mem_of_getElem? HY.out) w' hb
      have HST := Lib.hid (scan_step (l := l) (x := x) HY.out)
      have HRr := Lib.hid hr
      clear hr
      go_wp2_with fail
      refine wp_region_inv Grows (fun _ _ => True) [Is (.agg #[.int .u64 (pl b 0), .int .u64 (pl b 1), .int .u64 (pl b 2), .int .u64 (pl b 3), .int .u64 (pl b 4), .int .u64 (pl b 5), .int .u64 (pl b 6), .int .u64 (pl b 7), .slice p n c]), Is (.slice (some ⟨ab, ao, none⟩) k d), Is (.int .i64 (i : Int)), Is (.pointer (some ⟨ab, ao + i * 10, none⟩)), Is (.agg #[.int .u8 x.1, .int .i64 x.2.1, .int .u64 (pl x.2.2 0), .int .u64 (pl x.2.2 1), .int .u64 (pl x.2.2 2), .int .u64 (pl x.2.2 3), .int .u64 (pl x.2.2 4), .int .u64 (pl x.2.2 5), .int .u64 (pl x.2.2 6), .int .u64 (pl x.2.2 7)]), Is (.slice (some ⟨ab, ao, none⟩) k d), Is (.int .i64 (j : Int)), Is (.pointer (some ⟨ab, ao + j * 10, none⟩)), Is (.agg #[.int .u8 y.1, .int .i64 y.2.1, .int .u64 (pl y.2.2 0), .int .u64 (pl y.2.2 1), .int .u64 (pl y.2.2 2), .int .u64 (pl y.2.2 3), .int .u64 (pl y.2.2 4), .int .u64 (pl y.2.2 5), .int .u64 (pl y.2.2 6), .int .u64 (pl y.2.2 7)]), Is (.bool r)] (by kernel_rfl) (by kernel_rfl) rfl Grows.refl (fun _ _ _ => Grows.trans) (stable_mem ⟨fun _ _ _ h _ => h, fun _ _ _ h _ => h, fun _ _ _ h _ => h, fun _ _ _ h _ => h, fun _ _ _ h _ => h, fun _ _ _ h _ => h, fun _ _ _ h _ => h, fun _ _ _ h _ => h, fun _ _ _ h _ => h, fun _ _ _ h _ => h, trivial⟩) _ (Below.drew (Below.refl _ _)) trivial ?_
      iterate 9 (refine inv_cons ?_ (fun _ => ?_); · intro L w1 hat hb hI hF; have hc := (Grows.cells hb).1; (try simp [factsI, Region.binds, Is] at hF); go_simp; (try first | exact Grows.refl _ | exact trivial | rfl))
      refine inv_cons ?_ (fun v9 => ?_)
      ·intro L w1 hat hb hI hF; have hc := (Grows.cells hb).1; try simp [factsI, Region.binds, Is] at hF
       go_simp
       refine (HI.out _ (bel_trans hB hb)).mono ?_
       rintro e w2 ⟨rfl, hb2⟩
       exact ⟨rfl, hb2⟩
      refine inv_nil ?_
      intro w1 hb hI hF
      simp [Is, Nat.forall_lt_succ_right] at hF
      simp only [Act.put, List.setIfInBounds_toArray, List.set_cons_succ, List.set_cons_zero, hF]
      clear hF
      have hB2 := bel_trans hB hb
      have g0' := g0.grow hb
      have hz2 := hb.size
      clear g0 hB d0 d1 d2 d3 d4 d5 d6 d7 d8 d9 b0 b1 b2 b3 b4 b5 b6 b7 b8 b9 c0 l0 hb HI
      cases r with
      | true =>
       have HN : Hid (scanR l x (m.drop (j + 1)) (j + 1) = scanR l x (m.drop (i + 1)) (i + 1)) := Lib.hid (by
        have h1 := HST.out
        rw [HRr.out, if_pos rfl] at h1
        rw [← h1]; exact HSC.out)
       go_wp2_with fail
       go_roundw
       case rel => exact ⟨j + 1, by omega, by omega, by go_num, HN, g0', hB2⟩
       case measure => simp [intOf]; omega
      | false =>
       have HO : Hid (scanR l x (m.drop (i + 1)) (i + 1) = if oppR x y then some j else none) := Lib.hid (by
        have h1 := HST.out
        rw [HRr.out, if_neg (by decide)] at h1
        rw [← h1]; exact HSC.out.symm)
       have HTS := Lib.hid (turn_step (l := l) HX.out HC.out)
       obtain ⟨d0, d1, d2, d3, d4, d5, d6, d7, d8, d9⟩ := ac_cells (HCS.out.mono hB2 HCS.out.1) HX.out
       obtain ⟨b0, b1, b2, b3, b4, b5, b6, b7, b8, b9⟩ := ac_cells (HCS.out.mono hB2 HCS.out.1) HY.out
       clear d2 d3 d4 d5 d6 d7 d8 d9 b2 b3 b4 b5 b6 b7 b8 b9
       have labr2 : ab < w1.heap.size := by omega
       by_cases hy1 : y.1 = 1
       ·have hq : ((y.1 : Nat) : Int) = 1 := by omega
        have HOP : Hid (oppR x y = false) := Lib.hid (by unfold oppR; simp [hy1])
        clear hy1
        go_wp2_with fail
        refine wp_region_inv Grows (fun _ _ => True) [Is (.slice (some ⟨ab, ao, none⟩) k d), Is (.int .i64 (j : Int)), Is (.pointer (some ⟨ab, ao + j * 10, none⟩)), Is (.pointer (some ⟨ab, ao + j * 10, none⟩)), Is (.int .u8 (y.1 : Int)), Is (.bool false), Is (.bool false), AnyV, AnyV, AnyV, AnyV, AnyV, AnyV, AnyV, AnyV, AnyV, AnyV, AnyV, Is (.bool false), Is (.bool false), AnyV, AnyV, AnyV, AnyV, AnyV, AnyV, AnyV, AnyV, AnyV, AnyV, AnyV, Is (.bool false)] (by kernel_rfl) (by kernel_rfl) rfl Grows.refl (fun _ _ _ => Grows.trans) (stable_mem ⟨fun _ _ _ h _ => h, fun _ _ _ h _ => h, fun _ _ _ h _ => h, fun _ _ _ h _ => h, fun _ _ _ h _ => h, fun _ _ _ h _ => h, fun _ _ _ h _ => h, fun _ _ _ h _ => h, fun _ _ _ h _ => h, fun _ _ _ h _ => h, fun _ _ _ h _ => h, fun _ _ _ h _ => h, fun _ _ _ h _ => h, fun _ _ _ h _ => h, fun _ _ _ h _ => h, fun _ _ _ h _ => h, fun _ _ _ h _ => h, fun _ _ _ h _ => h, fun _ _ _ h _ => h, fun _ _ _ h _ => h, fun _ _ _ h _ => h, fun _ _ _ h _ => h, fun _ _ _ h _ => h, fun _ _ _ h _ => h, fun _ _ _ h _ => h, fun _ _ _ h _ => h, fun _ _ _ h _ => h, fun _ _ _ h _ => h, fun _ _ _ h _ => h, fun _ _ _ h _ => h, fun _ _ _ h _ => h, fun _ _ _ h _ => h, trivial⟩) _ (Below.drew (Below.refl _ _)) trivial ?_
        iterate 32 (refine inv_cons ?_ (fun _ => ?_); · intro L w1 hat hb hI hF; have hc := (Grows.cells hb).1; (try simp [factsI, Region.binds, Is] at hF); go_simp; (try first | exact Grows.refl _ | exact trivial | rfl))
        refine inv_nil ?_
        intro w1 hb hI hF
        simp [Is, Nat.forall_lt_succ_right] at hF
        have e0 := hF.1.1.1.1.1.1.1.1.1.1.1.1.1.1.1.1.1.1.1.1.1.1.1.1.1.1.1.1.1.1.1
        have e1 := hF.1.1.1.1.1.1.1.1.1.1.1.1.1.1.1.1.1.1.1.1.1.1.1.1.1.1.1.1.1.1.2
        have e2 := hF.1.1.1.1.1.1.1.1.1.1.1.1.1.1.1.1.1.1.1.1.1.1.1.1.1.1.1.1.1.2
        have e3 := hF.1.1.1.1.1.1.1.1.1.1.1.1.1.1.1.1.1.1.1.1.1.1.1.1.1.1.1.1.2
        have e4 := hF.1.1.1.1.1.1.1.1.1.1.1.1.1.1.1.1.1.1.1.1.1.1.1.1.1.1.1.2
        have e5 := hF.1.1.1.1.1.1.1.1.1.1.1.1.1.1.1.1.1.1.1.1.1.1.1.1.1.1.2
        have e6 := hF.1.1.1.1.1.1.1.1.1.1.1.1.1.1.1.1.1.1.1.1.1.1.1.1.1.2
        have e7 := hF.1.1.1.1.1.1.1.1.1.1.1.1.1.1.1.1.1.1.1.1.1.1.1.1.2
        have e8 := hF.1.1.1.1.1.1.1.1.1.1.1.1.1.1.1.1.1.1.1.1.1.1.1.2
        have e9 := hF.1.1.1.1.1.1.1.1.1.1.1.1.1.1.1.1.1.1.1.1.1.1.2
        have e10 := hF.1.1.1.1.1.1.1.1.1.1.1.1.1.1.1.1.1.1.1.1.1.2
        have e11 := hF.1.1.1.1.1.1.1.1.1.1.1.1.1.1.1.1.1.1.1.1.2
        have e12 := hF.1.1.1.1.1.1.1.1.1.1.1.1.1.1.1.1.1.1.1.2
        have e13 := hF.1.1.1.1.1.1.1.1.1.1.1.1.1.1.1.1.1.1.2
        have e14 := hF.1.1.1.1.1.1.1.1.1.1.1.1.1.1.1.1.1.2
        have e15 := hF.1.1.1.1.1.1.1.1.1.1.1.1.1.1.1.1.2
        have e16 := hF.1.1.1.1.1.1.1.1.1.1.1.1.1.1.1.2
        have e17 := hF.1.1.1.1.1.1.1.1.1.1.1.1.1.1.2
        have e18 := hF.1.1.1.1.1.1.1.1.1.1.1.1.1.2
        have e19 := hF.1.1.1.1.1.1.1.1.1.1.1.1.2
        have e20 := hF.1.1.1.1.1.1.1.1.1.1.1.2
        have e21 := hF.1.1.1.1.1.1.1.1.1.1.2
        have e22 := hF.1.1.1.1.1.1.1.1.1.2
        have e23 := hF.1.1.1.1.1.1.1.1.2
        have e24 := hF.1.1.1.1.1.1.1.2
        have e25 := hF.1.1.1.1.1.1.2
        have e26 := hF.1.1.1.1.1.2
        have e27 := hF.1.1.1.1.2
        have e28 := hF.1.1.1.2
        have e29 := hF.1.1.2
        have e30 := hF.1.2
        have e31 := hF.2
        clear hF
        simp only [Act.put, List.setIfInBounds_toArray, List.set_cons_succ, List.set_cons_zero, e0, e1, e2, e3, e4, e5, e6, e18, e19, e31]
        clear e0 e1 e2 e3 e4 e5 e6 e18 e19 e31
        have hB3 := bel_trans hB2 hb
        have g0'' := g0'.grow hb
        clear d0 d1 b0 b1 hb
        have HN : Hid (turnRf l (m.drop (i + 1)) (i + 1) = R) := Lib.hid (by
         have h1 := HTS.out
         rw [HO.out, HOP.out, if_neg (by decide)] at h1
         rw [← HT.out, h1])
        go_wp2_with fail
        go_roundw
        case rel => exact ⟨i + 1, by omega, by go_num, HN, g0'', hB3⟩
        case measure => simp [intOf]; omega
       ·have hq : ¬ ((y.1 : Nat) : Int) = 1 := by omega
        by_cases hyx : y.1 = x.1
        ·have hq3 : ((y.1 : Nat) : Int) = ((x.1 : Nat) : Int) := by omega
         have HOP : Hid (oppR x y = false) := Lib.hid (by unfold oppR; simp [hyx])
         clear hy1 hyx
         go_wp2_with fail
         refine wp_region_inv Grows (fun _ _ => True) [Is (.slice (some ⟨ab, ao, none⟩) k d), Is (.int .i64 (j : Int)), Is (.pointer (some ⟨ab, ao + j * 10, none⟩)), Is (.pointer (some ⟨ab, ao + j * 10, none⟩)), Is (.int .u8 (y.1 : Int)), Is (.bool true), Is (.bool true), Is (.slice (some ⟨ab, ao, none⟩) k d), Is (.int .i64 (j : Int)), Is (.pointer (some ⟨ab, ao + j * 10, none⟩)), Is (.pointer (some ⟨ab, ao + j * 10, none⟩)), Is (.int .u8 (y.1 : Int)), Is (.slice (some ⟨ab, ao, none⟩) k d), Is (.int .i64 (i : Int)), Is (.pointer (some ⟨ab, ao + i * 10, none⟩)), Is (.pointer (some ⟨ab, ao + i * 10, none⟩)), Is (.int .u8 (x.1 : Int)), Is (.bool false), Is (.bool false), Is (.bool false), AnyV, AnyV, AnyV, AnyV, AnyV, AnyV, AnyV, AnyV, AnyV, AnyV, AnyV, Is (.bool false)] (by kernel_rfl) (by kernel_rfl) rfl Grows.refl (fun _ _ _ => Grows.trans) (stable_mem ⟨fun _ _ _ h _ => h, fun _ _ _ h _ => h, fun _ _ _ h _ => h, fun _ _ _ h _ => h, fun _ _ _ h _ => h, fun _ _ _ h _ => h, fun _ _ _ h _ => h, fun _ _ _ h _ => h, fun _ _ _ h _ => h, fun _ _ _ h _ => h, fun _ _ _ h _ => h, fun _ _ _ h _ => h, fun _ _ _ h _ => h, fun _ _ _ h _ => h, fun _ _ _ h _ => h, fun _ _ _ h _ => h, fun _ _ _ h _ => h, fun _ _ _ h _ => h, fun _ _ _ h _ => h, fun _ _ _ h _ => h, fun _ _ _ h _ => h, fun _ _ _ h _ => h, fun _ _ _ h _ => h, fun _ _ _ h _ => h, fun _ _ _ h _ => h, fun _ _ _ h _ => h, fun _ _ _ h _ => h, fun _ _ _ h _ => h, fun _ _ _ h _ => h, fun _ _ _ h _ => h, fun _ _ _ h _ => h, fun _ _ _ h _ => h, trivial⟩) _ (Below.drew (Below.refl _ _)) trivial ?_
         iterate 32 (refine inv_cons ?_ (fun _ => ?_); · intro L w1 hat hb hI hF; have hc := (Grows.cells hb).1; (try simp [factsI, Region.binds, Is] at hF); go_simp; (try first | exact Grows.refl _ | exact trivial | rfl))
         refine inv_nil ?_
         intro w1 hb hI hF
         simp [Is, Nat.forall_lt_succ_right] at hF
         have e0 := hF.1.1.1.1.1.1.1.1.1.1.1.1.1.1.1.1.1.1.1.1.1.1.1.1.1.1.1.1.1.1.1
         have e1 := hF.1.1.1.1.1.1.1.1.1.1.1.1.1.1.1.1.1.1.1.1.1.1.1.1.1.1.1.1.1.1.2
         have e2 := hF.1.1.1.1.1.1.1.1.1.1.1.1.1.1.1.1.1.1.1.1.1.1.1.1.1.1.1.1.1.2
         have e3 := hF.1.1.1.1.1.1.1.1.1.1.1.1.1.1.1.1.1.1.1.1.1.1.1.1.1.1.1.1.2
         have e4 := hF.1.1.1.1.1.1.1.1.1.1.1.1.1.1.1.1.1.1.1.1.1.1.1.1.1.1.1.2
         have e5 := hF.1.1.1.1.1.1.1.1.1.1.1.1.1.1.1.1.1.1.1.1.1.1.1.1.1.1.2
         have e6 := hF.1.1.1.1.1.1.1.1.1.1.1.1.1.1.1.1.1.1.1.1.1.1.1.1.1.2
         have e7 := hF.1.1.1.1.1.1.1.1.1.1.1.1.1.1.1.1.1.1.1.1.1.1.1.1.2
         have e8 := hF.1.1.1.1.1.1.1.1.1.1.1.1.1.1.1.1.1.1.1.1.1.1.1.2
         have e9 := hF.1.1.1.1.1.1.1.1.1.1.1.1.1.1.1.1.1.1.1.1.1.1.2
         have e10 := hF.1.1.1.1.1.1.1.1.1.1.1.1.1.1.1.1.1.1.1.1.1.2
         have e11 := hF.1.1.1.1.1.1.1.1.1.1.1.1.1.1.1.1.1.1.1.1.2
         have e12 := hF.1.1.1.1.1.1.1.1.1.1.1.1.1.1.1.1.1.1.1.2
         have e13 := hF.1.1.1.1.1.1.1.1.1.1.1.1.1.1.1.1.1.1.2
         have e14 := hF.1.1.1.1.1.1.1.1.1.1.1.1.1.1.1.1.1.2
         have e15 := hF.1.1.1.1.1.1.1.1.1.1.1.1.1.1.1.1.2
         have e16 := hF.1.1.1.1.1.1.1.1.1.1.1.1.1.1.1.2
         have e17 := hF.1.1.1.1.1.1.1.1.1.1.1.1.1.1.2
         have e18 := hF.1.1.1.1.1.1.1.1.1.1.1.1.1.2
         have e19 := hF.1.1.1.1.1.1.1.1.1.1.1.1.2
         have e20 := hF.1.1.1.1.1.1.1.1.1.1.1.2
         have e21 := hF.1.1.1.1.1.1.1.1.1.1.2
         have e22 := hF.1.1.1.1.1.1.1.1.1.2
         have e23 := hF.1.1.1.1.1.1.1.1.2
         have e24 := hF.1.1.1.1.1.1.1.2
         have e25 := hF.1.1.1.1.1.1.2
         have e26 := hF.1.1.1.1.1.2
         have e27 := hF.1.1.1.1.2
         have e28 := hF.1.1.1.2
         have e29 := hF.1.1.2
         have e30 := hF.1.2
         have e31 := hF.2
         clear hF
         simp only [Act.put, List.setIfInBounds_toArray, List.set_cons_succ, List.set_cons_zero, e0, e1, e2, e3, e4, e5, e6, e7, e8, e9, e10, e11, e12, e13, e14, e15, e16, e17, e18, e19, e31]
         clear e0 e1 e2 e3 e4 e5 e6 e7 e8 e9 e10 e11 e12 e13 e14 e15 e16 e17 e18 e19 e31
         have hB3 := bel_trans hB2 hb
         have g0'' := g0'.grow hb
         clear d0 d1 b0 b1 hb
         have HN : Hid (turnRf l (m.drop (i + 1)) (i + 1) = R) := Lib.hid (by
          have h1 := HTS.out
          rw [HO.out, HOP.out, if_neg (by decide)] at h1
          rw [← HT.out, h1])
         go_wp2_with fail
         go_roundw
         case rel => exact ⟨i + 1, by omega, by go_num, HN, g0'', hB3⟩
         case measure => simp [intOf]; omega
        ·have hq3 : ¬ ((y.1 : Nat) : Int) = ((x.1 : Nat) : Int) := by omega
         by_cases h3 : y.2.1 = x.2.1
         ·have HOP : Hid (oppR x y = true) := Lib.hid (by unfold oppR; simp [hy1, hyx, h3])
          clear hy1 hyx
          go_wp2_with fail
          refine wp_region_inv Grows (fun _ _ => True) [Is (.slice (some ⟨ab, ao, none⟩) k d), Is (.int .i64 (j : Int)), Is (.pointer (some ⟨ab, ao + j * 10, none⟩)), Is (.pointer (some ⟨ab, ao + j * 10, none⟩)), Is (.int .u8 (y.1 : Int)), Is (.bool true), Is (.bool true), Is (.slice (some ⟨ab, ao, none⟩) k d), Is (.int .i64 (j : Int)), Is (.pointer (some ⟨ab, ao + j * 10, none⟩)), Is (.pointer (some ⟨ab, ao + j * 10, none⟩)), Is (.int .u8 (y.1 : Int)), Is (.slice (some ⟨ab, ao, none⟩) k d), Is (.int .i64 (i : Int)), Is (.pointer (some ⟨ab, ao + i * 10, none⟩)), Is (.pointer (some ⟨ab, ao + i * 10, none⟩)), Is (.int .u8 (x.1 : Int)), Is (.bool true), Is (.bool true), Is (.bool true), Is (.slice (some ⟨ab, ao, none⟩) k d), Is (.int .i64 (j : Int)), Is (.pointer (some ⟨ab, ao + j * 10, none⟩)), Is (.pointer (some ⟨ab, ao + j * 10 + 1, none⟩)), Is (.int .i64 y.2.1), Is (.slice (some ⟨ab, ao, none⟩) k d), Is (.int .i64 (i : Int)), Is (.pointer (some ⟨ab, ao + i * 10, none⟩)), Is (.pointer (some ⟨ab, ao + i * 10 + 1, none⟩)), Is (.int .i64 x.2.1), Is (.bool true), Is (.bool true)] (by kernel_rfl) (by kernel_rfl) rfl Grows.refl (fun _ _ _ => Grows.trans) (stable_mem ⟨fun _ _ _ h _ => h, fun _ _ _ h _ => h, fun _ _ _ h _ => h, fun _ _ _ h _ => h, fun _ _ _ h _ => h, fun _ _ _ h _ => h, fun _ _ _ h _ => h, fun _ _ _ h _ => h, fun _ _ _ h _ => h, fun _ _ _ h _ => h, fun _ _ _ h _ => h, fun _ _ _ h _ => h, fun _ _ _ h _ => h, fun _ _ _ h _ => h, fun _ _ _ h _ => h, fun _ _ _ h _ => h, fun _ _ _ h _ => h, fun _ _ _ h _ => h, fun _ _ _ h _ => h, fun _ _ _ h _ => h, fun _ _ _ h _ => h, fun _ _ _ h _ => h, fun _ _ _ h _ => h, fun _ _ _ h _ => h, fun _ _ _ h _ => h, fun _ _ _ h _ => h, fun _ _ _ h _ => h, fun _ _ _ h _ => h, fun _ _ _ h _ => h, fun _ _ _ h _ => h, fun _ _ _ h _ => h, fun _ _ _ h _ => h, trivial⟩) _ (Below.drew (Below.refl _ _)) trivial ?_
          iterate 32 (refine inv_cons ?_ (fun _ => ?_); · intro L w1 hat hb hI hF; have hc := (Grows.cells hb).1; (try simp [factsI, Region.binds, Is] at hF); go_simp; (try first | exact Grows.refl _ | exact trivial | rfl))
          refine inv_nil ?_
          intro w1 hb hI hF
          simp [Is, Nat.forall_lt_succ_right] at hF
          simp only [Act.put, List.setIfInBounds_toArray, List.set_cons_succ, List.set_cons_zero, hF]
          clear hF
          have hB3 := bel_trans hB2 hb
          have g0'' := g0'.grow hb
          clear d0 d1 b0 b1 hb
          have hRs : R = some (i, j) := by
           have h1 := HTS.out
           rw [HO.out, HOP.out, if_pos rfl] at h1
           rw [← HT.out, h1]
          subst hRs
          go_wp2_with fail
          refine bodyPost_ret (v := .tuple #[.int .i64 (i : Int), .int .i64 (j : Int), .bool true]) (by simp [results, Tryz.results122, go_sem]) rfl ⟨rfl, hB3⟩
         ·have HOP : Hid (oppR x y = false) := Lib.hid (by unfold oppR; simp [h3])
          clear hy1 hyx
          go_wp2_with fail
          refine wp_region_inv Grows (fun _ _ => True) [Is (.slice (some ⟨ab, ao, none⟩) k d), Is (.int .i64 (j : Int)), Is (.pointer (some ⟨ab, ao + j * 10, none⟩)), Is (.pointer (some ⟨ab, ao + j * 10, none⟩)), Is (.int .u8 (y.1 : Int)), Is (.bool true), Is (.bool true), Is (.slice (some ⟨ab, ao, none⟩) k d), Is (.int .i64 (j : Int)), Is (.pointer (some ⟨ab, ao + j * 10, none⟩)), Is (.pointer (some ⟨ab, ao + j * 10, none⟩)), Is (.int .u8 (y.1 : Int)), Is (.slice (some ⟨ab, ao, none⟩) k d), Is (.int .i64 (i : Int)), Is (.pointer (some ⟨ab, ao + i * 10, none⟩)), Is (.pointer (some ⟨ab, ao + i * 10, none⟩)), Is (.int .u8 (x.1 : Int)), Is (.bool true), Is (.bool true), Is (.bool true), Is (.slice (some ⟨ab, ao, none⟩) k d), Is (.int .i64 (j : Int)), Is (.pointer (some ⟨ab, ao + j * 10, none⟩)), Is (.pointer (some ⟨ab, ao + j * 10 + 1, none⟩)), Is (.int .i64 y.2.1), Is (.slice (some ⟨ab, ao, none⟩) k d), Is (.int .i64 (i : Int)), Is (.pointer (some ⟨ab, ao + i * 10, none⟩)), Is (.pointer (some ⟨ab, ao + i * 10 + 1, none⟩)), Is (.int .i64 x.2.1), Is (.bool false), Is (.bool false)] (by kernel_rfl) (by kernel_rfl) rfl Grows.refl (fun _ _ _ => Grows.trans) (stable_mem ⟨fun _ _ _ h _ => h, fun _ _ _ h _ => h, fun _ _ _ h _ => h, fun _ _ _ h _ => h, fun _ _ _ h _ => h, fun _ _ _ h _ => h, fun _ _ _ h _ => h, fun _ _ _ h _ => h, fun _ _ _ h _ => h, fun _ _ _ h _ => h, fun _ _ _ h _ => h, fun _ _ _ h _ => h, fun _ _ _ h _ => h, fun _ _ _ h _ => h, fun _ _ _ h _ => h, fun _ _ _ h _ => h, fun _ _ _ h _ => h, fun _ _ _ h _ => h, fun _ _ _ h _ => h, fun _ _ _ h _ => h, fun _ _ _ h _ => h, fun _ _ _ h _ => h, fun _ _ _ h _ => h, fun _ _ _ h _ => h, fun _ _ _ h _ => h, fun _ _ _ h _ => h, fun _ _ _ h _ => h, fun _ _ _ h _ => h, fun _ _ _ h _ => h, fun _ _ _ h _ => h, fun _ _ _ h _ => h, fun _ _ _ h _ => h, trivial⟩) _ (Below.drew (Below.refl _ _)) trivial ?_
          iterate 32 (refine inv_cons ?_ (fun _ => ?_); · intro L w1 hat hb hI hF; have hc := (Grows.cells hb).1; (try simp [factsI, Region.binds, Is] at hF); go_simp; (try first | exact Grows.refl _ | exact trivial | rfl))
          refine inv_nil ?_
          intro w1 hb hI hF
          simp [Is, Nat.forall_lt_succ_right] at hF
          simp only [Act.put, List.setIfInBounds_toArray, List.set_cons_succ, List.set_cons_zero, hF]
          clear hF
          have hB3 := bel_trans hB2 hb
          have g0'' := g0'.grow hb
          clear d0 d1 b0 b1 hb
          have HN : Hid (turnRf l (m.drop (i + 1)) (i + 1) = R) := Lib.hid (by
           have h1 := HTS.out
           rw [HO.out, HOP.out, if_neg (by decide)] at h1
           rw [← HT.out, h1])
          go_wp2_with fail
          go_roundw
          case rel => exact ⟨i + 1, by omega, by go_num, HN, g0'', hB3⟩
          case measure => simp [intOf]; omega
     ·have hjk : j = k := by omega
      subst hjk
      have HN : Hid (turnRf l (m.drop (i + 1)) (i + 1) = R) := Lib.hid (by
       have h1 := turn_step (l := l) HX.out HC.out
       have h2 := HSC.out
       rw [List.drop_of_length_le (by rw [HK.out]; exact Nat.le_refl _)] at h2
       rw [← h2] at h1
       rw [HT.out] at h1
       exact h1.symm)
      go_wp2_with fail
      go_roundw
      case rel => exact ⟨i + 1, by omega, by go_num, HN, g0, hB⟩
      case measure => simp [intOf]; omega
  ·have hik : i = k := by omega
   subst hik
   have hRn : R = none := by
    rw [← HT.out, List.drop_of_length_le (by rw [HK.out]; exact Nat.le_refl _)]; rfl
   subst hRn
   go_wp2_with fail
   refine bodyPost_ret (v := .tuple #[.int .i64 0, .int .i64 0, .bool false]) (by simp [results, Tryz.results122, go_sem]) rfl ⟨rfl, hB⟩
end Go.Proofs.YtccnkebkgegohaaGreatDoor
end
section
namespace Go.Proofs.YtccnkebkgegohaaGreatDoor
open Go.RowKit Go.Rel
set_option maxRecDepth 100000
set_option maxHeartbeats 4000000 in
theorem Turn122_nil (b : Sol) (p q : Option Addr) (n c d : Nat) (w : World) :
  Calls Tryz.prog 122 #[.agg #[.int .u64 (pl b 0), .int .u64 (pl b 1), .int .u64 (pl b 2), .int .u64 (pl b 3), .int .u64 (pl b 4), .int .u64 (pl b 5), .int .u64 (pl b 6), .int .u64 (pl b 7), .slice p n c], .slice q 0 d] w fun e w' => e = .returned (turnVal none) ∧ Below w.heap.size w w' := by
 go_enter Tryz.func122, Tryz.ntmps122
 go_wp2_with fail
 refine wp_loop_rounds 1 ?_
 rw [rounds_succ]
 go_wp2_with fail
 refine bodyPost_ret (v := .tuple #[.int .i64 0, .int .i64 0, .bool false]) (by simp [results, Tryz.results122, go_sem]) rfl ⟨rfl, bel_by⟩
theorem Turn122_spec (b : Sol) (p q : Option Addr) (n c k d : Nat) (l : List Sol) (m : List Ac) (w : World) (Hv : SlS w (.slice p n c) l) (Hav : SlA w (.slice q k d) m) (F : ∀ z ∈ m, fits l.length z = true) :
  Calls Tryz.prog 122 #[.agg #[.int .u64 (pl b 0), .int .u64 (pl b 1), .int .u64 (pl b 2), .int .u64 (pl b 3), .int .u64 (pl b 4), .int .u64 (pl b 5), .int .u64 (pl b 6), .int .u64 (pl b 7), .slice p n c], .slice q k d] w fun e w' => e = .returned (turnVal (turnRf l m 0)) ∧ Below w.heap.size w w' := by
 have hA := Hav
 obtain ⟨q', d', he, hkd, hd, _⟩ := hA
 injection he with h1 h2 h3
 have hk : m.length = k := by rw [h2, List.length_map]
 by_cases h0 : 0 < k
 ·have hx : m[0]? = some (m[0]'(by omega)) := by simp
  obtain ⟨ab, ao, rfl, hcs⟩ := acs_at Hav hx
  exact Turn122_main b p n c ab ao k d l m w hk (by rw [h2, h3]; exact hkd) (by rw [h3]; exact hd) hcs Hv F
 ·have hm : m = [] := List.eq_nil_of_length_eq_zero (by omega)
  have hk0 : k = 0 := by omega
  subst hm hk0
  exact Turn122_nil b p q n c d w
end Go.Proofs.YtccnkebkgegohaaGreatDoor
end
section
namespace Go.Proofs.YtccnkebkgegohaaGreatDoor
open Go.RowKit Go.Rel
set_option maxRecDepth 100000
/-- a list of acts is kept by an append onto another list of one's own -/
theorem sln_keep {W W' : World} {o : Value} {q : Option Addr} {k d : Nat} {m : List Ac} (h : SlN W (.slice q k d) m) (hs : ∀ a, q = some a → o.ownBlock ≠ some a.block) (hg : W.grownBy W' o.ownBlock) : SlN W' (.slice q k d) m := by
 obtain ⟨⟨a, c, hv, hc, hcm, hcells⟩, hN⟩ := h
 refine ⟨⟨a, c, hv, hc, hcm, ?_⟩, hN⟩
 rcases hcells with h | ⟨b, off, ha, hcs⟩
 ·exact .inl h
 ·subst ha
  have hq : q = some ⟨b, off, none⟩ := by injection hv
  refine .inr ⟨b, off, rfl, Nat.lt_of_lt_of_le hcs.1 hg.size, fun i j z hz => ?_⟩
  have := hg.block b hcs.1 (fun e => hs _ hq e.symm)
  rw [← hcs.2 i j z hz]
  simp only [World.cell?]
  rw [this]
end Go.Proofs.YtccnkebkgegohaaGreatDoor
end
