import Derived.Test.YtccnkebkgegohaaGreatDoorHTrk
/-
  Given contracts of functions of the program, and laws for them, one behind the other.
-/
set_option linter.unusedVariables false
set_option linter.unusedSimpArgs false
set_option linter.unusedSectionVars false
section
namespace Go.Proofs.YtccnkebkgegohaaGreatDoor
open Go.RowKit Go.Rel
set_option maxRecDepth 100000
/-! the reference's free -/
theorem freeL_apart {l : List Sol} {m : List Ac} {i : Nat} {x : Ac} (hx : m[i]? = some x) : freeL l m i = (m.take i).all fun z => apartB l z x := by
 unfold freeL apartB
 have : atN m i = x := by unfold atN; rw [List.getD_eq_getElem?_getD, hx]; rfl
 rw [this]
set_option maxHeartbeats 4000000 in
theorem free112_main (b : Sol) (p : Option Addr) (n c ab ao k d : Nat) (l : List Sol) (m : List Ac) (i : Nat) (x : Ac) (hx : m[i]? = some x) (F : ∀ z ∈ m, fits l.length z = true) (w : World) (Hv : SlS w (.slice p n c) l) (hcs : Cells w ab ao 10 (m.map acL)) (hk : m.length = k) (hkd : k ≤ d) (hd : d ≤ 9223372036854775807) :
  Calls Tryz.prog 112 #[.agg #[.int .u64 (pl b 0), .int .u64 (pl b 1), .int .u64 (pl b 2), .int .u64 (pl b 3), .int .u64 (pl b 4), .int .u64 (pl b 5), .int .u64 (pl b 6), .int .u64 (pl b 7), .slice p n c], .slice (some ⟨ab, ao, none⟩) k d, .int .i64 (i : Int)] w fun e w' => e = .returned (.bool (freeL l m i)) ∧ Below w.heap.size w w' := by
 rw [freeL_apart hx]
 have hi : i < k := by rw [← hk]; exact (List.getElem?_eq_some_iff.1 hx).1
 have HX := Lib.hid hx
 have hab := hcs.1
 have HCS := Lib.hid hcs
 have HK := Lib.hid hk
 have HH := Lib.hid fun y (hy : y ∈ m) w' (hb : Below w.heap.size w w') => refApart_spec b (.slice p n c) l y x w' (Hv.mono hb) (F y hy) (F x (List.mem_of_getElem? hx))
 clear hcs hk Hv hx F
 generalize hR : ((m.take i).all fun z => apartB l z x) = R
 have HR := Lib.hid hR
 clear hR
 go_enter Tryz.func112, Tryz.ntmps112
 go_wp2_with fail
 have hbe : Below w.heap.size w (w.alloc (.cells (#[.int .u64 (pl b 0), .int .u64 (pl b 1), .int .u64 (pl b 2), .int .u64 (pl b 3), .int .u64 (pl b 4), .int .u64 (pl b 5), .int .u64 (pl b 6), .int .u64 (pl b 7), .slice p n c] : Array Value) 27)) := bel_alloc (bel_refl _) _
 have g0 : Blk (w.alloc (.cells (#[.int .u64 (pl b 0), .int .u64 (pl b 1), .int .u64 (pl b 2), .int .u64 (pl b 3), .int .u64 (pl b 4), .int .u64 (pl b 5), .int .u64 (pl b 6), .int .u64 (pl b 7), .slice p n c] : Array Value) 27)) w.heap.size #[.int .u64 (pl b 0), .int .u64 (pl b 1), .int .u64 (pl b 2), .int .u64 (pl b 3), .int .u64 (pl b 4), .int .u64 (pl b 5), .int .u64 (pl b 6), .int .u64 (pl b 7), .slice p n c] 27 := Blk.new _ _ _
 generalize (w.alloc (.cells (#[.int .u64 (pl b 0), .int .u64 (pl b 1), .int .u64 (pl b 2), .int .u64 (pl b 3), .int .u64 (pl b 4), .int .u64 (pl b 5), .int .u64 (pl b 6), .int .u64 (pl b 7), .slice p n c] : Array Value) 27)) = w0 at *
 go_loopw [7] (fun kv wr => ∃ j : Nat, j ≤ i ∧ kv = .int .i64 j ∧ Hid (((m.take j).all fun z => apartB l z x) = true) ∧ Blk wr w.heap.size #[.int .u64 (pl b 0), .int .u64 (pl b 1), .int .u64 (pl b 2), .int .u64 (pl b 3), .int .u64 (pl b 4), .int .u64 (pl b 5), .int .u64 (pl b 6), .int .u64 (pl b 7), .slice p n c] 27 ∧ Below w.heap.size w wr) (fun kv _ => i - (intOf kv).toNat)
 case atStart => exact ⟨0, Nat.zero_le _, rfl, by show _ = _; simp, g0, hbe⟩
 case round =>
  clear g0 hbe
  obtain ⟨j, hj, rfl, HP, g0, hB⟩ := hrel
  by_cases hlt : j < i
  ·have hy : m[j]? = some (m[j]'(by rw [HK.out]; omega)) := by simp
   generalize m[j]'(by rw [HK.out]; omega) = y at hy
   obtain ⟨b0, b1, b2, b3, b4, b5, b6, b7, b8, b9⟩ := ac_cells (HCS.out.mono hB HCS.out.1) hy
   obtain ⟨d0, d1, d2, d3, d4, d5, d6, d7, d8, d9⟩ := ac_cells (HCS.out.mono hB HCS.out.1) HX.out
   have HY := Lib.hid hy
   clear hy
   have c0 := g0.cell
   have l0 := g0.lt
   have hszB := hB.size
   have labr : ab < wr.heap.size := by omega
   obtain ⟨r, hr⟩ : ∃ r, apartB l y x = r := ⟨_, rfl⟩
   have HI : Hid (∀ w', Below w.heap.size w w' → Calls Tryz.prog 102 #[.agg #[.int .u64 (pl b 0), .int .u64 (pl b 1), .int .u64 (pl b 2), .int .u64 (pl b 3), .int .u64 (pl b 4), .int .u64 (pl b 5), .int .u64 (pl b 6), .int .u64 (pl b 7), .slice p n c], .agg #[.int .u8 y.1, .int .i64 y.2.1, .int .u64 (pl y.2.2 0), .int .u64 (pl y.2.2 1), .int .u64 (pl y.2.2 2), .int .u64 (pl y.2.2 3), .int .u64 (pl y.2.2 4), .int .u64 (pl y.2.2 5), .int .u64 (pl y.2.2 6), .int .u64 (pl y.2.2 7)], .agg #[.int .u8 x.1, .int .i64 x.2.1, .int .u64 (pl x.2.2 0), .int .u64 (pl x.2.2 1), .int .u64 (pl x.2.2 2), .int .u64 (pl x.2.2 3), .int .u64 (pl x.2.2 4), .int .u64 (pl x.2.2 5), .int .u64 (pl x.2.2 6), .int .u64 (pl x.2.2 7)]] w' fun e w'' => e = .returned (.bool r) ∧ Below w'.heap.size w' w'') := by
    subst hr; exact Lib.hid fun w' hb => HH.out y (List.mem_of_getElem? HY.out) w' hb
   have HRr := Lib.hid hr
   clear hr
   have hjk : j < k := by omega
   go_wp2_with fail
   refine wp_region_inv Grows (fun _ _ => True) [Is (.agg #[.int .u64 (pl b 0), .int .u64 (pl b 1), .int .u64 (pl b 2), .int .u64 (pl b 3), .int .u64 (pl b 4), .int .u64 (pl b 5), .int .u64 (pl b 6), .int .u64 (pl b 7), .slice p n c]), Is (.slice (some ⟨ab, ao, none⟩) k d), Is (.int .i64 (j : Int)), Is (.pointer (some ⟨ab, ao + j * 10, none⟩)), Is (.agg #[.int .u8 y.1, .int .i64 y.2.1, .int .u64 (pl y.2.2 0), .int .u64 (pl y.2.2 1), .int .u64 (pl y.2.2 2), .int .u64 (pl y.2.2 3), .int .u64 (pl y.2.2 4), .int .u64 (pl y.2.2 5), .int .u64 (pl y.2.2 6), .int .u64 (pl y.2.2 7)]), Is (.slice (some ⟨ab, ao, none⟩) k d), Is (.int .i64 (i : Int)), Is (.pointer (some ⟨ab, ao + i * 10, none⟩)), Is (.agg #[.int .u8 x.1, .int .i64 x.2.1, .int .u64 (pl x.2.2 0), .int .u64 (pl x.2.2 1), .int .u64 (pl x.2.2 2), .int .u64 (pl x.2.2 3), .int .u64 (pl x.2.2 4), .int .u64 (pl x.2.2 5), .int .u64 (pl x.2.2 6), .int .u64 (pl x.2.2 7)]), Is (.bool r), Is (.bool (!r))] (by kernel_rfl) (by kernel_rfl) rfl Grows.refl (fun _ _ _ => Grows.trans) (stable_mem ⟨fun _ _ _ h _ => h, fun _ _ _ h _ => h, fun _ _ _ h _ => h, fun _ _ _ h _ => h, fun _ _ _ h _ => h, fun _ _ _ h _ => h, fun _ _ _ h _ => h, fun _ _ _ h _ => h, fun _ _ _ h _ => h, fun _ _ _ h _ => h, fun _ _ _ h _ => h, trivial⟩) _ (Below.drew (Below.refl _ _)) trivial ?_
   iterate 9 (refine inv_cons ?_ (fun _ => ?_); · intro L w1 hat hb hI hF; have hc := (Grows.cells hb).1; (try simp [factsI, Region.binds, Is] at hF); go_simp; (try first | exact Grows.refl _ | exact trivial | rfl))
   refine inv_cons ?_ (fun v9 => ?_)
   ·intro L w1 hat hb hI hF; have hc := (Grows.cells hb).1; try simp [factsI, Region.binds, Is] at hF
    go_simp
    refine (HI.out _ (bel_trans hB hb)).mono ?_
    rintro e w2 ⟨rfl, hb2⟩
    exact ⟨rfl, hb2⟩
   refine inv_cons ?_ (fun v10 => ?_)
   ·intro L w1 hat hb hI hF; have hc := (Grows.cells hb).1; try simp [factsI, Region.binds, Is] at hF
    go_simp
    try first | exact Grows.refl _ | exact trivial | rfl
   refine inv_nil ?_
   intro w1 hb hI hF
   simp [Is, Nat.forall_lt_succ_right] at hF
   simp only [Act.put, List.setIfInBounds_toArray, List.set_cons_succ, List.set_cons_zero, hF]
   clear hF
   have hB2 := bel_trans hB hb
   have g0' := g0.grow hb
   clear g0 hB b0 b1 b2 b3 b4 b5 b6 b7 b8 b9 d0 d1 d2 d3 d4 d5 d6 d7 d8 d9 c0 l0 hb
   have hs : ((m.take (j + 1)).all fun z => apartB l z x) = r := by
    rw [List.take_add_one, HY.out, List.all_append, HP.out]; simp [HRr.out]
   cases r with
   | true =>
    go_wp2_with fail
    go_roundw
    case rel => exact ⟨j + 1, by omega, by go_num, hs, g0', hB2⟩
    case measure => simp [intOf]; omega
   | false =>
    have hRf : R = false := by
     rw [← HR.out, Bool.eq_false_iff]
     intro ht
     rw [Bool.eq_false_iff] at hs
     refine hs (List.all_eq_true.2 fun z hz => List.all_eq_true.1 ht z ?_)
     exact (List.take_sublist_take_left (show j + 1 ≤ i by omega)).subset hz
    subst hRf
    go_wp2_with fail
    refine bodyPost_ret (v := .bool false) (by simp [results, Tryz.results112, go_sem]) rfl ⟨rfl, hB2⟩
  ·have hji : j = i := by omega
   subst hji
   have hRt : R = true := HR.out.symm.trans HP.out
   subst hRt
   go_wp2_with fail
   refine bodyPost_ret (v := .bool true) (by simp [results, Tryz.results112, go_sem]) rfl ⟨rfl, hB⟩
end Go.Proofs.YtccnkebkgegohaaGreatDoor
end
section
namespace Go.Proofs.YtccnkebkgegohaaGreatDoor
open Go.RowKit Go.Rel
set_option maxRecDepth 100000
/-! First -/
/-- the numbers below k of a kind -/
def FI (P : Nat → Bool) (k : Nat) : List Int := ((List.range k).filter P).map fun (t : Nat) => (t : Int)
theorem FI_yes {P : Nat → Bool} {k : Nat} (h : P k = true) : FI P (k + 1) = FI P k ++ [(k : Int)] := by unfold FI; rw [List.range_succ, List.filter_append]; simp [h]
theorem FI_no {P : Nat → Bool} {k : Nat} (h : P k = false) : FI P (k + 1) = FI P k := by unfold FI; rw [List.range_succ, List.filter_append]; simp [h]
theorem FI_len (P : Nat → Bool) (k : Nat) : (FI P k).length ≤ k := by unfold FI; rw [List.length_map]; exact Nat.le_trans (List.length_filter_le _ _) (by rw [List.length_range]; exact Nat.le_refl _)
end Go.Proofs.YtccnkebkgegohaaGreatDoor
end
section
namespace Go.Proofs.YtccnkebkgegohaaGreatDoor
open Go.RowKit Go.Rel
set_option maxRecDepth 100000
/-! Last, of the reference -/
/-- whether the acts below k that stand behind an act are independent of it -/
def lastU (l : List Sol) (m : List Ac) (i k : Nat) : Bool := (List.range k).all fun t => decide (t ≤ i) || apartB l (atN m i) (atN m t)
theorem lastU_start (l : List Sol) (m : List Ac) (i : Nat) : lastU l m i (i + 1) = true := by
 unfold lastU
 rw [List.all_eq_true]
 intro t ht
 have := List.mem_range.1 ht
 simp; left; omega
theorem lastU_succ {l : List Sol} {m : List Ac} {i k : Nat} {x y : Ac} (hk : i < k) (hx : m[i]? = some x) (hy : m[k]? = some y) : lastU l m i (k + 1) = (lastU l m i k && apartB l x y) := by
 unfold lastU
 have h1 : atN m i = x := by unfold atN; rw [List.getD_eq_getElem?_getD, hx]; rfl
 have h2 : atN m k = y := by unfold atN; rw [List.getD_eq_getElem?_getD, hy]; rfl
 rw [List.range_succ, List.all_append, h1]
 have h3 : decide (k ≤ i) = false := by simp; omega
 simp [h2, h3]
set_option maxHeartbeats 2000000 in
theorem refLast_no (b : Sol) (p q : Option Addr) (n c k d : Nat) (x y : Int) (hne : (y != 0) = true) (w : World) (H : Hid (∀ w', Below w.heap.size w w' → Calls Tryz.prog 38 #[.agg #[.int .u64 (pl b 0), .int .u64 (pl b 1), .int .u64 (pl b 2), .int .u64 (pl b 3), .int .u64 (pl b 4), .int .u64 (pl b 5), .int .u64 (pl b 6), .int .u64 (pl b 7), .slice p n c, .slice q k d]] w' fun e w'' => e = .returned (.tuple #[.int .i64 x, .int .i64 y]) ∧ Below w'.heap.size w' w'')) :
  Calls Tryz.prog 48 #[.agg #[.int .u64 (pl b 0), .int .u64 (pl b 1), .int .u64 (pl b 2), .int .u64 (pl b 3), .int .u64 (pl b 4), .int .u64 (pl b 5), .int .u64 (pl b 6), .int .u64 (pl b 7), .slice p n c, .slice q k d]] w fun e w' => e = .returned (.tuple #[.slice none 0 0, .int .i64 y]) ∧ Below w.heap.size w w' := by
 go_enter Tryz.func48, Tryz.ntmps48
 go_wp2_with fail
 refine (H.out _ bel_by).mono ?_
 rintro e w1 ⟨rfl, hb⟩
 have hB1 : Below w.heap.size w w1 := bel_trans bel_by hb
 clear hb
 go_wp2_with fail
 refine bodyPost_ret (by simp [results, Tryz.results48, go_sem]) rfl ⟨rfl, hB1⟩
set_option maxHeartbeats 8000000 in
theorem refLast_yes (b : Sol) (p : Option Addr) (n c ab ao k d : Nat) (l : List Sol) (m : List Ac) (w : World) (hk : m.length = k) (hk60 : k ≤ 60) (hkd : k ≤ d) (hd : d ≤ 9223372036854775807) (hcs : Cells w ab ao 10 (m.map acL)) (Hv : SlS w (.slice p n c) l) (F : ∀ z ∈ m, fits l.length z = true)
  (H : Hid (∀ w', Below w.heap.size w w' → Calls Tryz.prog 38 #[.agg #[.int .u64 (pl b 0), .int .u64 (pl b 1), .int .u64 (pl b 2), .int .u64 (pl b 3), .int .u64 (pl b 4), .int .u64 (pl b 5), .int .u64 (pl b 6), .int .u64 (pl b 7), .slice p n c, .slice (some ⟨ab, ao, none⟩) k d]] w' fun e w'' => e = .returned (.tuple #[.int .i64 0, .int .i64 0]) ∧ Below w'.heap.size w' w'')) :
  Calls Tryz.prog 48 #[.agg #[.int .u64 (pl b 0), .int .u64 (pl b 1), .int .u64 (pl b 2), .int .u64 (pl b 3), .int .u64 (pl b 4), .int .u64 (pl b 5), .int .u64 (pl b 6), .int .u64 (pl b 7), .slice p n c, .slice (some ⟨ab, ao, none⟩) k d]] w fun e w' => ∃ u, e = .returned (.tuple #[u, .int .i64 0]) ∧ SlI w' u (FI (fun i => lastU l m i k) k) ∧ Below w.heap.size w w' := by
 obtain ⟨i0, hi, hz0, hz1, hz2⟩ := info_parts info3
 have HI0 := Lib.hid (And.intro hi (And.intro hz0 (And.intro hz1 hz2))); clear hi hz0 hz1 hz2
 have hab := hcs.1
 have HCS := Lib.hid hcs
 have HK := Lib.hid hk
 have HH := Lib.hid fun x (hx : x ∈ m) y (hy : y ∈ m) w' (hb : Below w.heap.size w w') => refApart_spec b (.slice p n c) l x y w' (Hv.mono hb) (F x hx) (F y hy)
 clear hcs hk Hv F
 generalize hPP : (fun i => lastU l m i k) = PP
 have HPP : Hid (∀ i, PP i = lastU l m i k) := Lib.hid fun i => by rw [← hPP]
 clear hPP
 go_enter Tryz.func48, Tryz.ntmps48
 go_wp2_with fail
 refine (H.out _ bel_by).mono ?_
 rintro e w1 ⟨rfl, hb⟩
 have hB1 : Below w.heap.size w w1 := bel_trans bel_by hb
 have g0 : Blk w1 w.heap.size #[.int .u64 (pl b 0), .int .u64 (pl b 1), .int .u64 (pl b 2), .int .u64 (pl b 3), .int .u64 (pl b 4), .int .u64 (pl b 5), .int .u64 (pl b 6), .int .u64 (pl b 7), .slice p n c, .slice (some ⟨ab, ao, none⟩) k d] 30 := Blk.grow blk_by hb
 clear hb H
 go_wp2_with fail
 go_loopw [6, 7] (fun uv i wr => ∃ (u : Value) (j : Nat), u = uv ∧ j ≤ k ∧ i = .int .i64 j ∧ Hid (OwnI wr (w.heap.size + 1) u (FI PP j)) ∧ Blk wr w.heap.size #[.int .u64 (pl b 0), .int .u64 (pl b 1), .int .u64 (pl b 2), .int .u64 (pl b 3), .int .u64 (pl b 4), .int .u64 (pl b 5), .int .u64 (pl b 6), .int .u64 (pl b 7), .slice p n c, .slice (some ⟨ab, ao, none⟩) k d] 30 ∧ Below w.heap.size w wr) (fun _ i _ => k - (intOf i).toNat)
 case atStart => exact ⟨_, 0, rfl, Nat.zero_le _, rfl, Lib.hid (show OwnI w1 (w.heap.size + 1) (.slice none 0 0) (FI PP 0) from World.ownsRow_nil _ _ _ _), g0, hB1⟩
 case round =>
  clear g0 hB1
  obtain ⟨u, i, rfl, hi, rfl, hO, g0, hB⟩ := hrel
  have c0 := g0.cell
  have l0 := g0.lt
  by_cases hlt : i < k
  ·have hx : m[i]? = some (m[i]'(by rw [HK.out]; omega)) := by simp
   generalize m[i]'(by rw [HK.out]; omega) = x at hx
   have HX := Lib.hid hx
   clear hx
   go_wp2_with fail
   clear c0 l0
   go_loopw [8, 9] (fun ov kv wr2 => ∃ j : Nat, i < j ∧ j ≤ k ∧ kv = .int .i64 j ∧ ov = .bool (lastU l m i j) ∧ Hid (OwnI wr2 (w.heap.size + 1) u (FI PP i)) ∧ Blk wr2 w.heap.size #[.int .u64 (pl b 0), .int .u64 (pl b 1), .int .u64 (pl b 2), .int .u64 (pl b 3), .int .u64 (pl b 4), .int .u64 (pl b 5), .int .u64 (pl b 6), .int .u64 (pl b 7), .slice p n c, .slice (some ⟨ab, ao, none⟩) k d] 30 ∧ Below w.heap.size w wr2) (fun _ kv _ => k - (intOf kv).toNat)
   case atStart => exact ⟨i + 1, by omega, by omega, by go_num, by rw [lastU_start], hO, g0, hB⟩
   case round =>
    clear g0 hB hO
    obtain ⟨j, hij, hj, rfl, rfl, hO, g0, hB⟩ := hrel
    have c0 := g0.cell
    have l0 := g0.lt
    by_cases hlj : j < k
    ·have hy : m[j]? = some (m[j]'(by rw [HK.out]; omega)) := by simp
     generalize m[j]'(by rw [HK.out]; omega) = y at hy
     obtain ⟨b0, b1, b2, b3, b4, b5, b6, b7, b8, b9⟩ := ac_cells (HCS.out.mono hB HCS.out.1) hy
     obtain ⟨d0, d1, d2, d3, d4, d5, d6, d7, d8, d9⟩ := ac_cells (HCS.out.mono hB HCS.out.1) HX.out
     have HY := Lib.hid hy
     clear hy
     have hszB := hB.size
     have labr : ab < wr.heap.size := by omega
     obtain ⟨r, hr⟩ : ∃ r, apartB l x y = r := ⟨_, rfl⟩
     have HI : Hid (∀ w', Below w.heap.size w w' → Calls Tryz.prog 102 #[.agg #[.int .u64 (pl b 0), .int .u64 (pl b 1), .int .u64 (pl b 2), .int .u64 (pl b 3), .int .u64 (pl b 4), .int .u64 (pl b 5), .int .u64 (pl b 6), .int .u64 (pl b 7), .slice p n c], .agg #[.int .u8 x.1, .int .i64 x.2.1, .int .u64 (pl x.2.2 0), .int .u64 (pl x.2.2 1), .int .u64 (pl x.2.2 2), .int .u64 (pl x.2.2 3), .int .u64 (pl x.2.2 4), .int .u64 (pl x.2.2 5), .int .u64 (pl x.2.2 6), .int .u64 (pl x.2.2 7)], .agg #[.int .u8 y.1, .int .i64 y.2.1, .int .u64 (pl y.2.2 0), .int .u64 (pl y.2.2 1), .int .u64 (pl y.2.2 2), .int .u64 (pl y.2.2 3), .int .u64 (pl y.2.2 4), .int .u64 (pl y.2.2 5), .int .u64 (pl y.2.2 6), .int .u64 (pl y.2.2 7)]] w' fun e w'' => e = .returned (.bool r) ∧ Below w'.heap.size w' w'') := by
      subst hr; exact Lib.hid fun w' hb => HH.out x (List.mem_of_getElem? HX.out) y (List.mem_of_getElem? HY.out) w' hb
     have hs : lastU l m i (j + 1) = (lastU l m i j && r) := by rw [lastU_succ hij HX.out HY.out, hr]
     have HS := Lib.hid hs
     clear hr hs
     go_wp2_with fail
     refine wp_region_inv Grows (fun _ _ => True) [Is (.pointer (some ⟨w.heap.size, 0, none⟩)), Is (.agg #[.int .u64 (pl b 0), .int .u64 (pl b 1), .int .u64 (pl b 2), .int .u64 (pl b 3), .int .u64 (pl b 4), .int .u64 (pl b 5), .int .u64 (pl b 6), .int .u64 (pl b 7), .slice p n c]), Is (.pointer (some ⟨w.heap.size, 9, none⟩)), Is (.slice (some ⟨ab, ao, none⟩) k d), Is (.int .i64 (i : Int)), Is (.pointer (some ⟨ab, ao + i * 10, none⟩)), Is (.agg #[.int .u8 x.1, .int .i64 x.2.1, .int .u64 (pl x.2.2 0), .int .u64 (pl x.2.2 1), .int .u64 (pl x.2.2 2), .int .u64 (pl x.2.2 3), .int .u64 (pl x.2.2 4), .int .u64 (pl x.2.2 5), .int .u64 (pl x.2.2 6), .int .u64 (pl x.2.2 7)]), Is (.pointer (some ⟨w.heap.size, 9, none⟩)), Is (.slice (some ⟨ab, ao, none⟩) k d), Is (.int .i64 (j : Int)), Is (.pointer (some ⟨ab, ao + j * 10, none⟩)), Is (.agg #[.int .u8 y.1, .int .i64 y.2.1, .int .u64 (pl y.2.2 0), .int .u64 (pl y.2.2 1), .int .u64 (pl y.2.2 2), .int .u64 (pl y.2.2 3), .int .u64 (pl y.2.2 4), .int .u64 (pl y.2.2 5), .int .u64 (pl y.2.2 6), .int .u64 (pl y.2.2 7)]), Is (.bool r), Is (.bool (!r))] (by kernel_rfl) (by kernel_rfl) rfl Grows.refl (fun _ _ _ => Grows.trans) (stable_mem ⟨fun _ _ _ h _ => h, fun _ _ _ h _ => h, fun _ _ _ h _ => h, fun _ _ _ h _ => h, fun _ _ _ h _ => h, fun _ _ _ h _ => h, fun _ _ _ h _ => h, fun _ _ _ h _ => h, fun _ _ _ h _ => h, fun _ _ _ h _ => h, fun _ _ _ h _ => h, fun _ _ _ h _ => h, fun _ _ _ h _ => h, fun _ _ _ h _ => h, trivial⟩) _ (Below.drew (Below.refl _ _)) trivial ?_
     iterate 12 (refine inv_cons ?_ (fun _ => ?_); · intro L w1 hat hb hI hF; have hc := (Grows.cells hb).1; (try simp [factsI, Region.binds, Is] at hF); go_simp; (try first | exact Grows.refl _ | exact trivial | rfl))
     refine inv_cons ?_ (fun v12 => ?_)
     ·intro L w1 hat hb hI hF; have hc := (Grows.cells hb).1; try simp [factsI, Region.binds, Is] at hF
      go_simp
      refine (HI.out _ (bel_trans hB hb)).mono ?_
      rintro e w2 ⟨rfl, hb2⟩
      exact ⟨rfl, hb2⟩
     refine inv_cons ?_ (fun v13 => ?_)
     ·intro L w1 hat hb hI hF; have hc := (Grows.cells hb).1; try simp [factsI, Region.binds, Is] at hF
      go_simp
      try first | exact Grows.refl _ | exact trivial | rfl
     refine inv_nil ?_
     intro w1 hb hI hF
     simp [Is, Nat.forall_lt_succ_right] at hF
     simp only [Act.put, List.setIfInBounds_toArray, List.set_cons_succ, List.set_cons_zero, hF]
     clear hF
     have hB2 := bel_trans hB hb
     have g0' := g0.grow hb
     have hO2 := Lib.hid (show OwnI _ (w.heap.size + 1) u (FI PP i) from own_grow hO.out hb)
     clear g0 hB hO b0 b1 b2 b3 b4 b5 b6 b7 b8 b9 d0 d1 d2 d3 d4 d5 d6 d7 d8 d9 c0 l0 hb HI
     cases r with
     | true =>
      go_wp2_with fail
      go_roundw
      case rel => exact ⟨j + 1, by omega, by omega, by go_num, by rw [HS.out]; simp, hO2, g0', hB2⟩
      case measure => simp [intOf]; omega
     | false =>
      go_wp2_with fail
      go_roundw
      case rel => exact ⟨j + 1, by omega, by omega, by go_num, by rw [HS.out]; simp, hO2, g0', hB2⟩
      case measure => simp [intOf]; omega
    ·have hjk : j = k := by omega
     subst hjk
     rw [← HPP.out i]
     cases hp : PP i with
     | false =>
      go_wp2_with fail
      go_roundw
      case rel => exact ⟨_, i + 1, rfl, by omega, by go_num, by rw [FI_no hp]; exact hO, g0, hB⟩
      case measure => simp [intOf]; omega
     | true =>
      have hx := hO.out
      unfold OwnI at hx
      have HXo := Lib.hid hx; clear hx
      have hlen := FI_len PP i
      have hszB := hB.size
      go_wp2_with (first
       | (at_builtin; refine wpList_append_own _ rfl _ _ 66 rfl (w.heap.size + 1) 3 i0 (.int .i64 0) 1 8 Tryz.underlying66 HI0.out.1 HI0.out.2.1 HI0.out.2.2.1 HI0.out.2.2.2 rfl (by decide) _ _ _ rfl (HXo.out.alloc _) ⟨wr.heap.size, 0, none⟩ 1 1 [.int .i64 i] rfl rfl (cell_one_new _ _ _) (fun x hx => by simp at hx; subst hx; rfl) (by unfold maxLen; omega) (by omega) (by simp; omega) ?_; intro v' w3 hown' hgrow3 hnil3))
      have hbe : Below (w.heap.size + 1) wr w3 := ((bel_alloc (bel_refl wr) _).mono (by omega)).grown hgrow3 (by simp; omega) (fun j' hj' => (HXo.out.lt j' hj').1)
      go_roundw
      case rel => exact ⟨_, i + 1, rfl, by omega, by go_num, by show OwnI _ _ _ _; unfold OwnI; rw [FI_yes hp, List.length_append, List.map_append]; exact hown', g0.below hbe (by omega), hB.trans (hbe.mono (by omega))⟩
      case measure => simp [intOf]; omega
  ·have hik : i = k := by omega
   subst hik
   have HO := Lib.hid (OwnI.sl hO.out)
   go_wp2_with fail
   refine bodyPost_ret (by simp [results, Tryz.results48, go_sem]) rfl ⟨_, rfl, HO.out, hB⟩
end Go.Proofs.YtccnkebkgegohaaGreatDoor
end
