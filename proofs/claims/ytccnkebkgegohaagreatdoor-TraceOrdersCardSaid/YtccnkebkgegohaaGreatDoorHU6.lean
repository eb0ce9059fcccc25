import Derived.Test.YtccnkebkgegohaaGreatDoorHTrl
/-
  Given contracts of functions of the program, and laws for them, one behind the other.
-/
set_option linter.unusedVariables false
set_option linter.unusedSimpArgs false
set_option linter.unusedSectionVars false
section
namespace Go.Proofs.YtccnkebkgegohaaGreatDoor
open Go.RowKit Go.Rel
set_option maxRecDepth 100000
/-! needs, of the reference -/
set_option maxHeartbeats 16000000 in
theorem refneeds_main (b : Sol) (p : Option Addr) (n c ab ao k d : Nat) (l : List Sol) (m : List Ac) (dep : Nat → Nat → Bool) (i : Nat) (w : World) (hk : m.length = k) (hi : i < k) (hk60 : k ≤ 60) (hkd : k ≤ d) (hd : d ≤ 9223372036854775807) (hcs : Cells w ab ao 10 (m.map acL)) (Hv : SlS w (.slice p n c) l) (F : ∀ z ∈ m, fits l.length z = true)
    (HD : Hid (∀ (q j : Nat) (x y : Ac), m[q]? = some x → m[j]? = some y → apartB l x y = !dep q j)) :
    Calls Tryz.prog 118 #[.agg #[.int .u64 (pl b 0), .int .u64 (pl b 1), .int .u64 (pl b 2), .int .u64 (pl b 3), .int .u64 (pl b 4), .int .u64 (pl b 5), .int .u64 (pl b 6), .int .u64 (pl b 7), .slice p n c, .slice (some ⟨ab, ao, none⟩) k d], .int .i64 (i : Int)] w fun e w' => ∃ g, e = .returned (.slice (some ⟨g, 0, none⟩) k k) ∧ w.heap.size ≤ g ∧ Blk w' g (tab k (fun t => .bool (aheadR dep i t))) 4 ∧ Below w.heap.size w w' := by
  obtain ⟨i1, hi0, hz0, hz1, hz2⟩ := info_parts info4
  have HI1 := Lib.hid (And.intro hi0 (And.intro hz0 (And.intro hz1 hz2))); clear hi0 hz0 hz1 hz2
  have hab := hcs.1
  have HCS := Lib.hid hcs
  have HK := Lib.hid hk
  have HH := Lib.hid fun x (hx : x ∈ m) y (hy : y ∈ m) w' (hb : Below w.heap.size w w') => refApart_spec b (.slice p n c) l x y w' (Hv.mono hb) (F x hx) (F y hy)
  clear hcs hk Hv F
  go_enter Tryz.func118, Tryz.ntmps118
  have g0 : Blk (w.alloc (.cells (#[.int .u64 (pl b 0), .int .u64 (pl b 1), .int .u64 (pl b 2), .int .u64 (pl b 3), .int .u64 (pl b 4), .int .u64 (pl b 5), .int .u64 (pl b 6), .int .u64 (pl b 7), .slice p n c, .slice (some ⟨ab, ao, none⟩) k d] : Array Value) 30)) w.heap.size #[.int .u64 (pl b 0), .int .u64 (pl b 1), .int .u64 (pl b 2), .int .u64 (pl b 3), .int .u64 (pl b 4), .int .u64 (pl b 5), .int .u64 (pl b 6), .int .u64 (pl b 7), .slice p n c, .slice (some ⟨ab, ao, none⟩) k d] 30 := Blk.new _ _ _
  go_wp2_with (first | (at_make; refine wpList_make_full _ rfl _ _ 144 rfl (w.heap.size + 1) 4 i1 (.bool false) 1 Tryz.underlying144 HI1.out.1 HI1.out.2.1 HI1.out.2.2.1 .i64 .i64 _ _ k rfl rfl rfl rfl (by rw [HI1.out.2.2.2]; omega) (by unfold maxLen; omega) (by simp) ?_; intro w1 hown1 hgrow1; simp only [World.size_alloc] at hown1; have hb1 := (own_made hown1).1; have c1 := (hb1.cell i).trans (tab_get hi); have f1 := hb1.free i; have lb1 := hb1.lt; have HB0 := Lib.hid hb1; have HG0 : Hid (Blk w1 w.heap.size #[.int .u64 (pl b 0), .int .u64 (pl b 1), .int .u64 (pl b 2), .int .u64 (pl b 3), .int .u64 (pl b 4), .int .u64 (pl b 5), .int .u64 (pl b 6), .int .u64 (pl b 7), .slice p n c, .slice (some ⟨ab, ao, none⟩) k d] 30) := Lib.hid (g0.grow ((Below.refl _ _).grown hgrow1 (Nat.le_refl _) (fun j hj => by cases hj))); have HBel : Hid (Below w.heap.size w w1) := Lib.hid ((bel_alloc (bel_refl _) _ : Below w.heap.size w (w.alloc (.cells (#[.int .u64 (pl b 0), .int .u64 (pl b 1), .int .u64 (pl b 2), .int .u64 (pl b 3), .int .u64 (pl b 4), .int .u64 (pl b 5), .int .u64 (pl b 6), .int .u64 (pl b 7), .slice p n c, .slice (some ⟨ab, ao, none⟩) k d] : Array Value) 30))).grown hgrow1 (by simp) (fun j hj => by cases hj)); clear hb1 hown1 hgrow1 g0))
  clear c1 f1 lb1
  go_loopw [6] (fun xv wr => ∃ (q : Nat) (z : Int), q ≤ i ∧ z = (q : Int) - 1 ∧ xv = .int .i64 z ∧ Blk wr (w.heap.size + 1) (tab k (fun t => .bool (decide (q ≤ t) && ahd dep i t))) 4 ∧ Blk wr w.heap.size #[.int .u64 (pl b 0), .int .u64 (pl b 1), .int .u64 (pl b 2), .int .u64 (pl b 3), .int .u64 (pl b 4), .int .u64 (pl b 5), .int .u64 (pl b 6), .int .u64 (pl b 7), .slice p n c, .slice (some ⟨ab, ao, none⟩) k d] 30 ∧ Below w.heap.size w wr) (fun xv _ => (intOf xv + 1).toNat)
  case atStart =>
    refine ⟨i, _, Nat.le_refl _, rfl, rfl, ?_, HG0.out.other (by simp) _, HBel.out.setCell (by simp) _⟩
    have hs := HB0.out.set i (.bool true)
    rw [tab_set] at hs
    refine (congrArg (fun a => Blk _ _ a 4) (tab_congr fun t ht => ?_)).mp hs
    by_cases e : t = i
    · subst e; simp [ahd_self]
    · rw [if_neg e]
      by_cases e2 : i ≤ t
      · rw [ahd_above (show i < t by omega)]; simp
      · simp [e2]
  case round =>
    clear HB0 HBel HG0
    obtain ⟨q, z, hq, hz, rfl, hB, g0, hbel⟩ := hrel
    rcases q with _ | q
    · obtain rfl : z = -1 := by omega
      have c1 := (hB.cell i).trans (tab_get hi)
      have f1 := hB.free i
      have l1 := hB.lt
      have HB := Lib.hid hB
      clear hz hq hB
      go_wp2_with fail
      refine bodyPost_ret (v := .slice (some ⟨w.heap.size + 1, 0, none⟩) k k) (by simp [results, Tryz.results118, go_sem]) rfl ⟨_, rfl, by omega, ?_, hbel.setCell (by simp) _⟩
      have hs := HB.out.set i (.bool false)
      rw [tab_set] at hs
      refine (congrArg (fun a => Blk _ _ a 4) (tab_congr fun t ht => ?_)).mp hs
      unfold aheadR
      by_cases e : t = i
      · subst e; simp
      · rw [if_neg e]; simp [e]
    · obtain rfl : z = (q : Int) := by omega
      have hqi : q < i := by omega
      have hqk : q < k := by omega
      clear hz hq
      have hBk : Blk wr (w.heap.size + 1) (tab k (fun t => .bool (if t = q then partA dep i q (q + 1) else decide (q + 1 ≤ t) && ahd dep i t))) 4 := by
        refine (congrArg (fun a => Blk _ _ a 4) (tab_congr fun t ht => ?_)).mp hB
        by_cases e : t = q
        · subst e; rw [if_pos rfl, partA_zero]; simp; omega
        · rw [if_neg e]
      clear hB
      have hx : m[q]? = some (m[q]'(by rw [HK.out]; omega)) := by simp
      generalize m[q]'(by rw [HK.out]; omega) = x at hx
      have HX := Lib.hid hx
      clear hx
      go_wp2_with fail
      go_loopw [7] (fun yv wr => ∃ j : Nat, q + 1 ≤ j ∧ j ≤ i + 1 ∧ yv = .int .i64 j ∧ Blk wr (w.heap.size + 1) (tab k (fun t => .bool (if t = q then partA dep i q j else decide (q + 1 ≤ t) && ahd dep i t))) 4 ∧ Blk wr w.heap.size #[.int .u64 (pl b 0), .int .u64 (pl b 1), .int .u64 (pl b 2), .int .u64 (pl b 3), .int .u64 (pl b 4), .int .u64 (pl b 5), .int .u64 (pl b 6), .int .u64 (pl b 7), .slice p n c, .slice (some ⟨ab, ao, none⟩) k d] 30 ∧ Below w.heap.size w wr) (fun yv _ => i + 1 - (intOf yv).toNat)
      case atStart => exact ⟨q + 1, Nat.le_refl _, by omega, by go_num, hBk, g0, hbel⟩
      case round =>
        clear hBk g0 hbel
        obtain ⟨j, hj1, hj2, rfl, hB, g0, hbel⟩ := hrel
        by_cases hlt : j ≤ i
        · have hjk : j < k := by omega
          have hjq : ¬ j = q := by omega
          have hcj := (hB.cell j).trans (tab_get hjk)
          rw [if_neg hjq] at hcj
          have e1 : decide (q + 1 ≤ j) = true := by simp; omega
          rw [e1, Bool.true_and] at hcj
          have hps := partA_succ dep i q j hj1
          have lB := hB.lt
          clear e1
          cases hb' : ahd dep i j with
          | false =>
            rw [hb'] at hcj
            have HP : Hid (partA dep i q (j + 1) = partA dep i q j) := by show _ = _; rw [hps, hb']; simp
            clear hps
            go_wp2_with fail
            refine wp_region_inv Grows (fun _ _ => True) [Is (.slice (some ⟨w.heap.size + 1, 0, none⟩) k k), Is (.int .i64 (j : Int)), Is (.pointer (some ⟨w.heap.size + 1, j, none⟩)), Is (.bool false), Is (.bool false), AnyV, AnyV, AnyV, AnyV, AnyV, AnyV, AnyV, AnyV, AnyV, AnyV, AnyV, AnyV, AnyV, AnyV, Is (.bool false)] (by kernel_rfl) (by kernel_rfl) rfl Grows.refl (fun _ _ _ => Grows.trans) (stable_mem ⟨fun _ _ _ h _ => h, fun _ _ _ h _ => h, fun _ _ _ h _ => h, fun _ _ _ h _ => h, fun _ _ _ h _ => h, fun _ _ _ h _ => h, fun _ _ _ h _ => h, fun _ _ _ h _ => h, fun _ _ _ h _ => h, fun _ _ _ h _ => h, fun _ _ _ h _ => h, fun _ _ _ h _ => h, fun _ _ _ h _ => h, fun _ _ _ h _ => h, fun _ _ _ h _ => h, fun _ _ _ h _ => h, fun _ _ _ h _ => h, fun _ _ _ h _ => h, fun _ _ _ h _ => h, fun _ _ _ h _ => h, trivial⟩) _ (Below.drew (Below.refl _ _)) trivial ?_
            refine inv_cons ?_ (fun v0 => ?_)
            · intro L w1 hat hb hI hF
              have hc := (Grows.cells hb).1
              try simp [factsI, Region.binds, Is] at hF
              go_simp
              try exact Grows.refl _
            refine inv_cons ?_ (fun v1 => ?_)
            · intro L w1 hat hb hI hF
              have hc := (Grows.cells hb).1
              try simp [factsI, Region.binds, Is] at hF
              go_simp
              try exact Grows.refl _
            refine inv_cons ?_ (fun v2 => ?_)
            · intro L w1 hat hb hI hF
              have hc := (Grows.cells hb).1
              try simp [factsI, Region.binds, Is] at hF
              go_simp
              try exact Grows.refl _
            refine inv_cons ?_ (fun v3 => ?_)
            · intro L w1 hat hb hI hF
              have hc := (Grows.cells hb).1
              try simp [factsI, Region.binds, Is] at hF
              go_simp
              try exact Grows.refl _
            refine inv_cons ?_ (fun v4 => ?_)
            · intro L w1 hat hb hI hF
              have hc := (Grows.cells hb).1
              try simp [factsI, Region.binds, Is] at hF
              go_simp
              try exact Grows.refl _
            refine inv_cons ?_ (fun v5 => ?_)
            · intro L w1 hat hb hI hF
              have hc := (Grows.cells hb).1
              try simp [factsI, Region.binds, Is] at hF
              go_simp
              first | done | exact trivial
            refine inv_cons ?_ (fun v6 => ?_)
            · intro L w1 hat hb hI hF
              have hc := (Grows.cells hb).1
              try simp [factsI, Region.binds, Is] at hF
              go_simp
              first | done | exact trivial
            refine inv_cons ?_ (fun v7 => ?_)
            · intro L w1 hat hb hI hF
              have hc := (Grows.cells hb).1
              try simp [factsI, Region.binds, Is] at hF
              go_simp
              first | done | exact trivial
            refine inv_cons ?_ (fun v8 => ?_)
            · intro L w1 hat hb hI hF
              have hc := (Grows.cells hb).1
              try simp [factsI, Region.binds, Is] at hF
              go_simp
              first | done | exact trivial
            refine inv_cons ?_ (fun v9 => ?_)
            · intro L w1 hat hb hI hF
              have hc := (Grows.cells hb).1
              try simp [factsI, Region.binds, Is] at hF
              go_simp
              first | done | exact trivial
            refine inv_cons ?_ (fun v10 => ?_)
            · intro L w1 hat hb hI hF
              have hc := (Grows.cells hb).1
              try simp [factsI, Region.binds, Is] at hF
              go_simp
              first | done | exact trivial
            refine inv_cons ?_ (fun v11 => ?_)
            · intro L w1 hat hb hI hF
              have hc := (Grows.cells hb).1
              try simp [factsI, Region.binds, Is] at hF
              go_simp
              first | done | exact trivial
            refine inv_cons ?_ (fun v12 => ?_)
            · intro L w1 hat hb hI hF
              have hc := (Grows.cells hb).1
              try simp [factsI, Region.binds, Is] at hF
              go_simp
              first | done | exact trivial
            refine inv_cons ?_ (fun v13 => ?_)
            · intro L w1 hat hb hI hF
              have hc := (Grows.cells hb).1
              try simp [factsI, Region.binds, Is] at hF
              go_simp
              first | done | exact trivial
            refine inv_cons ?_ (fun v14 => ?_)
            · intro L w1 hat hb hI hF
              have hc := (Grows.cells hb).1
              try simp [factsI, Region.binds, Is] at hF
              go_simp
              first | done | exact trivial
            refine inv_cons ?_ (fun v15 => ?_)
            · intro L w1 hat hb hI hF
              have hc := (Grows.cells hb).1
              try simp [factsI, Region.binds, Is] at hF
              go_simp
              first | done | exact trivial
            refine inv_cons ?_ (fun v16 => ?_)
            · intro L w1 hat hb hI hF
              have hc := (Grows.cells hb).1
              try simp [factsI, Region.binds, Is] at hF
              go_simp
              first | done | exact trivial
            refine inv_cons ?_ (fun v17 => ?_)
            · intro L w1 hat hb hI hF
              have hc := (Grows.cells hb).1
              try simp [factsI, Region.binds, Is] at hF
              go_simp
              first | done | exact trivial
            refine inv_cons ?_ (fun v18 => ?_)
            · intro L w1 hat hb hI hF
              have hc := (Grows.cells hb).1
              try simp [factsI, Region.binds, Is] at hF
              go_simp
              first | done | exact trivial
            refine inv_cons ?_ (fun v19 => ?_)
            · intro L w1 hat hb hI hF
              have hc := (Grows.cells hb).1
              try simp [factsI, Region.binds, Is] at hF
              go_simp
              try exact Grows.refl _
            refine inv_nil ?_
            intro w1 hb hI hF
            simp [Is, Nat.forall_lt_succ_right] at hF
            have e0 := hF.1.1.1.1.1.1.1.1.1.1.1.1.1.1.1.1.1.1.1
            have e1 := hF.1.1.1.1.1.1.1.1.1.1.1.1.1.1.1.1.1.1.2
            have e2 := hF.1.1.1.1.1.1.1.1.1.1.1.1.1.1.1.1.1.2
            have e3 := hF.1.1.1.1.1.1.1.1.1.1.1.1.1.1.1.1.2
            have e4 := hF.1.1.1.1.1.1.1.1.1.1.1.1.1.1.1.2
            have e5 := hF.1.1.1.1.1.1.1.1.1.1.1.1.1.1.2
            have e6 := hF.1.1.1.1.1.1.1.1.1.1.1.1.1.2
            have e7 := hF.1.1.1.1.1.1.1.1.1.1.1.1.2
            have e8 := hF.1.1.1.1.1.1.1.1.1.1.1.2
            have e9 := hF.1.1.1.1.1.1.1.1.1.1.2
            have e10 := hF.1.1.1.1.1.1.1.1.1.2
            have e11 := hF.1.1.1.1.1.1.1.1.2
            have e12 := hF.1.1.1.1.1.1.1.2
            have e13 := hF.1.1.1.1.1.1.2
            have e14 := hF.1.1.1.1.1.2
            have e15 := hF.1.1.1.1.2
            have e16 := hF.1.1.1.2
            have e17 := hF.1.1.2
            have e18 := hF.1.2
            have e19 := hF.2
            clear hF
            simp only [Act.put, List.setIfInBounds_toArray, List.set_cons_succ, List.set_cons_zero, e0, e1, e2, e3, e4, e19]
            clear e0 e1 e2 e3 e4 e19
            have hB' := hB.grow hb
            have g0' := g0.grow hb
            have hbel' := bel_trans hbel hb
            clear hB g0 hbel hb hcj lB
            go_wp2_with fail
            go_roundw
            case rel => exact ⟨j + 1, by omega, by omega, by go_num, by rw [HP.out]; exact hB', g0', hbel'⟩
            case measure => simp [intOf]; omega
          | true =>
            rw [hb'] at hcj
            have hy : m[j]? = some (m[j]'(by rw [HK.out]; omega)) := by simp
            generalize m[j]'(by rw [HK.out]; omega) = y at hy
            obtain ⟨b0, b1, b2, b3, b4, b5, b6, b7, b8, b9⟩ := ac_cells (HCS.out.mono hbel HCS.out.1) hy
            obtain ⟨d0, d1, d2, d3, d4, d5, d6, d7, d8, d9⟩ := ac_cells (HCS.out.mono hbel HCS.out.1) HX.out
            have hszB := hbel.size
            have labr : ab < wr.heap.size := by omega
            obtain ⟨r, hr⟩ : ∃ r, apartB l x y = r := ⟨_, rfl⟩
            have HI : Hid (∀ w', Below w.heap.size w w' → Calls Tryz.prog 102 #[.agg #[.int .u64 (pl b 0), .int .u64 (pl b 1), .int .u64 (pl b 2), .int .u64 (pl b 3), .int .u64 (pl b 4), .int .u64 (pl b 5), .int .u64 (pl b 6), .int .u64 (pl b 7), .slice p n c], .agg #[.int .u8 x.1, .int .i64 x.2.1, .int .u64 (pl x.2.2 0), .int .u64 (pl x.2.2 1), .int .u64 (pl x.2.2 2), .int .u64 (pl x.2.2 3), .int .u64 (pl x.2.2 4), .int .u64 (pl x.2.2 5), .int .u64 (pl x.2.2 6), .int .u64 (pl x.2.2 7)], .agg #[.int .u8 y.1, .int .i64 y.2.1, .int .u64 (pl y.2.2 0), .int .u64 (pl y.2.2 1), .int .u64 (pl y.2.2 2), .int .u64 (pl y.2.2 3), .int .u64 (pl y.2.2 4), .int .u64 (pl y.2.2 5), .int .u64 (pl y.2.2 6), .int .u64 (pl y.2.2 7)]] w' fun e w'' => e = .returned (.bool r) ∧ Below w'.heap.size w' w'') := by
              subst hr; exact Lib.hid fun w' hb => HH.out x (List.mem_of_getElem? HX.out) y (List.mem_of_getElem? hy) w' hb
            have hdr : dep q j = !r := by rw [← hr, HD.out q j x y HX.out hy, Bool.not_not]
            have HP : Hid (partA dep i q (j + 1) = (partA dep i q j || !r)) := by show _ = _; rw [hps, hb', hdr]; simp
            have c0 := g0.cell
            have l0 := g0.lt
            clear hps hr hdr hy
            go_wp2_with fail
            refine wp_region_inv Grows (fun _ _ => True) [Is (.slice (some ⟨w.heap.size + 1, 0, none⟩) k k), Is (.int .i64 (j : Int)), Is (.pointer (some ⟨w.heap.size + 1, j, none⟩)), Is (.bool true), Is (.bool true), Is (.pointer (some ⟨w.heap.size, 0, none⟩)), Is (.agg #[.int .u64 (pl b 0), .int .u64 (pl b 1), .int .u64 (pl b 2), .int .u64 (pl b 3), .int .u64 (pl b 4), .int .u64 (pl b 5), .int .u64 (pl b 6), .int .u64 (pl b 7), .slice p n c]), Is (.pointer (some ⟨w.heap.size, 9, none⟩)), Is (.slice (some ⟨ab, ao, none⟩) k d), Is (.int .i64 (q : Int)), Is (.pointer (some ⟨ab, ao + q * 10, none⟩)), Is (.agg #[.int .u8 x.1, .int .i64 x.2.1, .int .u64 (pl x.2.2 0), .int .u64 (pl x.2.2 1), .int .u64 (pl x.2.2 2), .int .u64 (pl x.2.2 3), .int .u64 (pl x.2.2 4), .int .u64 (pl x.2.2 5), .int .u64 (pl x.2.2 6), .int .u64 (pl x.2.2 7)]), Is (.pointer (some ⟨w.heap.size, 9, none⟩)), Is (.slice (some ⟨ab, ao, none⟩) k d), Is (.int .i64 (j : Int)), Is (.pointer (some ⟨ab, ao + j * 10, none⟩)), Is (.agg #[.int .u8 y.1, .int .i64 y.2.1, .int .u64 (pl y.2.2 0), .int .u64 (pl y.2.2 1), .int .u64 (pl y.2.2 2), .int .u64 (pl y.2.2 3), .int .u64 (pl y.2.2 4), .int .u64 (pl y.2.2 5), .int .u64 (pl y.2.2 6), .int .u64 (pl y.2.2 7)]), Is (.bool r), Is (.bool (!r)), Is (.bool (!r))] (by kernel_rfl) (by kernel_rfl) rfl Grows.refl (fun _ _ _ => Grows.trans) (stable_mem ⟨fun _ _ _ h _ => h, fun _ _ _ h _ => h, fun _ _ _ h _ => h, fun _ _ _ h _ => h, fun _ _ _ h _ => h, fun _ _ _ h _ => h, fun _ _ _ h _ => h, fun _ _ _ h _ => h, fun _ _ _ h _ => h, fun _ _ _ h _ => h, fun _ _ _ h _ => h, fun _ _ _ h _ => h, fun _ _ _ h _ => h, fun _ _ _ h _ => h, fun _ _ _ h _ => h, fun _ _ _ h _ => h, fun _ _ _ h _ => h, fun _ _ _ h _ => h, fun _ _ _ h _ => h, fun _ _ _ h _ => h, trivial⟩) _ (Below.drew (Below.refl _ _)) trivial ?_
            refine inv_cons ?_ (fun v0 => ?_)
            · intro L w1 hat hb hI hF
              have hc := (Grows.cells hb).1
              try simp [factsI, Region.binds, Is] at hF
              go_simp
              try exact Grows.refl _
            refine inv_cons ?_ (fun v1 => ?_)
            · intro L w1 hat hb hI hF
              have hc := (Grows.cells hb).1
              try simp [factsI, Region.binds, Is] at hF
              go_simp
              try exact Grows.refl _
            refine inv_cons ?_ (fun v2 => ?_)
            · intro L w1 hat hb hI hF
              have hc := (Grows.cells hb).1
              try simp [factsI, Region.binds, Is] at hF
              go_simp
              try exact Grows.refl _
            refine inv_cons ?_ (fun v3 => ?_)
            · intro L w1 hat hb hI hF
              have hc := (Grows.cells hb).1
              try simp [factsI, Region.binds, Is] at hF
              go_simp
              try exact Grows.refl _
            refine inv_cons ?_ (fun v4 => ?_)
            · intro L w1 hat hb hI hF
              have hc := (Grows.cells hb).1
              try simp [factsI, Region.binds, Is] at hF
              go_simp
              try exact Grows.refl _
            refine inv_cons ?_ (fun v5 => ?_)
            · intro L w1 hat hb hI hF
              have hc := (Grows.cells hb).1
              try simp [factsI, Region.binds, Is] at hF
              go_simp
              try exact Grows.refl _
            refine inv_cons ?_ (fun v6 => ?_)
            · intro L w1 hat hb hI hF
              have hc := (Grows.cells hb).1
              try simp [factsI, Region.binds, Is] at hF
              go_simp
              try exact Grows.refl _
            refine inv_cons ?_ (fun v7 => ?_)
            · intro L w1 hat hb hI hF
              have hc := (Grows.cells hb).1
              try simp [factsI, Region.binds, Is] at hF
              go_simp
              try exact Grows.refl _
            refine inv_cons ?_ (fun v8 => ?_)
            · intro L w1 hat hb hI hF
              have hc := (Grows.cells hb).1
              try simp [factsI, Region.binds, Is] at hF
              go_simp
              try exact Grows.refl _
            refine inv_cons ?_ (fun v9 => ?_)
            · intro L w1 hat hb hI hF
              have hc := (Grows.cells hb).1
              try simp [factsI, Region.binds, Is] at hF
              go_simp
              try exact Grows.refl _
            refine inv_cons ?_ (fun v10 => ?_)
            · intro L w1 hat hb hI hF
              have hc := (Grows.cells hb).1
              try simp [factsI, Region.binds, Is] at hF
              go_simp
              try exact Grows.refl _
            refine inv_cons ?_ (fun v11 => ?_)
            · intro L w1 hat hb hI hF
              have hc := (Grows.cells hb).1
              try simp [factsI, Region.binds, Is] at hF
              go_simp
              try exact Grows.refl _
            refine inv_cons ?_ (fun v12 => ?_)
            · intro L w1 hat hb hI hF
              have hc := (Grows.cells hb).1
              try simp [factsI, Region.binds, Is] at hF
              go_simp
              try exact Grows.refl _
            refine inv_cons ?_ (fun v13 => ?_)
            · intro L w1 hat hb hI hF
              have hc := (Grows.cells hb).1
              try simp [factsI, Region.binds, Is] at hF
              go_simp
              try exact Grows.refl _
            refine inv_cons ?_ (fun v14 => ?_)
            · intro L w1 hat hb hI hF
              have hc := (Grows.cells hb).1
              try simp [factsI, Region.binds, Is] at hF
              go_simp
              try exact Grows.refl _
            refine inv_cons ?_ (fun v15 => ?_)
            · intro L w1 hat hb hI hF
              have hc := (Grows.cells hb).1
              try simp [factsI, Region.binds, Is] at hF
              go_simp
              try exact Grows.refl _
            refine inv_cons ?_ (fun v16 => ?_)
            · intro L w1 hat hb hI hF
              have hc := (Grows.cells hb).1
              try simp [factsI, Region.binds, Is] at hF
              go_simp
              try exact Grows.refl _
            refine inv_cons ?_ (fun v17 => ?_)
            · intro L w1 hat hb hI hF
              have hc := (Grows.cells hb).1
              try simp [factsI, Region.binds, Is] at hF
              go_simp
              refine (HI.out _ (bel_trans hbel hb)).mono ?_
              rintro e w2 ⟨rfl, hb2⟩
              exact ⟨rfl, hb2⟩
            refine inv_cons ?_ (fun v18 => ?_)
            · intro L w1 hat hb hI hF
              have hc := (Grows.cells hb).1
              try simp [factsI, Region.binds, Is] at hF
              go_simp
              try exact Grows.refl _
            refine inv_cons ?_ (fun v19 => ?_)
            · intro L w1 hat hb hI hF
              have hc := (Grows.cells hb).1
              try simp [factsI, Region.binds, Is] at hF
              go_simp
              try exact Grows.refl _
            refine inv_nil ?_
            intro w1 hb hI hF
            simp [Is, Nat.forall_lt_succ_right] at hF
            have e0 := hF.1.1.1.1.1.1.1.1.1.1.1.1.1.1.1.1.1.1.1
            have e1 := hF.1.1.1.1.1.1.1.1.1.1.1.1.1.1.1.1.1.1.2
            have e2 := hF.1.1.1.1.1.1.1.1.1.1.1.1.1.1.1.1.1.2
            have e3 := hF.1.1.1.1.1.1.1.1.1.1.1.1.1.1.1.1.2
            have e4 := hF.1.1.1.1.1.1.1.1.1.1.1.1.1.1.1.2
            have e5 := hF.1.1.1.1.1.1.1.1.1.1.1.1.1.1.2
            have e6 := hF.1.1.1.1.1.1.1.1.1.1.1.1.1.2
            have e7 := hF.1.1.1.1.1.1.1.1.1.1.1.1.2
            have e8 := hF.1.1.1.1.1.1.1.1.1.1.1.2
            have e9 := hF.1.1.1.1.1.1.1.1.1.1.2
            have e10 := hF.1.1.1.1.1.1.1.1.1.2
            have e11 := hF.1.1.1.1.1.1.1.1.2
            have e12 := hF.1.1.1.1.1.1.1.2
            have e13 := hF.1.1.1.1.1.1.2
            have e14 := hF.1.1.1.1.1.2
            have e15 := hF.1.1.1.1.2
            have e16 := hF.1.1.1.2
            have e17 := hF.1.1.2
            have e18 := hF.1.2
            have e19 := hF.2
            clear hF
            simp only [Act.put, List.setIfInBounds_toArray, List.set_cons_succ, List.set_cons_zero, e0, e1, e2, e3, e4, e5, e6, e7, e8, e9, e10, e11, e12, e13, e14, e15, e16, e17, e18, e19]
            clear e0 e1 e2 e3 e4 e5 e6 e7 e8 e9 e10 e11 e12 e13 e14 e15 e16 e17 e18 e19
            have hB' := hB.grow hb
            have g0' := g0.grow hb
            have hbel' := bel_trans hbel hb
            clear hB g0 hbel hb hcj lB b0 b1 b2 b3 b4 b5 b6 b7 b8 b9 d0 d1 d2 d3 d4 d5 d6 d7 d8 d9 c0 l0 HI labr hszB
            cases r with
            | true =>
              go_wp2_with fail
              go_roundw
              case rel => exact ⟨j + 1, by omega, by omega, by go_num, by rw [HP.out, Bool.not_true, Bool.or_false]; exact hB', g0', hbel'⟩
              case measure => simp [intOf]; omega
            | false =>
              have c1 := (hB'.cell q).trans (tab_get hqk)
              have f1 := hB'.free q
              have l1 := hB'.lt
              have HB1 := Lib.hid (hB'.set q (.bool true))
              clear hB'
              go_wp2_with fail
              go_roundw
              case rel =>
                refine ⟨j + 1, by omega, by omega, by go_num, ?_, g0'.other (by simp) _, hbel'.setCell (by simp) _⟩
                have hs := HB1.out
                rw [tab_set] at hs
                refine (congrArg (fun a => Blk _ _ a 4) (tab_congr fun t ht => ?_)).mp hs
                by_cases e : t = q
                · subst e; rw [if_pos rfl, if_pos rfl, HP.out]; simp
                · rw [if_neg e, if_neg e, if_neg e]
              case measure => simp [intOf]; omega
        · have hji : j = i + 1 := by omega
          subst hji
          have hB2 : Blk wr (w.heap.size + 1) (tab k (fun t => .bool (decide (q ≤ t) && ahd dep i t))) 4 := by
            refine (congrArg (fun a => Blk _ _ a 4) (tab_congr fun t ht => ?_)).mp hB
            by_cases e : t = q
            · subst e; rw [if_pos rfl, partA_all dep i t (by omega)]; simp
            · rw [if_neg e]
              have : decide (q + 1 ≤ t) = decide (q ≤ t) := by rw [Bool.eq_iff_iff]; simp; omega
              rw [this]
          clear hB
          go_wp2_with fail
          go_roundw
          case rel => exact ⟨q, _, by omega, rfl, rfl, hB2, g0, hbel⟩
          case measure => simp [intOf]
end Go.Proofs.YtccnkebkgegohaaGreatDoor
end
