import Derived.Test.YtccnkebkgegohaaGreatDoorHTrn
import Derived.Test.YtccnkebkgegohaaGreatDoorHV2
/-
  Given contracts of functions of the program, and laws for them, one behind the other.
-/
set_option linter.unusedVariables false
set_option linter.unusedSimpArgs false
set_option linter.unusedSectionVars false
section
namespace Go.Proofs.YtccnkebkgegohaaGreatDoor
open Go.RowKit Go.Rel
set_option maxRecDepth 100000
/-! shared, of the reference -/
theorem shP_at {l : List Sol} {ma mb : List Ac} {i j : Nat} {x y : Ac} (hx : ma[i]? = some x) (hy : mb[j]? = some y) : shP l ma mb i j = ((x == y) && (freeL l ma i && freeL l mb j)) := by
 have ex : atN ma i = x := by unfold atN; rw [List.getD_eq_getElem?_getD, hx]; rfl
 have ey : atN mb j = y := by unfold atN; rw [List.getD_eq_getElem?_getD, hy]; rfl
 unfold shP
 rw [ex, ey]
theorem below_succ {P : Nat → Prop} {j : Nat} (h : ∀ k, k < j → P k) (hj : P j) : ∀ k, k < j + 1 → P k := fun k hk => by
 by_cases e : k = j
 ·rw [e]; exact hj
 ·exact h k (by omega)
theorem sl_len {w : World} {q : Option Addr} {k d : Nat} {m : List Ac} (h : SlA w (.slice q k d) m) : m.length = k := by
 obtain ⟨q', d', he, _⟩ := h
 injection he with h1 h2 h3
 rw [h2, List.length_map]

set_option maxHeartbeats 16000000 in
theorem shared165_spec (b : Sol) (p q q2 : Option Addr) (n c k d k2 d2 : Nat) (l : List Sol) (ma mb : List Ac) (w : World) (Hv : SlS w (.slice p n c) l) (Ha : SlA w (.slice q k d) ma) (Hb : SlA w (.slice q2 k2 d2) mb) (Fa : ∀ z ∈ ma, fits l.length z = true) (Fb : ∀ z ∈ mb, fits l.length z = true) (hk : k ≤ 1048576) (hk2 : k2 ≤ 1048576) :
  Calls Tryz.prog 165 #[.agg #[.int .u64 (pl b 0), .int .u64 (pl b 1), .int .u64 (pl b 2), .int .u64 (pl b 3), .int .u64 (pl b 4), .int .u64 (pl b 5), .int .u64 (pl b 6), .int .u64 (pl b 7), .slice p n c], .slice q k d, .slice q2 k2 d2] w fun e w' => e = .returned (turnVal (sharedR l ma mb)) ∧ Below w.heap.size w w' := by
 have hka := sl_len Ha
 have hkb := sl_len Hb
 have HFa : Hid (∀ (i : Nat) w', i < ma.length → Below w.heap.size w w' → Calls Tryz.prog 112 #[.agg #[.int .u64 (pl b 0), .int .u64 (pl b 1), .int .u64 (pl b 2), .int .u64 (pl b 3), .int .u64 (pl b 4), .int .u64 (pl b 5), .int .u64 (pl b 6), .int .u64 (pl b 7), .slice p n c], .slice q k d, .int .i64 (i : Int)] w' fun e w'' => e = .returned (.bool (freeL l ma i)) ∧ Below w'.heap.size w' w'') := Lib.hid fun i w' hi hb => free112_spec b _ _ l ma i hi Fa w' (Hv.mono hb) (Ha.mono hb)
 have HFb : Hid (∀ (i : Nat) w', i < mb.length → Below w.heap.size w w' → Calls Tryz.prog 112 #[.agg #[.int .u64 (pl b 0), .int .u64 (pl b 1), .int .u64 (pl b 2), .int .u64 (pl b 3), .int .u64 (pl b 4), .int .u64 (pl b 5), .int .u64 (pl b 6), .int .u64 (pl b 7), .slice p n c], .slice q2 k2 d2, .int .i64 (i : Int)] w' fun e w'' => e = .returned (.bool (freeL l mb i)) ∧ Below w'.heap.size w' w'') := Lib.hid fun i w' hi hb => free112_spec b _ _ l mb i hi Fb w' (Hv.mono hb) (Hb.mono hb)
 have HA := Lib.hid (And.intro Ha hka)
 have HB := Lib.hid (And.intro Hb hkb)
 generalize hR : turnVal (sharedR l ma mb) = R
 have HR := Lib.hid hR
 clear Hv Ha Hb Fa Fb hka hkb hR
 go_enter Tryz.func165, Tryz.ntmps165
 go_wp2_with fail
 have hbe : Below w.heap.size w (w.alloc (.cells (#[.int .u64 (pl b 0), .int .u64 (pl b 1), .int .u64 (pl b 2), .int .u64 (pl b 3), .int .u64 (pl b 4), .int .u64 (pl b 5), .int .u64 (pl b 6), .int .u64 (pl b 7), .slice p n c] : Array Value) 27)) := bel_alloc (bel_refl _) _
 have g0 : Blk (w.alloc (.cells (#[.int .u64 (pl b 0), .int .u64 (pl b 1), .int .u64 (pl b 2), .int .u64 (pl b 3), .int .u64 (pl b 4), .int .u64 (pl b 5), .int .u64 (pl b 6), .int .u64 (pl b 7), .slice p n c] : Array Value) 27)) w.heap.size #[.int .u64 (pl b 0), .int .u64 (pl b 1), .int .u64 (pl b 2), .int .u64 (pl b 3), .int .u64 (pl b 4), .int .u64 (pl b 5), .int .u64 (pl b 6), .int .u64 (pl b 7), .slice p n c] 27 := Blk.new _ _ _
 generalize (w.alloc (.cells (#[.int .u64 (pl b 0), .int .u64 (pl b 1), .int .u64 (pl b 2), .int .u64 (pl b 3), .int .u64 (pl b 4), .int .u64 (pl b 5), .int .u64 (pl b 6), .int .u64 (pl b 7), .slice p n c] : Array Value) 27)) = w0 at *
 go_loopw [9] (fun iv wr => ∃ i : Nat, i ≤ k ∧ iv = .int .i64 i ∧ Hid (∀ i', i' < i → ∀ k', k' < mb.length → shP l ma mb i' k' = false) ∧ Blk wr w.heap.size #[.int .u64 (pl b 0), .int .u64 (pl b 1), .int .u64 (pl b 2), .int .u64 (pl b 3), .int .u64 (pl b 4), .int .u64 (pl b 5), .int .u64 (pl b 6), .int .u64 (pl b 7), .slice p n c] 27 ∧ Below w.heap.size w wr) (fun iv _ => k - (intOf iv).toNat)
 case atStart => exact ⟨0, Nat.zero_le _, rfl, Lib.hid (fun i' h => absurd h (Nat.not_lt_zero _)), g0, hbe⟩
 case round =>
  clear g0 hbe
  obtain ⟨i, hi, rfl, HO, g0, hB⟩ := hrel
  obtain ⟨W1, hW⟩ : ∃ W1, W1 = wr := ⟨_, rfl⟩
  subst hW
  by_cases h0 : i < k
  ·go_wp2_with fail
   go_loopw [10] (fun jv wr => ∃ j : Nat, j ≤ k2 ∧ jv = .int .i64 j ∧ Hid (∀ k', k' < j → shP l ma mb i k' = false) ∧ Blk wr w.heap.size #[.int .u64 (pl b 0), .int .u64 (pl b 1), .int .u64 (pl b 2), .int .u64 (pl b 3), .int .u64 (pl b 4), .int .u64 (pl b 5), .int .u64 (pl b 6), .int .u64 (pl b 7), .slice p n c] 27 ∧ Below w.heap.size w wr) (fun jv _ => k2 - (intOf jv).toNat)
   case atStart => exact ⟨0, Nat.zero_le _, rfl, Lib.hid (fun i' h => absurd h (Nat.not_lt_zero _)), g0, hB⟩
   case round =>
    clear g0 hB
    obtain ⟨j, hj, rfl, HI, g0, hB⟩ := hrel
    by_cases h1 : j < k2
    ·have hka := HA.out.2
     have hkb := HB.out.2
     have hx : ma[i]? = some (ma[i]'(by omega)) := by simp
     have hy : mb[j]? = some (mb[j]'(by omega)) := by simp
     generalize ma[i]'(by omega) = x at hx
     generalize mb[j]'(by omega) = y at hy
     obtain ⟨ab, ao, rfl, hcs⟩ := acs_at HA.out.1 hx
     obtain ⟨eb, eo, rfl, hcs2⟩ := acs_at HB.out.1 hy
     have hab := hcs.1
     have heb := hcs2.1
     have c0 := g0.cell
     have l0 := g0.lt
     have labr : ab < wr.heap.size := Nat.lt_of_lt_of_le hab hB.size
     have lebr : eb < wr.heap.size := Nat.lt_of_lt_of_le heb hB.size
     obtain ⟨b0, b1, b2, b3, b4, b5, b6, b7, b8, b9⟩ := ac_cells (hcs.mono hB hcs.1) hx
     obtain ⟨f0, f1, f2, f3, f4, f5, f6, f7, f8, f9⟩ := ac_cells (hcs2.mono hB hcs2.1) hy
     obtain ⟨e, he⟩ : ∃ e, (x == y) = e := ⟨_, rfl⟩
     obtain ⟨r, hr⟩ : ∃ r, freeL l ma i = r := ⟨_, rfl⟩
     obtain ⟨s, hs⟩ : ∃ s, freeL l mb j = s := ⟨_, rfl⟩
     have HE := Lib.hid he
     have HSH : Hid (shP l ma mb i j = (e && (r && s))) := Lib.hid (by rw [shP_at hx hy, he, hr, hs])
     have HCa : Hid (∀ w', Below w.heap.size w w' → Calls Tryz.prog 112 #[.agg #[.int .u64 (pl b 0), .int .u64 (pl b 1), .int .u64 (pl b 2), .int .u64 (pl b 3), .int .u64 (pl b 4), .int .u64 (pl b 5), .int .u64 (pl b 6), .int .u64 (pl b 7), .slice p n c], .slice (some ⟨ab, ao, none⟩) k d, .int .i64 (i : Int)] w' fun e w'' => e = .returned (.bool r) ∧ Below w'.heap.size w' w'') := by
      subst hr; exact Lib.hid fun w' hb => HFa.out i w' (by omega) hb
     have HCb : Hid (∀ w', Below w.heap.size w w' → Calls Tryz.prog 112 #[.agg #[.int .u64 (pl b 0), .int .u64 (pl b 1), .int .u64 (pl b 2), .int .u64 (pl b 3), .int .u64 (pl b 4), .int .u64 (pl b 5), .int .u64 (pl b 6), .int .u64 (pl b 7), .slice p n c], .slice (some ⟨eb, eo, none⟩) k2 d2, .int .i64 (j : Int)] w' fun e w'' => e = .returned (.bool s) ∧ Below w'.heap.size w' w'') := by
      subst hs; exact Lib.hid fun w' hb => HFb.out j w' (by omega) hb
     clear he hr hs hx hy hcs hcs2 hka hkb
     go_wp2_with fail
     cases e with
     | false =>
      refine wp_region_inv Grows (fun _ _ => True) [Is (.slice (some ⟨ab, ao, none⟩) k d), Is (.int .i64 (i : Int)), Is (.pointer (some ⟨ab, ao + i * 10, none⟩)), Is (.agg #[.int .u8 x.1, .int .i64 x.2.1, .int .u64 (pl x.2.2 0), .int .u64 (pl x.2.2 1), .int .u64 (pl x.2.2 2), .int .u64 (pl x.2.2 3), .int .u64 (pl x.2.2 4), .int .u64 (pl x.2.2 5), .int .u64 (pl x.2.2 6), .int .u64 (pl x.2.2 7)]), Is (.slice (some ⟨eb, eo, none⟩) k2 d2), Is (.int .i64 (j : Int)), Is (.pointer (some ⟨eb, eo + j * 10, none⟩)), Is (.agg #[.int .u8 y.1, .int .i64 y.2.1, .int .u64 (pl y.2.2 0), .int .u64 (pl y.2.2 1), .int .u64 (pl y.2.2 2), .int .u64 (pl y.2.2 3), .int .u64 (pl y.2.2 4), .int .u64 (pl y.2.2 5), .int .u64 (pl y.2.2 6), .int .u64 (pl y.2.2 7)]), Is (.bool false), Is (.bool false), AnyV, AnyV, AnyV, AnyV, Is (.bool false), Is (.bool false), AnyV, AnyV, AnyV, AnyV, Is (.bool false)] (by kernel_rfl) (by kernel_rfl) rfl Grows.refl (fun _ _ _ => Grows.trans) (stable_mem ⟨fun _ _ _ h _ => h, fun _ _ _ h _ => h, fun _ _ _ h _ => h, fun _ _ _ h _ => h, fun _ _ _ h _ => h, fun _ _ _ h _ => h, fun _ _ _ h _ => h, fun _ _ _ h _ => h, fun _ _ _ h _ => h, fun _ _ _ h _ => h, fun _ _ _ h _ => h, fun _ _ _ h _ => h, fun _ _ _ h _ => h, fun _ _ _ h _ => h, fun _ _ _ h _ => h, fun _ _ _ h _ => h, fun _ _ _ h _ => h, fun _ _ _ h _ => h, fun _ _ _ h _ => h, fun _ _ _ h _ => h, fun _ _ _ h _ => h, trivial⟩) _ (Below.drew (Below.refl _ _)) trivial ?_
      iterate 8 (refine inv_cons ?_ (fun _ => ?_); · intro L w1 hat hb hI hF; have hc := (Grows.cells hb).1; (try simp [factsI, Region.binds, Is] at hF); go_simp; (try first | exact Grows.refl _ | exact trivial | rfl))
      refine inv_cons ?_ (fun v8 => ?_)
      ·intro L w1 hat hb hI hF; have hc := (Grows.cells hb).1; try simp [factsI, Region.binds, Is] at hF
       go_simp
       exact ⟨Grows.refl _, by simpa using HE.out⟩
      iterate 12 (refine inv_cons ?_ (fun _ => ?_); · intro L w1 hat hb hI hF; have hc := (Grows.cells hb).1; (try simp [factsI, Region.binds, Is] at hF); go_simp; (try first | exact Grows.refl _ | exact trivial | rfl))
      refine inv_nil ?_
      intro w1 hb hI hF
      simp [Is, Nat.forall_lt_succ_right] at hF
      have e0 := hF.1.1.1.1.1.1.1.1.1.1.1.1.1.1.1.1.1.1.1.1
      have e1 := hF.1.1.1.1.1.1.1.1.1.1.1.1.1.1.1.1.1.1.1.2
      have e2 := hF.1.1.1.1.1.1.1.1.1.1.1.1.1.1.1.1.1.1.2
      have e3 := hF.1.1.1.1.1.1.1.1.1.1.1.1.1.1.1.1.1.2
      have e4 := hF.1.1.1.1.1.1.1.1.1.1.1.1.1.1.1.1.2
      have e5 := hF.1.1.1.1.1.1.1.1.1.1.1.1.1.1.1.2
      have e6 := hF.1.1.1.1.1.1.1.1.1.1.1.1.1.1.2
      have e7 := hF.1.1.1.1.1.1.1.1.1.1.1.1.1.2
      have e8 := hF.1.1.1.1.1.1.1.1.1.1.1.1.2
      have e9 := hF.1.1.1.1.1.1.1.1.1.1.1.2
      have e10 := hF.1.1.1.1.1.1.1.1.1.1.2
      have e11 := hF.1.1.1.1.1.1.1.1.1.2
      have e12 := hF.1.1.1.1.1.1.1.1.2
      have e13 := hF.1.1.1.1.1.1.1.2
      have e14 := hF.1.1.1.1.1.1.2
      have e15 := hF.1.1.1.1.1.2
      have e16 := hF.1.1.1.1.2
      have e17 := hF.1.1.1.2
      have e18 := hF.1.1.2
      have e19 := hF.1.2
      have e20 := hF.2
      clear hF
      simp only [Act.put, List.setIfInBounds_toArray, List.set_cons_succ, List.set_cons_zero, e0, e1, e2, e3, e4, e5, e6, e7, e8, e9, e14, e15, e20]
      clear e0 e1 e2 e3 e4 e5 e6 e7 e8 e9 e14 e15 e20
      have hB2 := bel_trans hB hb
      have g0' := g0.grow hb
      clear g0 hB hb hI b0 b1 b2 b3 b4 b5 b6 b7 b8 b9 f0 f1 f2 f3 f4 f5 f6 f7 f8 f9 c0 l0
      have HI2 := Lib.hid (below_succ HI.out (by rw [HSH.out]; rfl))
      go_wp2_with fail
      go_roundw
      case rel => exact ⟨j + 1, by omega, by go_num, HI2, g0', hB2⟩
      case measure => simp [intOf]; omega
     | true =>
      cases r with
      | false =>
       refine wp_region_inv Grows (fun _ _ => True) [Is (.slice (some ⟨ab, ao, none⟩) k d), Is (.int .i64 (i : Int)), Is (.pointer (some ⟨ab, ao + i * 10, none⟩)), Is (.agg #[.int .u8 x.1, .int .i64 x.2.1, .int .u64 (pl x.2.2 0), .int .u64 (pl x.2.2 1), .int .u64 (pl x.2.2 2), .int .u64 (pl x.2.2 3), .int .u64 (pl x.2.2 4), .int .u64 (pl x.2.2 5), .int .u64 (pl x.2.2 6), .int .u64 (pl x.2.2 7)]), Is (.slice (some ⟨eb, eo, none⟩) k2 d2), Is (.int .i64 (j : Int)), Is (.pointer (some ⟨eb, eo + j * 10, none⟩)), Is (.agg #[.int .u8 y.1, .int .i64 y.2.1, .int .u64 (pl y.2.2 0), .int .u64 (pl y.2.2 1), .int .u64 (pl y.2.2 2), .int .u64 (pl y.2.2 3), .int .u64 (pl y.2.2 4), .int .u64 (pl y.2.2 5), .int .u64 (pl y.2.2 6), .int .u64 (pl y.2.2 7)]), Is (.bool true), Is (.bool true), Is (.agg #[.int .u64 (pl b 0), .int .u64 (pl b 1), .int .u64 (pl b 2), .int .u64 (pl b 3), .int .u64 (pl b 4), .int .u64 (pl b 5), .int .u64 (pl b 6), .int .u64 (pl b 7), .slice p n c]), Is (.slice (some ⟨ab, ao, none⟩) k d), Is (.int .i64 (i : Int)), Is (.bool false), Is (.bool false), Is (.bool false), AnyV, AnyV, AnyV, AnyV, Is (.bool false)] (by kernel_rfl) (by kernel_rfl) rfl Grows.refl (fun _ _ _ => Grows.trans) (stable_mem ⟨fun _ _ _ h _ => h, fun _ _ _ h _ => h, fun _ _ _ h _ => h, fun _ _ _ h _ => h, fun _ _ _ h _ => h, fun _ _ _ h _ => h, fun _ _ _ h _ => h, fun _ _ _ h _ => h, fun _ _ _ h _ => h, fun _ _ _ h _ => h, fun _ _ _ h _ => h, fun _ _ _ h _ => h, fun _ _ _ h _ => h, fun _ _ _ h _ => h, fun _ _ _ h _ => h, fun _ _ _ h _ => h, fun _ _ _ h _ => h, fun _ _ _ h _ => h, fun _ _ _ h _ => h, fun _ _ _ h _ => h, fun _ _ _ h _ => h, trivial⟩) _ (Below.drew (Below.refl _ _)) trivial ?_
       iterate 8 (refine inv_cons ?_ (fun _ => ?_); · intro L w1 hat hb hI hF; have hc := (Grows.cells hb).1; (try simp [factsI, Region.binds, Is] at hF); go_simp; (try first | exact Grows.refl _ | exact trivial | rfl))
       refine inv_cons ?_ (fun v8 => ?_)
       ·intro L w1 hat hb hI hF; have hc := (Grows.cells hb).1; try simp [factsI, Region.binds, Is] at hF
        go_simp
        exact ⟨Grows.refl _, by simpa using HE.out⟩
       iterate 4 (refine inv_cons ?_ (fun _ => ?_); · intro L w1 hat hb hI hF; have hc := (Grows.cells hb).1; (try simp [factsI, Region.binds, Is] at hF); go_simp; (try first | exact Grows.refl _ | exact trivial | rfl))
       refine inv_cons ?_ (fun v13 => ?_)
       ·intro L w1 hat hb hI hF; have hc := (Grows.cells hb).1; try simp [factsI, Region.binds, Is] at hF
        go_simp
        refine (HCa.out _ (bel_trans hB hb)).mono ?_
        rintro e w2 ⟨rfl, hb2⟩
        exact ⟨rfl, hb2⟩
       iterate 7 (refine inv_cons ?_ (fun _ => ?_); · intro L w1 hat hb hI hF; have hc := (Grows.cells hb).1; (try simp [factsI, Region.binds, Is] at hF); go_simp; (try first | exact Grows.refl _ | exact trivial | rfl))
       refine inv_nil ?_
       intro w1 hb hI hF
       simp [Is, Nat.forall_lt_succ_right] at hF
       have e0 := hF.1.1.1.1.1.1.1.1.1.1.1.1.1.1.1.1.1.1.1.1
       have e1 := hF.1.1.1.1.1.1.1.1.1.1.1.1.1.1.1.1.1.1.1.2
       have e2 := hF.1.1.1.1.1.1.1.1.1.1.1.1.1.1.1.1.1.1.2
       have e3 := hF.1.1.1.1.1.1.1.1.1.1.1.1.1.1.1.1.1.2
       have e4 := hF.1.1.1.1.1.1.1.1.1.1.1.1.1.1.1.1.2
       have e5 := hF.1.1.1.1.1.1.1.1.1.1.1.1.1.1.1.2
       have e6 := hF.1.1.1.1.1.1.1.1.1.1.1.1.1.1.2
       have e7 := hF.1.1.1.1.1.1.1.1.1.1.1.1.1.2
       have e8 := hF.1.1.1.1.1.1.1.1.1.1.1.1.2
       have e9 := hF.1.1.1.1.1.1.1.1.1.1.1.2
       have e10 := hF.1.1.1.1.1.1.1.1.1.1.2
       have e11 := hF.1.1.1.1.1.1.1.1.1.2
       have e12 := hF.1.1.1.1.1.1.1.1.2
       have e13 := hF.1.1.1.1.1.1.1.2
       have e14 := hF.1.1.1.1.1.1.2
       have e15 := hF.1.1.1.1.1.2
       have e16 := hF.1.1.1.1.2
       have e17 := hF.1.1.1.2
       have e18 := hF.1.1.2
       have e19 := hF.1.2
       have e20 := hF.2
       clear hF
       simp only [Act.put, List.setIfInBounds_toArray, List.set_cons_succ, List.set_cons_zero, e0, e1, e2, e3, e4, e5, e6, e7, e8, e9, e10, e11, e12, e13, e14, e15, e20]
       clear e0 e1 e2 e3 e4 e5 e6 e7 e8 e9 e10 e11 e12 e13 e14 e15 e20
       have hB2 := bel_trans hB hb
       have g0' := g0.grow hb
       clear g0 hB hb hI b0 b1 b2 b3 b4 b5 b6 b7 b8 b9 f0 f1 f2 f3 f4 f5 f6 f7 f8 f9 c0 l0
       have HI2 := Lib.hid (below_succ HI.out (by rw [HSH.out]; rfl))
       go_wp2_with fail
       go_roundw
       case rel => exact ⟨j + 1, by omega, by go_num, HI2, g0', hB2⟩
       case measure => simp [intOf]; omega
      | true =>
       cases s with
       | false =>
        refine wp_region_inv Grows (fun _ _ => True) [Is (.slice (some ⟨ab, ao, none⟩) k d), Is (.int .i64 (i : Int)), Is (.pointer (some ⟨ab, ao + i * 10, none⟩)), Is (.agg #[.int .u8 x.1, .int .i64 x.2.1, .int .u64 (pl x.2.2 0), .int .u64 (pl x.2.2 1), .int .u64 (pl x.2.2 2), .int .u64 (pl x.2.2 3), .int .u64 (pl x.2.2 4), .int .u64 (pl x.2.2 5), .int .u64 (pl x.2.2 6), .int .u64 (pl x.2.2 7)]), Is (.slice (some ⟨eb, eo, none⟩) k2 d2), Is (.int .i64 (j : Int)), Is (.pointer (some ⟨eb, eo + j * 10, none⟩)), Is (.agg #[.int .u8 y.1, .int .i64 y.2.1, .int .u64 (pl y.2.2 0), .int .u64 (pl y.2.2 1), .int .u64 (pl y.2.2 2), .int .u64 (pl y.2.2 3), .int .u64 (pl y.2.2 4), .int .u64 (pl y.2.2 5), .int .u64 (pl y.2.2 6), .int .u64 (pl y.2.2 7)]), Is (.bool true), Is (.bool true), Is (.agg #[.int .u64 (pl b 0), .int .u64 (pl b 1), .int .u64 (pl b 2), .int .u64 (pl b 3), .int .u64 (pl b 4), .int .u64 (pl b 5), .int .u64 (pl b 6), .int .u64 (pl b 7), .slice p n c]), Is (.slice (some ⟨ab, ao, none⟩) k d), Is (.int .i64 (i : Int)), Is (.bool true), Is (.bool true), Is (.bool true), Is (.agg #[.int .u64 (pl b 0), .int .u64 (pl b 1), .int .u64 (pl b 2), .int .u64 (pl b 3), .int .u64 (pl b 4), .int .u64 (pl b 5), .int .u64 (pl b 6), .int .u64 (pl b 7), .slice p n c]), Is (.slice (some ⟨eb, eo, none⟩) k2 d2), Is (.int .i64 (j : Int)), Is (.bool false), Is (.bool false)] (by kernel_rfl) (by kernel_rfl) rfl Grows.refl (fun _ _ _ => Grows.trans) (stable_mem ⟨fun _ _ _ h _ => h, fun _ _ _ h _ => h, fun _ _ _ h _ => h, fun _ _ _ h _ => h, fun _ _ _ h _ => h, fun _ _ _ h _ => h, fun _ _ _ h _ => h, fun _ _ _ h _ => h, fun _ _ _ h _ => h, fun _ _ _ h _ => h, fun _ _ _ h _ => h, fun _ _ _ h _ => h, fun _ _ _ h _ => h, fun _ _ _ h _ => h, fun _ _ _ h _ => h, fun _ _ _ h _ => h, fun _ _ _ h _ => h, fun _ _ _ h _ => h, fun _ _ _ h _ => h, fun _ _ _ h _ => h, fun _ _ _ h _ => h, trivial⟩) _ (Below.drew (Below.refl _ _)) trivial ?_
        iterate 8 (refine inv_cons ?_ (fun _ => ?_); · intro L w1 hat hb hI hF; have hc := (Grows.cells hb).1; (try simp [factsI, Region.binds, Is] at hF); go_simp; (try first | exact Grows.refl _ | exact trivial | rfl))
        refine inv_cons ?_ (fun v8 => ?_)
        ·intro L w1 hat hb hI hF; have hc := (Grows.cells hb).1; try simp [factsI, Region.binds, Is] at hF
         go_simp
         exact ⟨Grows.refl _, by simpa using HE.out⟩
        iterate 4 (refine inv_cons ?_ (fun _ => ?_); · intro L w1 hat hb hI hF; have hc := (Grows.cells hb).1; (try simp [factsI, Region.binds, Is] at hF); go_simp; (try first | exact Grows.refl _ | exact trivial | rfl))
        refine inv_cons ?_ (fun v13 => ?_)
        ·intro L w1 hat hb hI hF; have hc := (Grows.cells hb).1; try simp [factsI, Region.binds, Is] at hF
         go_simp
         refine (HCa.out _ (bel_trans hB hb)).mono ?_
         rintro e w2 ⟨rfl, hb2⟩
         exact ⟨rfl, hb2⟩
        iterate 5 (refine inv_cons ?_ (fun _ => ?_); · intro L w1 hat hb hI hF; have hc := (Grows.cells hb).1; (try simp [factsI, Region.binds, Is] at hF); go_simp; (try first | exact Grows.refl _ | exact trivial | rfl))
        refine inv_cons ?_ (fun v19 => ?_)
        ·intro L w1 hat hb hI hF; have hc := (Grows.cells hb).1; try simp [factsI, Region.binds, Is] at hF
         go_simp
         refine (HCb.out _ (bel_trans hB hb)).mono ?_
         rintro e w2 ⟨rfl, hb2⟩
         exact ⟨rfl, hb2⟩
        refine inv_cons ?_ (fun v20 => ?_)
        ·intro L w1 hat hb hI hF; have hc := (Grows.cells hb).1; try simp [factsI, Region.binds, Is] at hF
         go_simp
         try first | exact Grows.refl _ | exact trivial | rfl
        refine inv_nil ?_
        intro w1 hb hI hF
        simp [Is, Nat.forall_lt_succ_right] at hF
        simp only [Act.put, List.setIfInBounds_toArray, List.set_cons_succ, List.set_cons_zero, hF]
        clear hF
        have hB2 := bel_trans hB hb
        have g0' := g0.grow hb
        clear g0 hB hb hI b0 b1 b2 b3 b4 b5 b6 b7 b8 b9 f0 f1 f2 f3 f4 f5 f6 f7 f8 f9 c0 l0
        have HI2 := Lib.hid (below_succ HI.out (by rw [HSH.out]; rfl))
        go_wp2_with fail
        go_roundw
        case rel => exact ⟨j + 1, by omega, by go_num, HI2, g0', hB2⟩
        case measure => simp [intOf]; omega
       | true =>
        refine wp_region_inv Grows (fun _ _ => True) [Is (.slice (some ⟨ab, ao, none⟩) k d), Is (.int .i64 (i : Int)), Is (.pointer (some ⟨ab, ao + i * 10, none⟩)), Is (.agg #[.int .u8 x.1, .int .i64 x.2.1, .int .u64 (pl x.2.2 0), .int .u64 (pl x.2.2 1), .int .u64 (pl x.2.2 2), .int .u64 (pl x.2.2 3), .int .u64 (pl x.2.2 4), .int .u64 (pl x.2.2 5), .int .u64 (pl x.2.2 6), .int .u64 (pl x.2.2 7)]), Is (.slice (some ⟨eb, eo, none⟩) k2 d2), Is (.int .i64 (j : Int)), Is (.pointer (some ⟨eb, eo + j * 10, none⟩)), Is (.agg #[.int .u8 y.1, .int .i64 y.2.1, .int .u64 (pl y.2.2 0), .int .u64 (pl y.2.2 1), .int .u64 (pl y.2.2 2), .int .u64 (pl y.2.2 3), .int .u64 (pl y.2.2 4), .int .u64 (pl y.2.2 5), .int .u64 (pl y.2.2 6), .int .u64 (pl y.2.2 7)]), Is (.bool true), Is (.bool true), Is (.agg #[.int .u64 (pl b 0), .int .u64 (pl b 1), .int .u64 (pl b 2), .int .u64 (pl b 3), .int .u64 (pl b 4), .int .u64 (pl b 5), .int .u64 (pl b 6), .int .u64 (pl b 7), .slice p n c]), Is (.slice (some ⟨ab, ao, none⟩) k d), Is (.int .i64 (i : Int)), Is (.bool true), Is (.bool true), Is (.bool true), Is (.agg #[.int .u64 (pl b 0), .int .u64 (pl b 1), .int .u64 (pl b 2), .int .u64 (pl b 3), .int .u64 (pl b 4), .int .u64 (pl b 5), .int .u64 (pl b 6), .int .u64 (pl b 7), .slice p n c]), Is (.slice (some ⟨eb, eo, none⟩) k2 d2), Is (.int .i64 (j : Int)), Is (.bool true), Is (.bool true)] (by kernel_rfl) (by kernel_rfl) rfl Grows.refl (fun _ _ _ => Grows.trans) (stable_mem ⟨fun _ _ _ h _ => h, fun _ _ _ h _ => h, fun _ _ _ h _ => h, fun _ _ _ h _ => h, fun _ _ _ h _ => h, fun _ _ _ h _ => h, fun _ _ _ h _ => h, fun _ _ _ h _ => h, fun _ _ _ h _ => h, fun _ _ _ h _ => h, fun _ _ _ h _ => h, fun _ _ _ h _ => h, fun _ _ _ h _ => h, fun _ _ _ h _ => h, fun _ _ _ h _ => h, fun _ _ _ h _ => h, fun _ _ _ h _ => h, fun _ _ _ h _ => h, fun _ _ _ h _ => h, fun _ _ _ h _ => h, fun _ _ _ h _ => h, trivial⟩) _ (Below.drew (Below.refl _ _)) trivial ?_
        iterate 8 (refine inv_cons ?_ (fun _ => ?_); · intro L w1 hat hb hI hF; have hc := (Grows.cells hb).1; (try simp [factsI, Region.binds, Is] at hF); go_simp; (try first | exact Grows.refl _ | exact trivial | rfl))
        refine inv_cons ?_ (fun v8 => ?_)
        ·intro L w1 hat hb hI hF; have hc := (Grows.cells hb).1; try simp [factsI, Region.binds, Is] at hF
         go_simp
         exact ⟨Grows.refl _, by simpa using HE.out⟩
        iterate 4 (refine inv_cons ?_ (fun _ => ?_); · intro L w1 hat hb hI hF; have hc := (Grows.cells hb).1; (try simp [factsI, Region.binds, Is] at hF); go_simp; (try first | exact Grows.refl _ | exact trivial | rfl))
        refine inv_cons ?_ (fun v13 => ?_)
        ·intro L w1 hat hb hI hF; have hc := (Grows.cells hb).1; try simp [factsI, Region.binds, Is] at hF
         go_simp
         refine (HCa.out _ (bel_trans hB hb)).mono ?_
         rintro e w2 ⟨rfl, hb2⟩
         exact ⟨rfl, hb2⟩
        iterate 5 (refine inv_cons ?_ (fun _ => ?_); · intro L w1 hat hb hI hF; have hc := (Grows.cells hb).1; (try simp [factsI, Region.binds, Is] at hF); go_simp; (try first | exact Grows.refl _ | exact trivial | rfl))
        refine inv_cons ?_ (fun v19 => ?_)
        ·intro L w1 hat hb hI hF; have hc := (Grows.cells hb).1; try simp [factsI, Region.binds, Is] at hF
         go_simp
         refine (HCb.out _ (bel_trans hB hb)).mono ?_
         rintro e w2 ⟨rfl, hb2⟩
         exact ⟨rfl, hb2⟩
        refine inv_cons ?_ (fun v20 => ?_)
        ·intro L w1 hat hb hI hF; have hc := (Grows.cells hb).1; try simp [factsI, Region.binds, Is] at hF
         go_simp
         try first | exact Grows.refl _ | exact trivial | rfl
        refine inv_nil ?_
        intro w1 hb hI hF
        simp [Is, Nat.forall_lt_succ_right] at hF
        simp only [Act.put, List.setIfInBounds_toArray, List.set_cons_succ, List.set_cons_zero, hF]
        clear hF
        have hB2 := bel_trans hB hb
        have g0' := g0.grow hb
        clear g0 hB hb hI b0 b1 b2 b3 b4 b5 b6 b7 b8 b9 f0 f1 f2 f3 f4 f5 f6 f7 f8 f9 c0 l0
        have hRv : R = turnVal (some (i, j)) := by
         rw [← HR.out, sharedR_hit (by rw [HA.out.2]; exact h0) (by rw [HB.out.2]; exact h1) HO.out HI.out (by rw [HSH.out]; rfl)]
        subst hRv
        clear HR
        go_wp2_with fail
        refine bodyPost_ret (v := .tuple #[.int .i64 (i : Int), .int .i64 (j : Int), .bool true]) (by simp [results, Tryz.results165, go_sem]) rfl ⟨rfl, hB2⟩
    ·have hjk : j = k2 := by omega
     subst hjk
     have HO2 := Lib.hid (below_succ HO.out (by intro k' hk'; exact HI.out k' (by rw [← HB.out.2]; exact hk')))
     go_wp2_with fail
     go_roundw
     case rel => exact ⟨i + 1, by omega, by go_num, HO2, g0, hB⟩
     case measure => simp [intOf]; omega
  ·have hik : i = k := by omega
   subst hik
   have hRv : R = turnVal none := by
    rw [← HR.out, sharedR_miss (by intro i' hi'; exact HO.out i' (by rw [← HA.out.2]; exact hi'))]
   subst hRv
   clear HR
   go_wp2_with fail
   refine bodyPost_ret (v := .tuple #[.int .i64 0, .int .i64 0, .bool false]) (by simp [results, Tryz.results165, go_sem]) rfl ⟨rfl, hB⟩
end Go.Proofs.YtccnkebkgegohaaGreatDoor
end
