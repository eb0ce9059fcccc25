import Derived.Test.YtccnkebkgegohaaGreatDoorHV12
import Derived.Test.YtccnkebkgegohaaGreatDoorHR2
/-
  Given contracts of functions of the program, and laws for them, one behind the other.
-/
set_option linter.unusedVariables false
set_option linter.unusedSimpArgs false
set_option linter.unusedSectionVars false
section
namespace Go.Proofs.YtccnkebkgegohaaGreatDoor
open Go.RowKit Go.Rel
set_option maxRecDepth 100000
/-! rest, of the reference -/
def restPost (l : List Sol) (R : Option (List Ac)) (w : World) (e : Ending) (w' : World) : Prop := match R with
 | none => e = .returned (.tuple #[.slice none 0 0, .bool false]) ∧ Below w.heap.size w w'
 | some r => ∃ u, e = .returned (.tuple #[u, .bool true]) ∧ OwnA w' w.heap.size u (nrm l r) ∧ Below w.heap.size w w'
def fiP (l : List Sol) (y : Ac) (m : List Ac) (j : Nat) : Bool := (atN m j == y) && freeL l m j
theorem fiP_at {l : List Sol} {m : List Ac} {j : Nat} {x y : Ac} (hx : m[j]? = some x) : fiP l y m j = ((x == y) && freeL l m j) := by
 have ex : atN m j = x := by unfold atN; rw [List.getD_eq_getElem?_getD, hx]; rfl
 unfold fiP
 rw [ex]
theorem drop_at {m : List Ac} {i : Nat} {x : Ac} (hx : m[i]? = some x) : m.drop i = x :: m.drop (i + 1) := by
 obtain ⟨hi, rfl⟩ := List.getElem?_eq_some_iff.1 hx
 exact List.drop_eq_getElem_cons hi
set_option maxHeartbeats 16000000 in
theorem rest125_spec (b : Sol) (p q r0 : Option Addr) (n c k d j0 e0 : Nat) (l : List Sol) (mg ml : List Ac) (w : World) (F : Fine l ml) (Hv : SlS w (.slice p n c) l) (Hg : SlA w (.slice q k d) mg) (Hl : SlN w (.slice r0 j0 e0) ml) (hj : j0 ≤ e0 ∧ e0 ≤ 9223372036854775807 ∧ j0 ≤ 1048576) (hkk : k ≤ 1048576) :
  Calls Tryz.prog 125 #[.agg #[.int .u64 (pl b 0), .int .u64 (pl b 1), .int .u64 (pl b 2), .int .u64 (pl b 3), .int .u64 (pl b 4), .int .u64 (pl b 5), .int .u64 (pl b 6), .int .u64 (pl b 7), .slice p n c], .slice q k d, .slice r0 j0 e0] w (restPost l (restR l mg ml) w) := by
 have hkg := sl_len Hg
 have hkl := sl_len Hl.1
 obtain ⟨R, hR⟩ : ∃ R, restR l mg ml = R := ⟨_, rfl⟩
 rw [hR]
 have HR : Hid (restR l (mg.drop 0) ml = R) := Lib.hid (by rw [List.drop_zero]; exact hR)
 have HV := Lib.hid Hv
 have HG := Lib.hid (And.intro Hg hkg)
 have HM := Lib.hid (And.intro Hl (And.intro hkl F))
 clear hR Hv Hg Hl F hkg hkl
 go_enter Tryz.func125, Tryz.ntmps125
 go_wp2_with fail
 have hbe : Below w.heap.size w (w.alloc (.cells (#[.int .u64 (pl b 0), .int .u64 (pl b 1), .int .u64 (pl b 2), .int .u64 (pl b 3), .int .u64 (pl b 4), .int .u64 (pl b 5), .int .u64 (pl b 6), .int .u64 (pl b 7), .slice p n c] : Array Value) 27)) := bel_alloc (bel_refl _) _
 have g0 : Blk (w.alloc (.cells (#[.int .u64 (pl b 0), .int .u64 (pl b 1), .int .u64 (pl b 2), .int .u64 (pl b 3), .int .u64 (pl b 4), .int .u64 (pl b 5), .int .u64 (pl b 6), .int .u64 (pl b 7), .slice p n c] : Array Value) 27)) w.heap.size #[.int .u64 (pl b 0), .int .u64 (pl b 1), .int .u64 (pl b 2), .int .u64 (pl b 3), .int .u64 (pl b 4), .int .u64 (pl b 5), .int .u64 (pl b 6), .int .u64 (pl b 7), .slice p n c] 27 := Blk.new _ _ _
 generalize (w.alloc (.cells (#[.int .u64 (pl b 0), .int .u64 (pl b 1), .int .u64 (pl b 2), .int .u64 (pl b 3), .int .u64 (pl b 4), .int .u64 (pl b 5), .int .u64 (pl b 6), .int .u64 (pl b 7), .slice p n c] : Array Value) 27)) = w0 at *
 go_loopw [2, 8] (fun tv iv wr => ∃ (i : Nat) (r : Option Addr) (j e : Nat) (ml : List Ac), i ≤ k ∧ tv = .slice r j e ∧ iv = .int .i64 i ∧ Hid (j ≤ e ∧ e ≤ 9223372036854775807 ∧ j ≤ 1048576) ∧ Hid (SlN wr (.slice r j e) ml ∧ ml.length = j ∧ Fine l ml) ∧ Hid (restR l (mg.drop i) ml = R) ∧ Blk wr w.heap.size #[.int .u64 (pl b 0), .int .u64 (pl b 1), .int .u64 (pl b 2), .int .u64 (pl b 3), .int .u64 (pl b 4), .int .u64 (pl b 5), .int .u64 (pl b 6), .int .u64 (pl b 7), .slice p n c] 27 ∧ Below w.heap.size w wr) (fun _ iv _ => k - (intOf iv).toNat)
 case atStart => exact ⟨0, r0, j0, e0, ml, Nat.zero_le _, rfl, rfl, Lib.hid hj, Lib.hid ⟨HM.out.1.mono hbe, HM.out.2⟩, HR, g0, hbe⟩
 case round =>
  clear g0 hbe hj HM HR
  obtain ⟨i, r, j, e, ml, hi, rfl, rfl, HN, HM, HR, g0, hB⟩ := hrel
  have hjb : j ≤ 1048576 := HN.out.2.2
  obtain ⟨W1, hW⟩ : ∃ W1, W1 = wr := ⟨_, rfl⟩
  subst hW
  by_cases h0 : i < k
  ·have hkg := HG.out.2
   have hy : mg[i]? = some (mg[i]'(by omega)) := by simp
   generalize mg[i]'(by omega) = y at hy
   obtain ⟨eb, eo, rfl, hcs2⟩ := acs_at HG.out.1 hy
   have heb := hcs2.1
   have HY := Lib.hid (And.intro hy hcs2)
   have HR2 : Hid (restR l (y :: mg.drop (i + 1)) ml = R) := Lib.hid (by rw [← drop_at hy]; exact HR.out)
   have HF : Hid (∀ (i : Nat) w', i < ml.length → Below W1.heap.size W1 w' → Calls Tryz.prog 112 #[.agg #[.int .u64 (pl b 0), .int .u64 (pl b 1), .int .u64 (pl b 2), .int .u64 (pl b 3), .int .u64 (pl b 4), .int .u64 (pl b 5), .int .u64 (pl b 6), .int .u64 (pl b 7), .slice p n c], .slice r j e, .int .i64 (i : Int)] w' fun e w'' => e = .returned (.bool (freeL l ml i)) ∧ Below w'.heap.size w' w'') := Lib.hid fun i w' hi hb => free112_spec b _ _ l ml i hi HM.out.2.2.fit w' (HV.out.mono (bel_trans hB hb)) (HM.out.1.1.mono hb)
   clear hy hcs2 hkg HR
   go_wp2_with fail
   have hwr : Below W1.heap.size W1 W1 := Below.refl _ _
   go_loopw [9, 10] (fun av kv wr => ∃ (s : Nat) (a : Int), s ≤ j ∧ kv = .int .i64 s ∧ av = .int .i64 a ∧ ((a = -1 ∧ Hid (∀ k', k' < s → fiP l y ml k' = false)) ∨ ∃ m : Nat, m < j ∧ a = (m : Int) ∧ Hid (firstR l y ml = some m)) ∧ Blk wr w.heap.size #[.int .u64 (pl b 0), .int .u64 (pl b 1), .int .u64 (pl b 2), .int .u64 (pl b 3), .int .u64 (pl b 4), .int .u64 (pl b 5), .int .u64 (pl b 6), .int .u64 (pl b 7), .slice p n c] 27 ∧ Below W1.heap.size W1 wr) (fun _ kv _ => j - (intOf kv).toNat)
   case atStart => exact ⟨0, -1, Nat.zero_le _, rfl, rfl, .inl ⟨rfl, Lib.hid (fun i' h => absurd h (Nat.not_lt_zero _))⟩, g0, hwr⟩
   case round =>
    clear g0 hwr
    obtain ⟨s, a, hs, rfl, rfl, hst, g0, hb4⟩ := hrel
    rcases hst with ⟨rfl, HI⟩ | ⟨m, hm, rfl, HI⟩
    ·by_cases h1 : s < j
     ·have hkl := HM.out.2.1
      have hx : ml[s]? = some (ml[s]'(by omega)) := by simp
      generalize ml[s]'(by omega) = x at hx
      obtain ⟨ab, ao, rfl, hcs⟩ := acs_at HM.out.1.1 hx
      have hab := hcs.1
      have c0 := g0.cell
      have l0 := g0.lt
      have labr : ab < wr.heap.size := Nat.lt_of_lt_of_le hab hb4.size
      have hB4 := bel_trans hB hb4
      have lebr : eb < wr.heap.size := Nat.lt_of_lt_of_le heb hB4.size
      obtain ⟨b0, b1, b2, b3, b4, b5, b6, b7, b8, b9⟩ := ac_cells (hcs.mono hb4 hcs.1) hx
      obtain ⟨d0, d1, d2, d3, d4, d5, d6, d7, d8, d9⟩ := ac_cells (HY.out.2.mono hB4 HY.out.2.1) HY.out.1
      obtain ⟨t, ht⟩ : ∃ t, (x == y) = t := ⟨_, rfl⟩
      obtain ⟨f, hf⟩ : ∃ f, freeL l ml s = f := ⟨_, rfl⟩
      have HE := Lib.hid ht
      have HFI : Hid (fiP l y ml s = (t && f)) := Lib.hid (by rw [fiP_at hx, ht, hf])
      have HC : Hid (∀ w', Below W1.heap.size W1 w' → Calls Tryz.prog 112 #[.agg #[.int .u64 (pl b 0), .int .u64 (pl b 1), .int .u64 (pl b 2), .int .u64 (pl b 3), .int .u64 (pl b 4), .int .u64 (pl b 5), .int .u64 (pl b 6), .int .u64 (pl b 7), .slice p n c], .slice (some ⟨ab, ao, none⟩) j e, .int .i64 (s : Int)] w' fun e w'' => e = .returned (.bool f) ∧ Below w'.heap.size w' w'') := by
       subst hf; exact Lib.hid fun w' hb => HF.out s w' (by omega) hb
      clear ht hf hx hcs hkl hB4
      go_wp2_with fail
      cases t with
      | false =>
       refine wp_region_inv Grows (fun _ _ => True) [Is (.slice (some ⟨ab, ao, none⟩) j e), Is (.int .i64 (s : Int)), Is (.pointer (some ⟨ab, ao + s * 10, none⟩)), Is (.agg #[.int .u8 x.1, .int .i64 x.2.1, .int .u64 (pl x.2.2 0), .int .u64 (pl x.2.2 1), .int .u64 (pl x.2.2 2), .int .u64 (pl x.2.2 3), .int .u64 (pl x.2.2 4), .int .u64 (pl x.2.2 5), .int .u64 (pl x.2.2 6), .int .u64 (pl x.2.2 7)]), Is (.slice (some ⟨eb, eo, none⟩) k d), Is (.int .i64 (i : Int)), Is (.pointer (some ⟨eb, eo + i * 10, none⟩)), Is (.agg #[.int .u8 y.1, .int .i64 y.2.1, .int .u64 (pl y.2.2 0), .int .u64 (pl y.2.2 1), .int .u64 (pl y.2.2 2), .int .u64 (pl y.2.2 3), .int .u64 (pl y.2.2 4), .int .u64 (pl y.2.2 5), .int .u64 (pl y.2.2 6), .int .u64 (pl y.2.2 7)]), Is (.bool false), Is (.bool false), AnyV, AnyV, AnyV, AnyV, Is (.bool false)] (by kernel_rfl) (by kernel_rfl) rfl Grows.refl (fun _ _ _ => Grows.trans) (stable_mem ⟨fun _ _ _ h _ => h, fun _ _ _ h _ => h, fun _ _ _ h _ => h, fun _ _ _ h _ => h, fun _ _ _ h _ => h, fun _ _ _ h _ => h, fun _ _ _ h _ => h, fun _ _ _ h _ => h, fun _ _ _ h _ => h, fun _ _ _ h _ => h, fun _ _ _ h _ => h, fun _ _ _ h _ => h, fun _ _ _ h _ => h, fun _ _ _ h _ => h, fun _ _ _ h _ => h, trivial⟩) _ (Below.drew (Below.refl _ _)) trivial ?_
       iterate 8 (refine inv_cons ?_ (fun _ => ?_); · intro L w1 hat hb hI hF; have hc := (Grows.cells hb).1; (try simp [factsI, Region.binds, Is] at hF); go_simp; (try first | exact Grows.refl _ | exact trivial | rfl))
       refine inv_cons ?_ (fun v8 => ?_)
       ·intro L w1 hat hb hI hF; have hc := (Grows.cells hb).1; try simp [factsI, Region.binds, Is] at hF
        go_simp
        exact ⟨Grows.refl _, by simpa using HE.out⟩
       iterate 6 (refine inv_cons ?_ (fun _ => ?_); · intro L w1 hat hb hI hF; have hc := (Grows.cells hb).1; (try simp [factsI, Region.binds, Is] at hF); go_simp; (try first | exact Grows.refl _ | exact trivial | rfl))
       refine inv_nil ?_
       intro w1 hb hI hF
       simp [Is, Nat.forall_lt_succ_right] at hF
       have e0 := hF.1.1.1.1.1.1.1.1.1.1.1.1.1.1
       have e1 := hF.1.1.1.1.1.1.1.1.1.1.1.1.1.2
       have e2 := hF.1.1.1.1.1.1.1.1.1.1.1.1.2
       have e3 := hF.1.1.1.1.1.1.1.1.1.1.1.2
       have e4 := hF.1.1.1.1.1.1.1.1.1.1.2
       have e5 := hF.1.1.1.1.1.1.1.1.1.2
       have e6 := hF.1.1.1.1.1.1.1.1.2
       have e7 := hF.1.1.1.1.1.1.1.2
       have e8 := hF.1.1.1.1.1.1.2
       have e9 := hF.1.1.1.1.1.2
       have e10 := hF.1.1.1.1.2
       have e11 := hF.1.1.1.2
       have e12 := hF.1.1.2
       have e13 := hF.1.2
       have e14 := hF.2
       clear hF
       simp only [Act.put, List.setIfInBounds_toArray, List.set_cons_succ, List.set_cons_zero, e0, e1, e2, e3, e4, e5, e6, e7, e8, e9, e14]
       clear e0 e1 e2 e3 e4 e5 e6 e7 e8 e9 e14
       have hb5 := bel_trans hb4 hb
       have g0' := g0.grow hb
       clear g0 hb4 hb hI b0 b1 b2 b3 b4 b5 b6 b7 b8 b9 d0 d1 d2 d3 d4 d5 d6 d7 d8 d9 c0 l0
       have HI2 := Lib.hid (below_succ HI.out (by rw [HFI.out]; rfl))
       go_wp2_with fail
       go_roundw
       case rel => exact ⟨s + 1, -1, by omega, by go_num, rfl, .inl ⟨rfl, HI2⟩, g0', hb5⟩
       case measure => simp [intOf]; omega
      | true =>
       cases f with
       | false =>
        refine wp_region_inv Grows (fun _ _ => True) [Is (.slice (some ⟨ab, ao, none⟩) j e), Is (.int .i64 (s : Int)), Is (.pointer (some ⟨ab, ao + s * 10, none⟩)), Is (.agg #[.int .u8 x.1, .int .i64 x.2.1, .int .u64 (pl x.2.2 0), .int .u64 (pl x.2.2 1), .int .u64 (pl x.2.2 2), .int .u64 (pl x.2.2 3), .int .u64 (pl x.2.2 4), .int .u64 (pl x.2.2 5), .int .u64 (pl x.2.2 6), .int .u64 (pl x.2.2 7)]), Is (.slice (some ⟨eb, eo, none⟩) k d), Is (.int .i64 (i : Int)), Is (.pointer (some ⟨eb, eo + i * 10, none⟩)), Is (.agg #[.int .u8 y.1, .int .i64 y.2.1, .int .u64 (pl y.2.2 0), .int .u64 (pl y.2.2 1), .int .u64 (pl y.2.2 2), .int .u64 (pl y.2.2 3), .int .u64 (pl y.2.2 4), .int .u64 (pl y.2.2 5), .int .u64 (pl y.2.2 6), .int .u64 (pl y.2.2 7)]), Is (.bool true), Is (.bool true), Is (.agg #[.int .u64 (pl b 0), .int .u64 (pl b 1), .int .u64 (pl b 2), .int .u64 (pl b 3), .int .u64 (pl b 4), .int .u64 (pl b 5), .int .u64 (pl b 6), .int .u64 (pl b 7), .slice p n c]), Is (.slice (some ⟨ab, ao, none⟩) j e), Is (.int .i64 (s : Int)), Is (.bool false), Is (.bool false)] (by kernel_rfl) (by kernel_rfl) rfl Grows.refl (fun _ _ _ => Grows.trans) (stable_mem ⟨fun _ _ _ h _ => h, fun _ _ _ h _ => h, fun _ _ _ h _ => h, fun _ _ _ h _ => h, fun _ _ _ h _ => h, fun _ _ _ h _ => h, fun _ _ _ h _ => h, fun _ _ _ h _ => h, fun _ _ _ h _ => h, fun _ _ _ h _ => h, fun _ _ _ h _ => h, fun _ _ _ h _ => h, fun _ _ _ h _ => h, fun _ _ _ h _ => h, fun _ _ _ h _ => h, trivial⟩) _ (Below.drew (Below.refl _ _)) trivial ?_
        iterate 8 (refine inv_cons ?_ (fun _ => ?_); · intro L w1 hat hb hI hF; have hc := (Grows.cells hb).1; (try simp [factsI, Region.binds, Is] at hF); go_simp; (try first | exact Grows.refl _ | exact trivial | rfl))
        refine inv_cons ?_ (fun v8 => ?_)
        ·intro L w1 hat hb hI hF; have hc := (Grows.cells hb).1; try simp [factsI, Region.binds, Is] at hF
         go_simp
         exact ⟨Grows.refl _, by simpa using HE.out⟩
        iterate 4 (refine inv_cons ?_ (fun _ => ?_); · intro L w1 hat hb hI hF; have hc := (Grows.cells hb).1; (try simp [factsI, Region.binds, Is] at hF); go_simp; (try first | exact Grows.refl _ | exact trivial | rfl))
        refine inv_cons ?_ (fun v13 => ?_)
        ·intro L w1 hat hb hI hF; have hc := (Grows.cells hb).1; try simp [factsI, Region.binds, Is] at hF
         go_simp
         refine (HC.out _ (bel_trans hb4 hb)).mono ?_
         rintro e w2 ⟨rfl, hb2⟩
         exact ⟨rfl, hb2⟩
        refine inv_cons ?_ (fun v14 => ?_)
        ·intro L w1 hat hb hI hF; have hc := (Grows.cells hb).1; try simp [factsI, Region.binds, Is] at hF
         go_simp
         try first | exact Grows.refl _ | exact trivial | rfl
        refine inv_nil ?_
        intro w1 hb hI hF
        simp [Is, Nat.forall_lt_succ_right] at hF
        simp only [Act.put, List.setIfInBounds_toArray, List.set_cons_succ, List.set_cons_zero, hF]
        clear hF
        have hb5 := bel_trans hb4 hb
        have g0' := g0.grow hb
        clear g0 hb4 hb hI b0 b1 b2 b3 b4 b5 b6 b7 b8 b9 d0 d1 d2 d3 d4 d5 d6 d7 d8 d9 c0 l0
        have HI2 := Lib.hid (below_succ HI.out (by rw [HFI.out]; rfl))
        go_wp2_with fail
        go_roundw
        case rel => exact ⟨s + 1, -1, by omega, by go_num, rfl, .inl ⟨rfl, HI2⟩, g0', hb5⟩
        case measure => simp [intOf]; omega
       | true =>
        refine wp_region_inv Grows (fun _ _ => True) [Is (.slice (some ⟨ab, ao, none⟩) j e), Is (.int .i64 (s : Int)), Is (.pointer (some ⟨ab, ao + s * 10, none⟩)), Is (.agg #[.int .u8 x.1, .int .i64 x.2.1, .int .u64 (pl x.2.2 0), .int .u64 (pl x.2.2 1), .int .u64 (pl x.2.2 2), .int .u64 (pl x.2.2 3), .int .u64 (pl x.2.2 4), .int .u64 (pl x.2.2 5), .int .u64 (pl x.2.2 6), .int .u64 (pl x.2.2 7)]), Is (.slice (some ⟨eb, eo, none⟩) k d), Is (.int .i64 (i : Int)), Is (.pointer (some ⟨eb, eo + i * 10, none⟩)), Is (.agg #[.int .u8 y.1, .int .i64 y.2.1, .int .u64 (pl y.2.2 0), .int .u64 (pl y.2.2 1), .int .u64 (pl y.2.2 2), .int .u64 (pl y.2.2 3), .int .u64 (pl y.2.2 4), .int .u64 (pl y.2.2 5), .int .u64 (pl y.2.2 6), .int .u64 (pl y.2.2 7)]), Is (.bool true), Is (.bool true), Is (.agg #[.int .u64 (pl b 0), .int .u64 (pl b 1), .int .u64 (pl b 2), .int .u64 (pl b 3), .int .u64 (pl b 4), .int .u64 (pl b 5), .int .u64 (pl b 6), .int .u64 (pl b 7), .slice p n c]), Is (.slice (some ⟨ab, ao, none⟩) j e), Is (.int .i64 (s : Int)), Is (.bool true), Is (.bool true)] (by kernel_rfl) (by kernel_rfl) rfl Grows.refl (fun _ _ _ => Grows.trans) (stable_mem ⟨fun _ _ _ h _ => h, fun _ _ _ h _ => h, fun _ _ _ h _ => h, fun _ _ _ h _ => h, fun _ _ _ h _ => h, fun _ _ _ h _ => h, fun _ _ _ h _ => h, fun _ _ _ h _ => h, fun _ _ _ h _ => h, fun _ _ _ h _ => h, fun _ _ _ h _ => h, fun _ _ _ h _ => h, fun _ _ _ h _ => h, fun _ _ _ h _ => h, fun _ _ _ h _ => h, trivial⟩) _ (Below.drew (Below.refl _ _)) trivial ?_
        iterate 8 (refine inv_cons ?_ (fun _ => ?_); · intro L w1 hat hb hI hF; have hc := (Grows.cells hb).1; (try simp [factsI, Region.binds, Is] at hF); go_simp; (try first | exact Grows.refl _ | exact trivial | rfl))
        refine inv_cons ?_ (fun v8 => ?_)
        ·intro L w1 hat hb hI hF; have hc := (Grows.cells hb).1; try simp [factsI, Region.binds, Is] at hF
         go_simp
         exact ⟨Grows.refl _, by simpa using HE.out⟩
        iterate 4 (refine inv_cons ?_ (fun _ => ?_); · intro L w1 hat hb hI hF; have hc := (Grows.cells hb).1; (try simp [factsI, Region.binds, Is] at hF); go_simp; (try first | exact Grows.refl _ | exact trivial | rfl))
        refine inv_cons ?_ (fun v13 => ?_)
        ·intro L w1 hat hb hI hF; have hc := (Grows.cells hb).1; try simp [factsI, Region.binds, Is] at hF
         go_simp
         refine (HC.out _ (bel_trans hb4 hb)).mono ?_
         rintro e w2 ⟨rfl, hb2⟩
         exact ⟨rfl, hb2⟩
        refine inv_cons ?_ (fun v14 => ?_)
        ·intro L w1 hat hb hI hF; have hc := (Grows.cells hb).1; try simp [factsI, Region.binds, Is] at hF
         go_simp
         try first | exact Grows.refl _ | exact trivial | rfl
        refine inv_nil ?_
        intro w1 hb hI hF
        simp [Is, Nat.forall_lt_succ_right] at hF
        simp only [Act.put, List.setIfInBounds_toArray, List.set_cons_succ, List.set_cons_zero, hF]
        clear hF
        have hb5 := bel_trans hb4 hb
        have g0' := g0.grow hb
        clear g0 hb4 hb hI b0 b1 b2 b3 b4 b5 b6 b7 b8 b9 d0 d1 d2 d3 d4 d5 d6 d7 d8 d9 c0 l0
        have HI2 : Hid (firstR l y ml = some s) := Lib.hid (firstR_hit (by rw [HM.out.2.1]; exact h1) HI.out HFI.out)
        go_wp2_with fail
        go_roundw
        case rel => exact ⟨s + 1, s, by omega, by go_num, rfl, .inr ⟨s, h1, rfl, HI2⟩, g0', hb5⟩
        case measure => simp [intOf]; omega
     ·have hsj : s = j := by omega
      subst hsj
      have hRv : R = none := by
       rw [← HR2.out, restR_stop (firstR_miss (by intro k' hk'; exact HI.out k' (by rw [← HM.out.2.1]; exact hk')))]
      subst hRv
      have hB4 := bel_trans hB hb4
      go_wp2_with fail
      refine bodyPost_ret (v := .tuple #[.slice none 0 0, .bool false]) (by simp [results, Tryz.results125, go_sem]) rfl ⟨rfl, hB4⟩
    ·have hkl := HM.out.2.1
     have HR3 : Hid (restR l (mg.drop (i + 1)) (dropL ml m) = R) := Lib.hid (by rw [← HR2.out, restR_cons HI.out])
     have hlen : (dropL ml m).length = j - 1 := by rw [dropL_len (by omega), hkl]
     have hB4 := bel_trans hB hb4
     have HS : Hid (∀ w', Below wr.heap.size wr w' → Calls Tryz.prog 121 #[.slice r j e, .int .i64 (m : Int)] w' fun e w'' => ∃ bw, e = .returned bw ∧ OwnA w'' w'.heap.size bw (dropL ml m) ∧ Below w'.heap.size w' w'') := Lib.hid fun w' hb => drop121_spec _ j e m ml w' (HM.out.1.mono (bel_trans hb4 hb)) hkl hm HN.out.1 HN.out.2.1 HN.out.2.2
     have hmn : ¬ ((m : Int) < 0) := by omega
     clear hkl hb4
     by_cases h1 : s < j
     ·skip
      go_wp2_with fail
      refine (HS.out _ (Below.refl _ _)).mono ?_
      rintro e0 w2 ⟨bw, rfl, hO, hb⟩
      obtain ⟨q4, d4, rfl, hd4, hd4m⟩ := own_shapeK hO hlen
      have HM2 := Lib.hid (And.intro (OwnA.sln hO) (And.intro hlen (HM.out.2.2.sub (m' := dropL ml m) fun a ha => dropL_sub ha)))
      have HN2 : Hid (j - 1 ≤ d4 ∧ d4 ≤ 9223372036854775807 ∧ j - 1 ≤ 1048576) := Lib.hid ⟨hd4, hd4m, by have := HN.out.2.2; omega⟩
      have hB5 := bel_trans hB4 hb
      have g5 := g0.grow hb
      clear hO hb g0
      go_wp2_with fail
      go_roundw
      case rel => exact ⟨i + 1, q4, j - 1, d4, dropL ml m, by omega, rfl, by go_num, HN2, HM2, HR3, g5, hB5⟩
      case measure => simp [intOf]; omega
     ·have hsj : j = s := by omega
      subst hsj
      go_wp2_with fail
      refine (HS.out _ (Below.refl _ _)).mono ?_
      rintro e0 w2 ⟨bw, rfl, hO, hb⟩
      obtain ⟨q4, d4, rfl, hd4, hd4m⟩ := own_shapeK hO hlen
      have HM2 := Lib.hid (And.intro (OwnA.sln hO) (And.intro hlen (HM.out.2.2.sub (m' := dropL ml m) fun a ha => dropL_sub ha)))
      have HN2 : Hid (j - 1 ≤ d4 ∧ d4 ≤ 9223372036854775807 ∧ j - 1 ≤ 1048576) := Lib.hid ⟨hd4, hd4m, by have := HN.out.2.2; omega⟩
      have hB5 := bel_trans hB4 hb
      have g5 := g0.grow hb
      clear hO hb g0
      go_wp2_with fail
      go_roundw
      case rel => exact ⟨i + 1, q4, j - 1, d4, dropL ml m, by omega, rfl, by go_num, HN2, HM2, HR3, g5, hB5⟩
      case measure => simp [intOf]; omega
  ·have hik : i = k := by omega
   subst hik
   have hkg := HG.out.2
   have hRv : R = some ml := by rw [← HR.out, List.drop_of_length_le (by omega)]; rfl
   subst hRv
   have c0 := g0.cell
   have l0 := g0.lt
   clear hkg HR
   go_wp2_with fail
   refine (normal123_main b p n c r j e l ml _ HM.out.2.2 (HV.out.mono hB) HM.out.1 HM.out.2.1 HN.out.1 HN.out.2.1 HN.out.2.2).mono ?_
   rintro e0 w2 ⟨x, rfl, hO, hb⟩
   have hO2 : OwnA w2 w.heap.size x (nrm l ml) := by
    rw [← normR_eq HM.out.2.2, HM.out.2.1]
    exact own_weak hO hB.size
   have HO2 := Lib.hid hO2
   have hB2 := bel_trans hB hb
   clear hO hO2 hb c0 l0
   go_wp2_with fail
   refine bodyPost_ret (v := .tuple #[x, .bool true]) (by simp [results, Tryz.results125, go_sem]) rfl ?_
   exact ⟨x, rfl, HO2.out, hB2⟩
end Go.Proofs.YtccnkebkgegohaaGreatDoor
end
