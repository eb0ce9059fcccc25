import Derived.Test.YtccnkebkgegohaaGreatDoorHY7
import Derived.Test.YtccnkebkgegohaaGreatDoorHV12
import Derived.Test.YtccnkebkgegohaaGreatDoorHR2
/-
  Given contracts of functions of the program, and laws for them, one behind the other.
-/
set_option linter.unusedVariables false
set_option linter.unusedSimpArgs false
set_option linter.unusedSectionVars false
section
namespace Go.Proofs.YtccnkebkgegohaaGreatDoor
open Go.RowKit Go.Rel
set_option maxRecDepth 100000
/-! Conflict, of the reference -/
theorem own_rowL {G base : Nat} {W : World} {v : Value} {xs : List Ac} (h : OwnA W base v xs) (hG : G < base) (cs : Array Value) : OwnA (W.setRow G cs) base v xs := by
 obtain ⟨hl, h | ⟨g, cap, cur, hv, hg, hh, hr⟩⟩ := h
 ·exact ⟨hl, .inl h⟩
 ·exact ⟨hl, .inr ⟨g, cap, cur, hv, hg, (setRow_other W G g cs (by omega)).trans hh, hr⟩⟩
structure InvC (g4 g5 base : Nat) (sa sb : Value) (A B : List Ac) (x y : Ac) (p q : Bool) (W : World) : Prop where
 a : Blk W g4 (bif p then acA x else zeroA) 46
 b : Blk W g5 (bif q then acA y else zeroA) 46
 oa : OwnA W base sa A
 ob : OwnA W base sb B
 lt : g4 < g5 ∧ g5 < base
section
variable {g4 g5 base : Nat} {sa sb : Value} {A B : List Ac} {x y : Ac} {p q : Bool} {W : World}
theorem InvC.grow {W' : World} (H : InvC g4 g5 base sa sb A B x y p q W) (hb : Below W.heap.size W W') : InvC g4 g5 base sa sb A B x y p q W' := ⟨H.a.grow hb, H.b.grow hb, own_grow H.oa hb, own_grow H.ob hb, H.lt⟩
theorem InvC.set1 (H : InvC g4 g5 base sa sb A B x y p q W) : InvC g4 g5 base sa sb A B x y true q (W.setRow g4 (acA x)) := ⟨H.a.rowS _, H.b.rowO _ (by have := H.lt; omega), own_rowL H.oa (by have := H.lt; omega) _, own_rowL H.ob (by have := H.lt; omega) _, H.lt⟩
theorem InvC.set2 (H : InvC g4 g5 base sa sb A B x y p q W) : InvC g4 g5 base sa sb A B x y p true (W.setRow g5 (acA y)) := ⟨H.a.rowO _ (by have := H.lt; omega), H.b.rowS _, own_rowL H.oa H.lt.2 _, own_rowL H.ob H.lt.2 _, H.lt⟩
end
theorem own_cells {W : World} {base k d : Nat} {q : Option Addr} {m : List Ac} {i : Nat} {x : Ac} (h : OwnA W base (.slice q k d) m) (hx : m[i]? = some x) : ∃ b o, q = some ⟨b, o, none⟩ ∧ Cells W b o 10 (m.map acL) := acs_at (OwnA.sl h) hx
def meP (l : List Sol) (A B : List Ac) (i k : Nat) : Bool := meetsB (acCells l (atN A i)) (acCells l (atN B k))
theorem meP_at {l : List Sol} {A B : List Ac} {i k : Nat} {x y : Ac} (hx : A[i]? = some x) (hy : B[k]? = some y) : apartB l x y = !meP l A B i k := by
 have ex : atN A i = x := by unfold atN; rw [List.getD_eq_getElem?_getD, hx]; rfl
 have ey : atN B k = y := by unfold atN; rw [List.getD_eq_getElem?_getD, hy]; rfl
 unfold meP apartB
 rw [ex, ey]
set_option maxHeartbeats 8000000 in
theorem refConflict_no (b b2 : Sol) (p q p2 q2 : Option Addr) (n c k d n2 c2 k2 d2 : Nat) (y : Int) (hne : (y != 0) = true) (w : World) (H : Hid (∀ w', Below w.heap.size w w' → Calls Tryz.prog 126 #[.agg #[.int .u64 (pl b 0), .int .u64 (pl b 1), .int .u64 (pl b 2), .int .u64 (pl b 3), .int .u64 (pl b 4), .int .u64 (pl b 5), .int .u64 (pl b 6), .int .u64 (pl b 7), .slice p n c, .slice q k d], .agg #[.int .u64 (pl b2 0), .int .u64 (pl b2 1), .int .u64 (pl b2 2), .int .u64 (pl b2 3), .int .u64 (pl b2 4), .int .u64 (pl b2 5), .int .u64 (pl b2 6), .int .u64 (pl b2 7), .slice p2 n2 c2, .slice q2 k2 d2]] w' fun e w'' => e = .returned (.int .i64 y) ∧ Below w'.heap.size w' w'')) :
  Calls Tryz.prog 67 #[.agg #[.int .u64 (pl b 0), .int .u64 (pl b 1), .int .u64 (pl b 2), .int .u64 (pl b 3), .int .u64 (pl b 4), .int .u64 (pl b 5), .int .u64 (pl b 6), .int .u64 (pl b 7), .slice p n c, .slice q k d], .agg #[.int .u64 (pl b2 0), .int .u64 (pl b2 1), .int .u64 (pl b2 2), .int .u64 (pl b2 3), .int .u64 (pl b2 4), .int .u64 (pl b2 5), .int .u64 (pl b2 6), .int .u64 (pl b2 7), .slice p2 n2 c2, .slice q2 k2 d2]] w fun e w' => e = .returned (.tuple #[.agg zeroA, .agg zeroA, .bool false, .int .i64 y]) ∧ Below w.heap.size w w' := by
 go_enter Tryz.func67, Tryz.ntmps67
 go_wp2_with fail
 refine (H.out _ bel_by).mono ?_
 rintro e w1 ⟨rfl, hb⟩
 have b1 : Blk w1 (w.heap.size + 1 + 1) zeroA 46 := Blk.grow blk_by hb
 have b2 : Blk w1 (w.heap.size + 1 + 1 + 1) zeroA 46 := Blk.grow blk_by hb
 have r1 := b1.row
 have r2 := b2.row
 have hB1 : Below w.heap.size w w1 := bel_trans bel_by hb
 rw [← b1.rw, ← b2.rw]
 clear b1 b2 hb
 go_wp2_with fail
 refine bodyPost_ret (by simp [results, Tryz.results67, go_sem, *]) rfl ⟨rfl, blw_row (blw_row hB1 (by omega) _) (by omega) _⟩
set_option maxHeartbeats 16000000 in
theorem refConflict_yes (b b2 : Sol) (p q p2 q2 : Option Addr) (n c k d n2 c2 k2 d2 : Nat) (w : World) (H : Hid (∀ w', Below w.heap.size w w' → Calls Tryz.prog 126 #[.agg #[.int .u64 (pl b 0), .int .u64 (pl b 1), .int .u64 (pl b 2), .int .u64 (pl b 3), .int .u64 (pl b 4), .int .u64 (pl b 5), .int .u64 (pl b 6), .int .u64 (pl b 7), .slice p n c, .slice q k d], .agg #[.int .u64 (pl b2 0), .int .u64 (pl b2 1), .int .u64 (pl b2 2), .int .u64 (pl b2 3), .int .u64 (pl b2 4), .int .u64 (pl b2 5), .int .u64 (pl b2 6), .int .u64 (pl b2 7), .slice p2 n2 c2, .slice q2 k2 d2]] w' fun e w'' => e = .returned (.int .i64 0) ∧ Below w'.heap.size w' w'')) (l : List Sol) (C0 A B : List Ac) (HCM : Hid (∀ w', Below w.heap.size w w' → Calls Tryz.prog 127 #[.agg #[.int .u64 (pl b 0), .int .u64 (pl b 1), .int .u64 (pl b 2), .int .u64 (pl b 3), .int .u64 (pl b 4), .int .u64 (pl b 5), .int .u64 (pl b 6), .int .u64 (pl b 7), .slice p n c], .slice q k d, .slice q2 k2 d2] w' fun e w'' => ∃ u v z, e = .returned (.tuple #[u, v, z]) ∧ (OwnA w'' w'.heap.size u C0 ∧ OwnA w'' w'.heap.size v A ∧ OwnA w'' w'.heap.size z B) ∧ Below w'.heap.size w' w'')) (X Y : Ac) (r : Bool) (hx : confV (conflictM l A B) = (X, Y, r)) (HH : Hid (∀ x ∈ A, ∀ y ∈ B, ∀ w', Below w.heap.size w w' → Calls Tryz.prog 102 #[.agg #[.int .u64 (pl b 0), .int .u64 (pl b 1), .int .u64 (pl b 2), .int .u64 (pl b 3), .int .u64 (pl b 4), .int .u64 (pl b 5), .int .u64 (pl b 6), .int .u64 (pl b 7), .slice p n c], .agg #[.int .u8 x.1, .int .i64 x.2.1, .int .u64 (pl x.2.2 0), .int .u64 (pl x.2.2 1), .int .u64 (pl x.2.2 2), .int .u64 (pl x.2.2 3), .int .u64 (pl x.2.2 4), .int .u64 (pl x.2.2 5), .int .u64 (pl x.2.2 6), .int .u64 (pl x.2.2 7)], .agg #[.int .u8 y.1, .int .i64 y.2.1, .int .u64 (pl y.2.2 0), .int .u64 (pl y.2.2 1), .int .u64 (pl y.2.2 2), .int .u64 (pl y.2.2 3), .int .u64 (pl y.2.2 4), .int .u64 (pl y.2.2 5), .int .u64 (pl y.2.2 6), .int .u64 (pl y.2.2 7)]] w' fun e w'' => e = .returned (.bool (apartB l x y)) ∧ Below w'.heap.size w' w'')) :
  Calls Tryz.prog 67 #[.agg #[.int .u64 (pl b 0), .int .u64 (pl b 1), .int .u64 (pl b 2), .int .u64 (pl b 3), .int .u64 (pl b 4), .int .u64 (pl b 5), .int .u64 (pl b 6), .int .u64 (pl b 7), .slice p n c, .slice q k d], .agg #[.int .u64 (pl b2 0), .int .u64 (pl b2 1), .int .u64 (pl b2 2), .int .u64 (pl b2 3), .int .u64 (pl b2 4), .int .u64 (pl b2 5), .int .u64 (pl b2 6), .int .u64 (pl b2 7), .slice p2 n2 c2, .slice q2 k2 d2]] w fun e w' => e = .returned (.tuple #[.agg (acA X), .agg (acA Y), .bool r, .int .i64 0]) ∧ Below w.heap.size w w' := by
 have HX := Lib.hid hx
 clear hx
 go_enter Tryz.func67, Tryz.ntmps67
 go_wp2_with fail
 refine (H.out _ bel_by).mono ?_
 rintro e w1 ⟨rfl, hb⟩
 have g0 : Blk w1 w.heap.size #[.int .u64 (pl b 0), .int .u64 (pl b 1), .int .u64 (pl b 2), .int .u64 (pl b 3), .int .u64 (pl b 4), .int .u64 (pl b 5), .int .u64 (pl b 6), .int .u64 (pl b 7), .slice p n c, .slice q k d] 30 := Blk.grow blk_by hb
 have g1 : Blk w1 (w.heap.size + 1) #[.int .u64 (pl b2 0), .int .u64 (pl b2 1), .int .u64 (pl b2 2), .int .u64 (pl b2 3), .int .u64 (pl b2 4), .int .u64 (pl b2 5), .int .u64 (pl b2 6), .int .u64 (pl b2 7), .slice p2 n2 c2, .slice q2 k2 d2] 30 := Blk.grow blk_by hb
 have g4 : Blk w1 (w.heap.size + 1 + 1) zeroA 46 := Blk.grow blk_by hb
 have g5 : Blk w1 (w.heap.size + 1 + 1 + 1) zeroA 46 := Blk.grow blk_by hb
 have hB1 : Below w.heap.size w w1 := bel_trans bel_by hb
 have c0 := g0.cell
 have l0 := g0.lt
 have c1 := g1.cell
 have l1 := g1.lt
 clear hb H
 go_wp2_with fail
 refine (HCM.out _ (bel_trans hB1 bel_by)).mono ?_
 rintro e w2 ⟨u, v, z, rfl, ⟨_, hOa, hOb⟩, hb⟩
 have hB2 := bel_trans hB1 (bel_trans bel_by hb)
 obtain ⟨qa, da, rfl, _, _⟩ := own_shape' hOa
 obtain ⟨qb, db, rfl, _, _⟩ := own_shape' hOb
 have hsz : w.heap.size + 1 + 1 + 1 + 1 ≤ w1.heap.size := g5.lt
 have HO : Hid (OwnA w2 (w.heap.size + 1 + 1 + 1 + 1) (.slice qa A.length da) A ∧ OwnA w2 (w.heap.size + 1 + 1 + 1 + 1) (.slice qb B.length db) B) := Lib.hid ⟨own_weak hOa (by first | omega | (simp; omega)), own_weak hOb (by first | omega | (simp; omega))⟩
 have G0 : Blk w2 w.heap.size #[.int .u64 (pl b 0), .int .u64 (pl b 1), .int .u64 (pl b 2), .int .u64 (pl b 3), .int .u64 (pl b 4), .int .u64 (pl b 5), .int .u64 (pl b 6), .int .u64 (pl b 7), .slice p n c, .slice q k d] 30 := Blk.grow blk_by hb
 have G4 : Blk w2 (w.heap.size + 1 + 1) zeroA 46 := Blk.grow blk_by hb
 have G5 : Blk w2 (w.heap.size + 1 + 1 + 1) zeroA 46 := Blk.grow blk_by hb
 clear hb hOa hOb g0 g1 g4 g5 c0 l0 c1 l1 HCM hB1 hsz
 go_wp2_with fail
 go_loopw [12] (fun iv wr => ∃ i : Nat, i ≤ A.length ∧ iv = .int .i64 i ∧ Hid (∀ i', i' < i → ∀ k', k' < B.length → meP l A B i' k' = false) ∧ Blk wr w.heap.size #[.int .u64 (pl b 0), .int .u64 (pl b 1), .int .u64 (pl b 2), .int .u64 (pl b 3), .int .u64 (pl b 4), .int .u64 (pl b 5), .int .u64 (pl b 6), .int .u64 (pl b 7), .slice p n c, .slice q k d] 30 ∧ Blk wr (w.heap.size + 1 + 1) zeroA 46 ∧ Blk wr (w.heap.size + 1 + 1 + 1) zeroA 46 ∧ Hid (OwnA wr (w.heap.size + 1 + 1 + 1 + 1) (.slice qa A.length da) A ∧ OwnA wr (w.heap.size + 1 + 1 + 1 + 1) (.slice qb B.length db) B) ∧ Below w.heap.size w wr) (fun iv _ => A.length - (intOf iv).toNat)
 case atStart => exact ⟨0, Nat.zero_le _, rfl, Lib.hid (fun i' h => absurd h (Nat.not_lt_zero _)), G0, G4, G5, HO, hB2⟩
 case round =>
  clear G0 G4 G5 HO hB2
  obtain ⟨i, hi, rfl, HA, g0, g4, g5, HO, hB⟩ := hrel
  obtain ⟨W1, hW⟩ : ∃ W1, W1 = wr := ⟨_, rfl⟩
  subst hW
  by_cases h0 : i < A.length
  ·go_wp2_with fail
   go_loopw [13] (fun jv wr => ∃ j : Nat, j ≤ B.length ∧ jv = .int .i64 j ∧ Hid (∀ k', k' < j → meP l A B i k' = false) ∧ Blk wr w.heap.size #[.int .u64 (pl b 0), .int .u64 (pl b 1), .int .u64 (pl b 2), .int .u64 (pl b 3), .int .u64 (pl b 4), .int .u64 (pl b 5), .int .u64 (pl b 6), .int .u64 (pl b 7), .slice p n c, .slice q k d] 30 ∧ Blk wr (w.heap.size + 1 + 1) zeroA 46 ∧ Blk wr (w.heap.size + 1 + 1 + 1) zeroA 46 ∧ Hid (OwnA wr (w.heap.size + 1 + 1 + 1 + 1) (.slice qa A.length da) A ∧ OwnA wr (w.heap.size + 1 + 1 + 1 + 1) (.slice qb B.length db) B) ∧ Below w.heap.size w wr) (fun jv _ => B.length - (intOf jv).toNat)
   case atStart => exact ⟨0, Nat.zero_le _, rfl, Lib.hid (fun i' h => absurd h (Nat.not_lt_zero _)), g0, g4, g5, HO, hB⟩
   case round =>
    clear g0 g4 g5 HO hB
    obtain ⟨j, hj, rfl, HI, g0, g4, g5, HO, hB⟩ := hrel
    by_cases h1 : j < B.length
    ·have hx : A[i]? = some (A[i]'h0) := by simp
     have hy : B[j]? = some (B[j]'h1) := by simp
     have hxm := List.getElem_mem h0
     have hym := List.getElem_mem h1
     generalize A[i]'h0 = x at hx hxm
     generalize B[j]'h1 = y at hy hym
     obtain ⟨ab, ao, rfl, hcs⟩ := own_cells HO.out.1 hx
     obtain ⟨eb, eo, rfl, hcs2⟩ := own_cells HO.out.2 hy
     have labr := hcs.1
     have lebr := hcs2.1
     have c0 := g0.cell
     have l0 := g0.lt
     obtain ⟨a0, a1, a2, a3, a4, a5, a6, a7, a8, a9⟩ := ac_cells hcs hx
     obtain ⟨f0, f1, f2, f3, f4, f5, f6, f7, f8, f9⟩ := ac_cells hcs2 hy
     obtain ⟨s, hs⟩ : ∃ s, meP l A B i j = s := ⟨_, rfl⟩
     have hap := meP_at (l := l) hx hy
     rw [hs] at hap
     have HS := Lib.hid hs
     have HXY := Lib.hid (And.intro hx hy)
     have HAP : Hid (∀ w', Below w.heap.size w w' → Calls Tryz.prog 102 #[.agg #[.int .u64 (pl b 0), .int .u64 (pl b 1), .int .u64 (pl b 2), .int .u64 (pl b 3), .int .u64 (pl b 4), .int .u64 (pl b 5), .int .u64 (pl b 6), .int .u64 (pl b 7), .slice p n c], .agg #[.int .u8 x.1, .int .i64 x.2.1, .int .u64 (pl x.2.2 0), .int .u64 (pl x.2.2 1), .int .u64 (pl x.2.2 2), .int .u64 (pl x.2.2 3), .int .u64 (pl x.2.2 4), .int .u64 (pl x.2.2 5), .int .u64 (pl x.2.2 6), .int .u64 (pl x.2.2 7)], .agg #[.int .u8 y.1, .int .i64 y.2.1, .int .u64 (pl y.2.2 0), .int .u64 (pl y.2.2 1), .int .u64 (pl y.2.2 2), .int .u64 (pl y.2.2 3), .int .u64 (pl y.2.2 4), .int .u64 (pl y.2.2 5), .int .u64 (pl y.2.2 6), .int .u64 (pl y.2.2 7)]] w' fun e w'' => e = .returned (.bool (!s)) ∧ Below w'.heap.size w' w'') := by
      rw [← hap]; exact Lib.hid fun w' hb => HH.out x hxm y hym w' hb
     clear hap hs hx hy hcs hcs2 hxm hym
     go_wp2_with fail
     refine wp_region_inv Grows (fun _ _ => True) [Is (.pointer (some ⟨w.heap.size, 0, none⟩)), Is (.agg #[.int .u64 (pl b 0), .int .u64 (pl b 1), .int .u64 (pl b 2), .int .u64 (pl b 3), .int .u64 (pl b 4), .int .u64 (pl b 5), .int .u64 (pl b 6), .int .u64 (pl b 7), .slice p n c]), Is (.slice (some ⟨ab, ao, none⟩) A.length da), Is (.int .i64 (i : Int)), Is (.pointer (some ⟨ab, ao + i * 10, none⟩)), Is (.agg #[.int .u8 x.1, .int .i64 x.2.1, .int .u64 (pl x.2.2 0), .int .u64 (pl x.2.2 1), .int .u64 (pl x.2.2 2), .int .u64 (pl x.2.2 3), .int .u64 (pl x.2.2 4), .int .u64 (pl x.2.2 5), .int .u64 (pl x.2.2 6), .int .u64 (pl x.2.2 7)]), Is (.slice (some ⟨eb, eo, none⟩) B.length db), Is (.int .i64 (j : Int)), Is (.pointer (some ⟨eb, eo + j * 10, none⟩)), Is (.agg #[.int .u8 y.1, .int .i64 y.2.1, .int .u64 (pl y.2.2 0), .int .u64 (pl y.2.2 1), .int .u64 (pl y.2.2 2), .int .u64 (pl y.2.2 3), .int .u64 (pl y.2.2 4), .int .u64 (pl y.2.2 5), .int .u64 (pl y.2.2 6), .int .u64 (pl y.2.2 7)]), Is (.bool (!s)), Is (.bool s)] (by kernel_rfl) (by kernel_rfl) rfl Grows.refl (fun _ _ _ => Grows.trans) (stable_mem ⟨fun _ _ _ h _ => h, fun _ _ _ h _ => h, fun _ _ _ h _ => h, fun _ _ _ h _ => h, fun _ _ _ h _ => h, fun _ _ _ h _ => h, fun _ _ _ h _ => h, fun _ _ _ h _ => h, fun _ _ _ h _ => h, fun _ _ _ h _ => h, fun _ _ _ h _ => h, fun _ _ _ h _ => h, trivial⟩) _ (Below.drew (Below.refl _ _)) trivial ?_
     iterate 10 (refine inv_cons ?_ (fun _ => ?_); · intro L w1 hat hb hI hF; have hc := (Grows.cells hb).1; (try simp [factsI, Region.binds, Is] at hF); go_simp; (try first | exact Grows.refl _ | exact trivial | rfl))
     refine inv_cons ?_ (fun v10 => ?_)
     ·intro L w1 hat hb hI hF; have hc := (Grows.cells hb).1; try simp [factsI, Region.binds, Is] at hF
      go_simp
      refine (HAP.out _ (bel_trans hB hb)).mono ?_
      rintro e w2 ⟨rfl, hb2⟩
      exact ⟨rfl, hb2⟩
     refine inv_cons ?_ (fun v11 => ?_)
     ·intro L w1 hat hb hI hF; have hc := (Grows.cells hb).1; try simp [factsI, Region.binds, Is] at hF
      go_simp
      try first | exact Grows.refl _ | exact trivial | rfl
     refine inv_nil ?_
     intro w1 hb hI hF
     simp [Is, Nat.forall_lt_succ_right] at hF
     simp only [Act.put, List.setIfInBounds_toArray, List.set_cons_succ, List.set_cons_zero, hF]
     clear hF
     have hB2 := bel_trans hB hb
     have g0' := g0.grow hb
     have g4' := g4.grow hb
     have g5' := g5.grow hb
     have HO2 := Lib.hid (And.intro (own_grow HO.out.1 hb) (own_grow HO.out.2 hb))
     clear g0 g4 g5 hB hb hI a0 a1 a2 a3 a4 a5 a6 a7 a8 a9 f0 f1 f2 f3 f4 f5 f6 f7 f8 f9 c0 l0 HO labr lebr HAP
     cases s with
     | false =>
      have HI2 := Lib.hid (below_succ HI.out HS.out)
      go_wp2_with fail
      go_roundw
      case rel => exact ⟨j + 1, by omega, by go_num, HI2, g0', g4', g5', HO2, hB2⟩
      case measure => simp [intOf]; omega
     | true =>
      have hcm : conflictM l A B = some (x, y) := by
       have h2 := conflictM_hit (l := l) h0 h1 HA.out HI.out HS.out
       have ex : atN A i = x := by unfold atN; rw [List.getD_eq_getElem?_getD, HXY.out.1]; rfl
       have ey : atN B j = y := by unfold atN; rw [List.getD_eq_getElem?_getD, HXY.out.2]; rfl
       rw [ex, ey] at h2
       exact h2
      have hXY := HX.out
      rw [hcm] at hXY
      unfold confV at hXY
      simp only [Prod.mk.injEq] at hXY
      obtain ⟨rfl, rfl, rfl⟩ := hXY
      clear hcm HX
      have HC0 : Hid (InvC (w.heap.size + 1 + 1) (w.heap.size + 1 + 1 + 1) (w.heap.size + 1 + 1 + 1 + 1) (.slice (some ⟨ab, ao, none⟩) A.length da) (.slice (some ⟨eb, eo, none⟩) B.length db) A B x y false false w1) := Lib.hid ⟨g4', g5', HO2.out.1, HO2.out.2, by omega, by omega⟩
      clear g0' g4' g5' HO2
      go_wp2_with fail
      refine wp_region_inv (Below w.heap.size) (fun L => InvC (w.heap.size + 1 + 1) (w.heap.size + 1 + 1 + 1) (w.heap.size + 1 + 1 + 1 + 1) (.slice (some ⟨ab, ao, none⟩) A.length da) (.slice (some ⟨eb, eo, none⟩) B.length db) A B x y (L 8) (L 9)) [Is (.slice (some ⟨ab, ao, none⟩) A.length da), Is (.int .i64 (i : Int)), Is (.pointer (some ⟨ab, ao + i * 10, none⟩)), Is (.agg #[.int .u8 x.1, .int .i64 x.2.1, .int .u64 (pl x.2.2 0), .int .u64 (pl x.2.2 1), .int .u64 (pl x.2.2 2), .int .u64 (pl x.2.2 3), .int .u64 (pl x.2.2 4), .int .u64 (pl x.2.2 5), .int .u64 (pl x.2.2 6), .int .u64 (pl x.2.2 7)]), Is (.slice (some ⟨eb, eo, none⟩) B.length db), Is (.int .i64 (j : Int)), Is (.pointer (some ⟨eb, eo + j * 10, none⟩)), Is (.agg #[.int .u8 y.1, .int .i64 y.2.1, .int .u64 (pl y.2.2 0), .int .u64 (pl y.2.2 1), .int .u64 (pl y.2.2 2), .int .u64 (pl y.2.2 3), .int .u64 (pl y.2.2 4), .int .u64 (pl y.2.2 5), .int .u64 (pl y.2.2 6), .int .u64 (pl y.2.2 7)]), Is undef, Is undef, Is (.bool true), Is (.int .i64 0)] (by kernel_rfl) (by kernel_rfl) rfl (Below.refl w.heap.size) (fun _ _ _ => Below.trans) (stable_mem ⟨fun _ _ _ h _ => h, fun _ _ _ h _ => h, fun _ _ _ h _ => h, fun _ _ _ h _ => h, fun _ _ _ h _ => h, fun _ _ _ h _ => h, fun _ _ _ h _ => h, fun _ _ _ h _ => h, fun _ _ _ h _ => h, fun _ _ _ h _ => h, fun _ _ _ h _ => h, fun _ _ _ h _ => h, trivial⟩) w1 (Below.drew (Below.refl _ _)) (HC0.out.grow (Below.drew (Below.refl _ _))) ?_
      iterate 3 (refine inv_cons ?_ (fun _ => ?_); · intro L w1 hat hb hI hF; (try simp [factsI, Region.binds, Is] at hF); go_simp; exact Below.refl _ _)
      refine inv_cons ?_ (fun v3 => ?_)
      ·intro L w1 hat hb hI hF; try simp [factsI, Region.binds, Is] at hF
       obtain ⟨_, _, he, hcs⟩ := own_cells hI.oa HXY.out.1
       cases he
       have lab := hcs.1
       obtain ⟨a0, a1, a2, a3, a4, a5, a6, a7, a8, a9⟩ := ac_cells hcs HXY.out.1
       clear hcs
       go_simp
       exact Below.refl _ _
      iterate 3 (refine inv_cons ?_ (fun _ => ?_); · intro L w1 hat hb hI hF; (try simp [factsI, Region.binds, Is] at hF); go_simp; exact Below.refl _ _)
      refine inv_cons ?_ (fun v7 => ?_)
      ·intro L w1 hat hb hI hF; try simp [factsI, Region.binds, Is] at hF
       obtain ⟨_, _, he, hcs⟩ := own_cells hI.ob HXY.out.2
       cases he
       have lab := hcs.1
       obtain ⟨a0, a1, a2, a3, a4, a5, a6, a7, a8, a9⟩ := ac_cells hcs HXY.out.2
       clear hcs
       go_simp
       exact Below.refl _ _
      refine inv_cons ?_ (fun v8 => ?_)
      ·intro L w1 hat hb hI hF; try simp [factsI, Region.binds, Is] at hF
       have h8 : L 8 = false := hat.self
       rw [h8] at hI
       have ha : Blk w1 _ zeroA 46 := hI.a
       have r0 := ha.row
       have HS := Lib.hid (hI.set1)
       rw [← ha.rw]
       clear hI ha
       go_simp
       exact ⟨blw_rows (by omega) _ _, HS.out⟩
      refine inv_cons ?_ (fun v9 => ?_)
      ·intro L w1 hat hb hI hF; try simp [factsI, Region.binds, Is] at hF
       have h9 : L 9 = false := hat.self
       rw [h9] at hI
       have ha : Blk w1 _ zeroA 46 := hI.b
       have r0 := ha.row
       have HS := Lib.hid (hI.set2)
       rw [← ha.rw]
       clear hI ha
       go_simp
       exact ⟨blw_rows (by omega) _ _, HS.out⟩
      iterate 2 (refine inv_cons ?_ (fun _ => ?_); · intro L w1 hat hb hI hF; (try simp [factsI, Region.binds, Is] at hF); go_simp; exact Below.refl _ _)
      refine inv_nil ?_
      intro w1 hb hI hF
      simp [Is, Nat.forall_lt_succ_right] at hF
      simp only [Act.put, List.setIfInBounds_toArray, List.set_cons_succ, List.set_cons_zero, hF]
      clear hF
      have k4 := hI.a.cell
      have k5 := hI.b.cell
      have hB3 := hB2.trans hb
      go_wp2_with fail
      refine bodyPost_ret (by simp [results, Tryz.results67, go_sem, *]) rfl ⟨rfl, hB3⟩
    ·have hjk : j = B.length := by omega
     subst hjk
     have HA2 := Lib.hid (below_succ HA.out (by intro k' hk'; exact HI.out k' hk'))
     go_wp2_with fail
     go_roundw
     case rel => exact ⟨i + 1, by omega, by go_num, HA2, g0, g4, g5, HO, hB⟩
     case measure => simp [intOf]; omega
  ·have hik : i = A.length := by omega
   subst hik
   have hcm : conflictM l A B = none := conflictM_miss HA.out
   have hXY := HX.out
   rw [hcm] at hXY
   unfold confV at hXY
   simp only [Prod.mk.injEq] at hXY
   obtain ⟨rfl, rfl, rfl⟩ := hXY
   clear hcm HX
   have r1 := g4.row
   have r2 := g5.row
   rw [← g4.rw, ← g5.rw]
   clear g0 g4 g5
   go_wp2_with fail
   refine bodyPost_ret (v := .tuple #[.agg zeroA, .agg zeroA, .bool false, .int .i64 0]) (by simp [results, Tryz.results67, go_sem, *]) rfl ⟨by rw [zeroA_ac], blw_row (blw_row hB (by omega) _) (by omega) _⟩
end Go.Proofs.YtccnkebkgegohaaGreatDoor
end
section
namespace Go.Proofs.YtccnkebkgegohaaGreatDoor
open Go.RowKit Go.Rel
set_option maxRecDepth 100000
/-! Merge, of the reference -/
theorem wpList_fresh {P : Program} {ops : Array Oper} {rest : List Oper} {o : Oper} {a : Act} {Q : Exit → Act → World → Prop} {w : World} {x : Obj} (d : Nat) (_ : o.dst = some d)
  (h : ∀ W', Hid (W' = w.alloc x) → wpList P ops Q (o :: rest) a W') : wpList P ops Q (o :: rest) a (w.alloc x) := h _ (Lib.hid rfl)
set_option maxHeartbeats 8000000 in
theorem refMerge_no (b b2 : Sol) (p q p2 q2 : Option Addr) (n c k d n2 c2 k2 d2 : Nat) (X Y : Ac) (r : Bool) (y : Int) (hne : (y != 0) = true) (w : World) (H : Hid (∀ w', Below w.heap.size w w' → Calls Tryz.prog 67 #[.agg #[.int .u64 (pl b 0), .int .u64 (pl b 1), .int .u64 (pl b 2), .int .u64 (pl b 3), .int .u64 (pl b 4), .int .u64 (pl b 5), .int .u64 (pl b 6), .int .u64 (pl b 7), .slice p n c, .slice q k d], .agg #[.int .u64 (pl b2 0), .int .u64 (pl b2 1), .int .u64 (pl b2 2), .int .u64 (pl b2 3), .int .u64 (pl b2 4), .int .u64 (pl b2 5), .int .u64 (pl b2 6), .int .u64 (pl b2 7), .slice p2 n2 c2, .slice q2 k2 d2]] w' fun e w'' => e = .returned (.tuple #[.agg #[.int .u8 X.1, .int .i64 X.2.1, .int .u64 (pl X.2.2 0), .int .u64 (pl X.2.2 1), .int .u64 (pl X.2.2 2), .int .u64 (pl X.2.2 3), .int .u64 (pl X.2.2 4), .int .u64 (pl X.2.2 5), .int .u64 (pl X.2.2 6), .int .u64 (pl X.2.2 7)], .agg #[.int .u8 Y.1, .int .i64 Y.2.1, .int .u64 (pl Y.2.2 0), .int .u64 (pl Y.2.2 1), .int .u64 (pl Y.2.2 2), .int .u64 (pl Y.2.2 3), .int .u64 (pl Y.2.2 4), .int .u64 (pl Y.2.2 5), .int .u64 (pl Y.2.2 6), .int .u64 (pl Y.2.2 7)], .bool r, .int .i64 y]) ∧ Below w'.heap.size w' w'')) :
  Calls Tryz.prog 66 #[.agg #[.int .u64 (pl b 0), .int .u64 (pl b 1), .int .u64 (pl b 2), .int .u64 (pl b 3), .int .u64 (pl b 4), .int .u64 (pl b 5), .int .u64 (pl b 6), .int .u64 (pl b 7), .slice p n c, .slice q k d], .agg #[.int .u64 (pl b2 0), .int .u64 (pl b2 1), .int .u64 (pl b2 2), .int .u64 (pl b2 3), .int .u64 (pl b2 4), .int .u64 (pl b2 5), .int .u64 (pl b2 6), .int .u64 (pl b2 7), .slice p2 n2 c2, .slice q2 k2 d2]] w fun e w' => e = .returned (.tuple #[.agg #[.int .u64 0, .int .u64 0, .int .u64 0, .int .u64 0, .int .u64 0, .int .u64 0, .int .u64 0, .int .u64 0, .slice none 0 0, .slice none 0 0], .int .i64 y]) ∧ Below w.heap.size w w' := by
 go_enter Tryz.func66, Tryz.ntmps66
 go_wp2_with fail
 refine (H.out _ bel_by).mono ?_
 rintro e w1 ⟨rfl, hb⟩
 have g0 : Blk w1 w.heap.size #[.int .u64 (pl b 0), .int .u64 (pl b 1), .int .u64 (pl b 2), .int .u64 (pl b 3), .int .u64 (pl b 4), .int .u64 (pl b 5), .int .u64 (pl b 6), .int .u64 (pl b 7), .slice p n c, .slice q k d] 30 := Blk.grow blk_by hb
 have g1 : Blk w1 (w.heap.size + 1) #[.int .u64 (pl b2 0), .int .u64 (pl b2 1), .int .u64 (pl b2 2), .int .u64 (pl b2 3), .int .u64 (pl b2 4), .int .u64 (pl b2 5), .int .u64 (pl b2 6), .int .u64 (pl b2 7), .slice p2 n2 c2, .slice q2 k2 d2] 30 := Blk.grow blk_by hb
 have g2 : Blk w1 (w.heap.size + 1 + 1) #[.int .u64 0, .int .u64 0, .int .u64 0, .int .u64 0, .int .u64 0, .int .u64 0, .int .u64 0, .int .u64 0, .slice none 0 0, .slice none 0 0] 30 := Blk.grow blk_by hb
 have hB1 : Below w.heap.size w w1 := bel_trans bel_by hb
 clear hb H
 go_wp2_with (with_reducible refine wpList_fresh 24 rfl ?_; intro W2 hW2; have hB2 : Below w.heap.size w W2 := (by rw [hW2.out]; exact bel_trans hB1 bel_by); have G2 : Blk W2 (w.heap.size + 1 + 1) #[.int .u64 0, .int .u64 0, .int .u64 0, .int .u64 0, .int .u64 0, .int .u64 0, .int .u64 0, .int .u64 0, .slice none 0 0, .slice none 0 0] 30 := (by rw [hW2.out]; exact blk_by); have r2 := G2.row; have l2 := G2.lt; clear hW2 g0 g1 g2; rw [← G2.rw]; clear G2)
 refine bodyPost_ret (by simp [results, Tryz.results66, go_sem, *]) rfl ⟨rfl, blw_row hB2 (by omega) _⟩
set_option maxHeartbeats 8000000 in
theorem refMerge_clash (b b2 : Sol) (p q p2 q2 : Option Addr) (n c k d n2 c2 k2 d2 : Nat) (X Y : Ac) (w : World) (H : Hid (∀ w', Below w.heap.size w w' → Calls Tryz.prog 67 #[.agg #[.int .u64 (pl b 0), .int .u64 (pl b 1), .int .u64 (pl b 2), .int .u64 (pl b 3), .int .u64 (pl b 4), .int .u64 (pl b 5), .int .u64 (pl b 6), .int .u64 (pl b 7), .slice p n c, .slice q k d], .agg #[.int .u64 (pl b2 0), .int .u64 (pl b2 1), .int .u64 (pl b2 2), .int .u64 (pl b2 3), .int .u64 (pl b2 4), .int .u64 (pl b2 5), .int .u64 (pl b2 6), .int .u64 (pl b2 7), .slice p2 n2 c2, .slice q2 k2 d2]] w' fun e w'' => e = .returned (.tuple #[.agg #[.int .u8 X.1, .int .i64 X.2.1, .int .u64 (pl X.2.2 0), .int .u64 (pl X.2.2 1), .int .u64 (pl X.2.2 2), .int .u64 (pl X.2.2 3), .int .u64 (pl X.2.2 4), .int .u64 (pl X.2.2 5), .int .u64 (pl X.2.2 6), .int .u64 (pl X.2.2 7)], .agg #[.int .u8 Y.1, .int .i64 Y.2.1, .int .u64 (pl Y.2.2 0), .int .u64 (pl Y.2.2 1), .int .u64 (pl Y.2.2 2), .int .u64 (pl Y.2.2 3), .int .u64 (pl Y.2.2 4), .int .u64 (pl Y.2.2 5), .int .u64 (pl Y.2.2 6), .int .u64 (pl Y.2.2 7)], .bool true, .int .i64 0]) ∧ Below w'.heap.size w' w'')) :
  Calls Tryz.prog 66 #[.agg #[.int .u64 (pl b 0), .int .u64 (pl b 1), .int .u64 (pl b 2), .int .u64 (pl b 3), .int .u64 (pl b 4), .int .u64 (pl b 5), .int .u64 (pl b 6), .int .u64 (pl b 7), .slice p n c, .slice q k d], .agg #[.int .u64 (pl b2 0), .int .u64 (pl b2 1), .int .u64 (pl b2 2), .int .u64 (pl b2 3), .int .u64 (pl b2 4), .int .u64 (pl b2 5), .int .u64 (pl b2 6), .int .u64 (pl b2 7), .slice p2 n2 c2, .slice q2 k2 d2]] w fun e w' => e = .returned (.tuple #[.agg #[.int .u64 0, .int .u64 0, .int .u64 0, .int .u64 0, .int .u64 0, .int .u64 0, .int .u64 0, .int .u64 0, .slice none 0 0, .slice none 0 0], .int .i64 45]) ∧ Below w.heap.size w w' := by
 go_enter Tryz.func66, Tryz.ntmps66
 go_wp2_with fail
 refine (H.out _ bel_by).mono ?_
 rintro e w1 ⟨rfl, hb⟩
 have g0 : Blk w1 w.heap.size #[.int .u64 (pl b 0), .int .u64 (pl b 1), .int .u64 (pl b 2), .int .u64 (pl b 3), .int .u64 (pl b 4), .int .u64 (pl b 5), .int .u64 (pl b 6), .int .u64 (pl b 7), .slice p n c, .slice q k d] 30 := Blk.grow blk_by hb
 have g1 : Blk w1 (w.heap.size + 1) #[.int .u64 (pl b2 0), .int .u64 (pl b2 1), .int .u64 (pl b2 2), .int .u64 (pl b2 3), .int .u64 (pl b2 4), .int .u64 (pl b2 5), .int .u64 (pl b2 6), .int .u64 (pl b2 7), .slice p2 n2 c2, .slice q2 k2 d2] 30 := Blk.grow blk_by hb
 have g2 : Blk w1 (w.heap.size + 1 + 1) #[.int .u64 0, .int .u64 0, .int .u64 0, .int .u64 0, .int .u64 0, .int .u64 0, .int .u64 0, .int .u64 0, .slice none 0 0, .slice none 0 0] 30 := Blk.grow blk_by hb
 have hB1 : Below w.heap.size w w1 := bel_trans bel_by hb
 clear hb H
 go_wp2_with (with_reducible refine wpList_fresh 27 rfl ?_; intro W2 hW2; have hB2 : Below w.heap.size w W2 := (by rw [hW2.out]; exact bel_trans hB1 bel_by); have G2 : Blk W2 (w.heap.size + 1 + 1) #[.int .u64 0, .int .u64 0, .int .u64 0, .int .u64 0, .int .u64 0, .int .u64 0, .int .u64 0, .int .u64 0, .slice none 0 0, .slice none 0 0] 30 := (by rw [hW2.out]; exact blk_by); have r2 := G2.row; have l2 := G2.lt; clear hW2 g0 g1 g2; rw [← G2.rw]; clear G2)
 refine bodyPost_ret (by simp [results, Tryz.results66, go_sem, *]) rfl ⟨rfl, blw_row hB2 (by omega) _⟩
set_option maxHeartbeats 8000000 in
theorem refMerge_yes (b b2 : Sol) (p q p2 q2 : Option Addr) (n c k d n2 c2 k2 d2 : Nat) (X Y : Ac) (l : List Sol) (g C0 A B : List Ac) (w : World) (F : Fine l (g ++ B)) (hlen : g.length + B.length ≤ 60) (HV : Hid (SlS w (.slice p n c) l)) (HG : Hid (SlN w (.slice q k d) g)) (H : Hid (∀ w', Below w.heap.size w w' → Calls Tryz.prog 67 #[.agg #[.int .u64 (pl b 0), .int .u64 (pl b 1), .int .u64 (pl b 2), .int .u64 (pl b 3), .int .u64 (pl b 4), .int .u64 (pl b 5), .int .u64 (pl b 6), .int .u64 (pl b 7), .slice p n c, .slice q k d], .agg #[.int .u64 (pl b2 0), .int .u64 (pl b2 1), .int .u64 (pl b2 2), .int .u64 (pl b2 3), .int .u64 (pl b2 4), .int .u64 (pl b2 5), .int .u64 (pl b2 6), .int .u64 (pl b2 7), .slice p2 n2 c2, .slice q2 k2 d2]] w' fun e w'' => e = .returned (.tuple #[.agg #[.int .u8 X.1, .int .i64 X.2.1, .int .u64 (pl X.2.2 0), .int .u64 (pl X.2.2 1), .int .u64 (pl X.2.2 2), .int .u64 (pl X.2.2 3), .int .u64 (pl X.2.2 4), .int .u64 (pl X.2.2 5), .int .u64 (pl X.2.2 6), .int .u64 (pl X.2.2 7)], .agg #[.int .u8 Y.1, .int .i64 Y.2.1, .int .u64 (pl Y.2.2 0), .int .u64 (pl Y.2.2 1), .int .u64 (pl Y.2.2 2), .int .u64 (pl Y.2.2 3), .int .u64 (pl Y.2.2 4), .int .u64 (pl Y.2.2 5), .int .u64 (pl Y.2.2 6), .int .u64 (pl Y.2.2 7)], .bool false, .int .i64 0]) ∧ Below w'.heap.size w' w'')) (HCM : Hid (∀ w', Below w.heap.size w w' → Calls Tryz.prog 127 #[.agg #[.int .u64 (pl b 0), .int .u64 (pl b 1), .int .u64 (pl b 2), .int .u64 (pl b 3), .int .u64 (pl b 4), .int .u64 (pl b 5), .int .u64 (pl b 6), .int .u64 (pl b 7), .slice p n c], .slice q k d, .slice q2 k2 d2] w' fun e w'' => ∃ u v z, e = .returned (.tuple #[u, v, z]) ∧ (OwnA w'' w'.heap.size u C0 ∧ OwnA w'' w'.heap.size v A ∧ OwnA w'' w'.heap.size z B) ∧ Below w'.heap.size w' w'')) :
  Calls Tryz.prog 66 #[.agg #[.int .u64 (pl b 0), .int .u64 (pl b 1), .int .u64 (pl b 2), .int .u64 (pl b 3), .int .u64 (pl b 4), .int .u64 (pl b 5), .int .u64 (pl b 6), .int .u64 (pl b 7), .slice p n c, .slice q k d], .agg #[.int .u64 (pl b2 0), .int .u64 (pl b2 1), .int .u64 (pl b2 2), .int .u64 (pl b2 3), .int .u64 (pl b2 4), .int .u64 (pl b2 5), .int .u64 (pl b2 6), .int .u64 (pl b2 7), .slice p2 n2 c2, .slice q2 k2 d2]] w (HRes b l (nrm l (g ++ B)) 0 w) := by
 go_enter Tryz.func66, Tryz.ntmps66
 have HF := Lib.hid (And.intro F hlen)
 clear F hlen
 go_wp2_with fail
 refine (H.out _ bel_by).mono ?_
 rintro e w1 ⟨rfl, hb⟩
 have g0 : Blk w1 w.heap.size #[.int .u64 (pl b 0), .int .u64 (pl b 1), .int .u64 (pl b 2), .int .u64 (pl b 3), .int .u64 (pl b 4), .int .u64 (pl b 5), .int .u64 (pl b 6), .int .u64 (pl b 7), .slice p n c, .slice q k d] 30 := Blk.grow blk_by hb
 have g1 : Blk w1 (w.heap.size + 1) #[.int .u64 (pl b2 0), .int .u64 (pl b2 1), .int .u64 (pl b2 2), .int .u64 (pl b2 3), .int .u64 (pl b2 4), .int .u64 (pl b2 5), .int .u64 (pl b2 6), .int .u64 (pl b2 7), .slice p2 n2 c2, .slice q2 k2 d2] 30 := Blk.grow blk_by hb
 have g2 : Blk w1 (w.heap.size + 1 + 1) #[.int .u64 0, .int .u64 0, .int .u64 0, .int .u64 0, .int .u64 0, .int .u64 0, .int .u64 0, .int .u64 0, .slice none 0 0, .slice none 0 0] 30 := Blk.grow blk_by hb
 have hB1 : Below w.heap.size w w1 := bel_trans bel_by hb
 clear hb H
 have c0 := g0.cell
 have l0 := g0.lt
 have c1 := g1.cell
 have l1 := g1.lt
 go_wp2_with fail
 refine (HCM.out _ (bel_trans hB1 bel_by)).mono ?_
 rintro e w2 ⟨u, v, z, rfl, ⟨_, _, hO⟩, hb⟩
 have hB2 := bel_trans hB1 (bel_trans bel_by hb)
 have G0 : Blk w2 w.heap.size #[.int .u64 (pl b 0), .int .u64 (pl b 1), .int .u64 (pl b 2), .int .u64 (pl b 3), .int .u64 (pl b 4), .int .u64 (pl b 5), .int .u64 (pl b 6), .int .u64 (pl b 7), .slice p n c, .slice q k d] 30 := Blk.grow blk_by hb
 have G2 : Blk w2 (w.heap.size + 1 + 1) #[.int .u64 0, .int .u64 0, .int .u64 0, .int .u64 0, .int .u64 0, .int .u64 0, .int .u64 0, .int .u64 0, .slice none 0 0, .slice none 0 0] 30 := Blk.grow blk_by hb
 have HB := Lib.hid (OwnA.sln hO)
 clear hb hO g0 g1 g2 c0 l0 c1 l1 HCM hB1
 have c0 := G0.cell
 have l0 := G0.lt
 go_wp2_with fail
 refine (behind_spec b _ _ z g B _ ⟨_, _, _, rfl⟩ (HG.out.mono hB2) HB.out (by have := HF.out.2; omega)).mono ?_
 rintro e w3 ⟨bv, rfl, hO, hb⟩
 have hB3 := bel_trans hB2 hb
 have G2' := G2.grow hb
 have hlen : (g ++ B).length = g.length + B.length := List.length_append
 obtain ⟨qo, dO, rfl, ho1, ho2⟩ := own_shapeK hO hlen
 have HO := Lib.hid (And.intro hO (And.intro ho1 ho2))
 clear hb hO hlen G0 G2 c0 l0 hB2 HB ho1 ho2
 have h60 : ¬ ((60 : Int) < (((g.length + B.length : Nat)) : Int)) := by have := HF.out.2; omega
 go_wp2_with (with_reducible refine wpList_fresh 42 rfl ?_; intro W4 hW4; have hB4 : Below w.heap.size w W4 := (by rw [hW4.out]; exact bel_trans hB3 bel_by); have hb34 : Below w3.heap.size w3 W4 := (by rw [hW4.out]; exact bel_by); have G8 : Blk W4 w3.heap.size #[.int .u64 (pl b 0), .int .u64 (pl b 1), .int .u64 (pl b 2), .int .u64 (pl b 3), .int .u64 (pl b 4), .int .u64 (pl b 5), .int .u64 (pl b 6), .int .u64 (pl b 7), .slice p n c, .slice qo (g.length + B.length) dO] 30 := (by rw [hW4.out]; exact blk_by); have G2 : Blk W4 (w.heap.size + 1 + 1) #[.int .u64 0, .int .u64 0, .int .u64 0, .int .u64 0, .int .u64 0, .int .u64 0, .int .u64 0, .int .u64 0, .slice none 0 0, .slice none 0 0] 30 := G2'.grow hb34; have c8 := G8.cell; have l8 := G8.lt; clear hW4)
 refine (normal123_main b p n c qo (g.length + B.length) dO l (g ++ B) W4 HF.out.1 (HV.out.mono hB4) ((OwnA.sln HO.out.1).mono hb34) (List.length_append) HO.out.2.1 HO.out.2.2 (by have := HF.out.2; omega)).mono ?_
 rintro e w5 ⟨x, rfl, hO5, hb5⟩
 have hB5 := bel_trans hB4 hb5
 have G8' := G8.grow hb5
 have G2'' := G2.grow hb5
 have hO6 : OwnA w5 (w3.heap.size + 1) x (nrm l (g ++ B)) := by
  rw [← normR_eq HF.out.1, List.length_append]
  exact own_weak hO5 G8.lt
 have hne8 : w3.heap.size ≠ w.heap.size + 1 + 1 := by have := G2'.lt; omega
 have hlt8 : w.heap.size + 1 + 1 < w3.heap.size := G2'.lt
 obtain ⟨qx, dx, rfl, _, _⟩ := own_shape' hO6
 have HX := Lib.hid hO6
 clear hO5 hO6 hb5 hb34 G8 G2 G2' hB3 HO c8 l8 hB4
 generalize w3.heap.size = B8 at *
 have r8 := G8'.row
 have l8 := G8'.lt
 have r2 := G2''.row
 have l2 := G2''.lt
 rw [← G2''.rw, ← G8'.rw]
 clear G8' G2''
 go_wp2_with fail
 refine bodyPost_ret (v := .tuple #[.agg #[.int .u64 (pl b 0), .int .u64 (pl b 1), .int .u64 (pl b 2), .int .u64 (pl b 3), .int .u64 (pl b 4), .int .u64 (pl b 5), .int .u64 (pl b 6), .int .u64 (pl b 7), .slice p n c, .slice qx (nrm l (g ++ B)).length dx], .int .i64 0]) (by simp [results, Tryz.results66, go_sem, *]) rfl ?_
 exact ⟨p, n, c, qx, (nrm l (g ++ B)).length, dx, rfl, HV.out.mono (blw_row (blw_row hB5 (by omega) _) (by omega) _), OwnA.sl (own_rowL (own_rowL HX.out (by omega) _) (by omega) _), blw_row (blw_row hB5 (by omega) _) (by omega) _⟩
end Go.Proofs.YtccnkebkgegohaaGreatDoor
end
