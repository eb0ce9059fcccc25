import Derived.Test.YtkfimbonmnoglaaGreatDoorB27
import Derived.Test.YtkfimbonmnoglaaGreatDoorProg
import Derived.WalkKit
import Derived.WalkLawsBesides
import Derived.WalkSpells
import Derived.StillTailTactics
import Derived.Deep.QuietTactic
import Derived.BigQuiet
import Derived.Outline
import Derived.Recover
import Derived.Laws.BitsLemmas
import Derived.Lib.Hide
import Derived.Laws.EntriesVeiled
import Derived.Test.YtkfimbonmnoglaaGreatDoorCards
import Derived.Test.YtkfimbonmnoglaaGreatDoorTie
import Derived.Deep.DeepHandedRow
import Derived.Lib.LaidTab
import Derived.LaidSub
import Derived.Carry
import Derived.ProofKit
import Derived.Deep.Cut
/-
  Given contracts of functions of the program, and laws for them, one behind the other.
-/
set_option linter.unusedVariables false
set_option linter.unusedSimpArgs false
set_option linter.unusedSectionVars false
section
namespace Go.Solid
open Go.Draw
set_option maxRecDepth 100000
def rcF (s : Sol) (z y x : Int) : List Cl := ((rngI x 7).map fun x => ((x, y, z) : Cl)).filter (hasS s)
def rcG (s : Sol) (z y : Int) : List Cl := (rngI y 7).flatMap fun y => rcF s z y 0
def rcH (s : Sol) (z : Int) : List Cl := (rngI z 7).flatMap fun z => rcG s z 0
def rcY (s : Sol) (z y : Int) : List Cl := rcG s z y ++ rcH s (z + 1)
def rcX (s : Sol) (z y x : Int) : List Cl := rcF s z y x ++ rcY s z (y + 1)
theorem rng_none {a b : Int} (h : b < a) : rngI a b = [] := by
 unfold rngI
 rw [show (b - a + 1).toNat = 0 by omega]; rfl
theorem rng_cons {a b : Int} (h : a ≤ b) : rngI a b = a :: rngI (a + 1) b := by
 rw [rngI_append (a := a) (b := a) (c := b) (by omega) h]
 have : rngI a a = [a] := by unfold rngI; rw [show (a - a + 1).toNat = 1 by omega]; simp
 rw [this]; rfl
theorem all_cells : (List.range 512).map cellN = (rngI 0 7).flatMap fun z => (rngI 0 7).flatMap fun y => (rngI 0 7).map fun x => ((x, y, z) : Cl) := by decide +kernel
theorem rc_all (s : Sol) : rcH s 0 = cellsS s := by
 have e : cellsS s = ((List.range 512).map cellN).filter (hasS s) := by
  unfold cellsS bitsS
  rw [List.filter_map]
  congr 1
 rw [e, all_cells]
 unfold rcH rcG rcF
 simp only [List.filter_flatMap]
theorem rcH_end (s : Sol) {z : Int} (h : 7 < z) : rcH s z = [] := by unfold rcH; rw [rng_none h]; rfl
theorem rcH_step (s : Sol) {z : Int} (h : z ≤ 7) : rcH s z = rcY s z 0 := by
 conv => lhs; unfold rcH
 rw [rng_cons h, List.flatMap_cons]; rfl
theorem rcY_end (s : Sol) {z y : Int} (h : 7 < y) : rcY s z y = rcH s (z + 1) := by unfold rcY rcG; rw [rng_none h]; rfl
theorem rcY_step (s : Sol) {z y : Int} (h : y ≤ 7) : rcY s z y = rcX s z y 0 := by
 conv => lhs; unfold rcY rcG
 rw [rng_cons h, List.flatMap_cons, List.append_assoc]; rfl
theorem rcX_end (s : Sol) {z y x : Int} (h : 7 < x) : rcX s z y x = rcY s z (y + 1) := by unfold rcX rcF; rw [rng_none h]; rfl
theorem rcX_step (s : Sol) {z y x : Int} (h : x ≤ 7) : rcX s z y x = if hasS s (x, y, z) then (x, y, z) :: rcX s z y (x + 1) else rcX s z y (x + 1) := by
 conv => lhs; unfold rcX rcF
 rw [rng_cons h, List.map_cons, List.filter_cons]
 split <;> rfl
end Go.Solid
end
section
namespace Go.Solid
open Go.Draw
set_option maxRecDepth 100000
def bkF (l h : Cl) (z y x : Int) : List Cl := (rngI x h.1).map fun x => ((x, y, z) : Cl)
def bkG (l h : Cl) (z y : Int) : List Cl := (rngI y h.2.1).flatMap fun y => bkF l h z y l.1
def bkH (l h : Cl) (z : Int) : List Cl := (rngI z h.2.2).flatMap fun z => bkG l h z l.2.1
def bkY (l h : Cl) (z y : Int) : List Cl := bkG l h z y ++ bkH l h (z + 1)
def bkX (l h : Cl) (z y x : Int) : List Cl := bkF l h z y x ++ bkY l h z (y + 1)
def addL (a : Sol) (L : List Cl) : Sol := L.foldl (fun a c => a ||| one (bitN c)) a
end Go.Solid
end
section
namespace Go.Rel
open Go.RowKit
variable {P : Program}
end Go.Rel
namespace Go.Proofs.YtkfimbonmnoglaaGreatDoor
open Go.RowKit Go.Draw
theorem bits_or_pl (a b : Sol) (k : Nat) : bits .or .u64 (pl a k) (pl b k) = pl (a ||| b) k := by
 show IntKind.u64.wrap ((BitVec.ofInt 64 (pl a k) ||| BitVec.ofInt 64 (pl b k)).toNat : Int) = _
 rw [ofInt_pl, ofInt_pl, wrap_u64_toNat, ← plv_or]; first | rfl | (unfold pl; rfl) | (delta pl; rfl)

end Go.Proofs.YtkfimbonmnoglaaGreatDoor
namespace Go.Proofs.YtkfimbonmnoglaaGreatDoor
open Go.RowKit Go.Draw
end Go.Proofs.YtkfimbonmnoglaaGreatDoor
namespace Go.Rel
open Go.RowKit
variable {P : Program} {ops : Array Oper} {R : World → World → Prop} {w0 : World} {Q : Act → World → Prop}
attribute [go_sem] step upon_value upon_skip upon_enter
end Go.Rel
namespace Go.Proofs.YtkfimbonmnoglaaGreatDoor
open Go.RowKit Go.Draw
end Go.Proofs.YtkfimbonmnoglaaGreatDoor
namespace Go.Proofs.YtkfimbonmnoglaaGreatDoor
end Go.Proofs.YtkfimbonmnoglaaGreatDoor
end
section
namespace Go.Proofs.YtkfimbonmnoglaaGreatDoor
open Go.RowKit Go.Rel Go.Draw Go.Solid
set_option maxRecDepth 100000
set_option maxHeartbeats 2000000 in
theorem join_spec (a b : Sol) (w : World) : Calls Tryz.prog 57 #[solV a, solV b] w fun e w' => e = .returned (solV (a ||| b)) ∧ Below w.heap.size w w' := by
 go_enter Tryz.func57, Tryz.ntmps57
 go_wp2_with fail
 obtain ⟨W0, hW0⟩ : ∃ W0, W0 = ((w.alloc (.cells #[.int .u64 (pl a 0), .int .u64 (pl a 1), .int .u64 (pl a 2), .int .u64 (pl a 3), .int .u64 (pl a 4), .int .u64 (pl a 5), .int .u64 (pl a 6), .int .u64 (pl a 7)] 26)).alloc (.cells #[.int .u64 (pl b 0), .int .u64 (pl b 1), .int .u64 (pl b 2), .int .u64 (pl b 3), .int .u64 (pl b 4), .int .u64 (pl b 5), .int .u64 (pl b 6), .int .u64 (pl b 7)] 26)).alloc (.cells #[.int .u64 0, .int .u64 0, .int .u64 0, .int .u64 0, .int .u64 0, .int .u64 0, .int .u64 0, .int .u64 0] 26) := ⟨_, rfl⟩
 have b1 : Blk W0 w.heap.size #[.int .u64 (pl a 0), .int .u64 (pl a 1), .int .u64 (pl a 2), .int .u64 (pl a 3), .int .u64 (pl a 4), .int .u64 (pl a 5), .int .u64 (pl a 6), .int .u64 (pl a 7)] 26 := by subst hW0; exact (by repeat (first | with_reducible assumption | (refine Blk.at _ _ ?_; (simp; done)) | with_reducible refine Blk.alloc ?_ _ | with_reducible refine Blk.drew ?_ | with_reducible refine Blk.rowS ?_ _ | with_reducible refine Blk.rowO ?_ _ (by simp)))
 have b2 : Blk W0 (w.heap.size + 1) #[.int .u64 (pl b 0), .int .u64 (pl b 1), .int .u64 (pl b 2), .int .u64 (pl b 3), .int .u64 (pl b 4), .int .u64 (pl b 5), .int .u64 (pl b 6), .int .u64 (pl b 7)] 26 := by subst hW0; exact (by repeat (first | with_reducible assumption | (refine Blk.at _ _ ?_; (simp; done)) | with_reducible refine Blk.alloc ?_ _ | with_reducible refine Blk.drew ?_ | with_reducible refine Blk.rowS ?_ _ | with_reducible refine Blk.rowO ?_ _ (by simp)))
 have b3 : Blk W0 (w.heap.size + 1 + 1) #[.int .u64 0, .int .u64 0, .int .u64 0, .int .u64 0, .int .u64 0, .int .u64 0, .int .u64 0, .int .u64 0] 26 := by subst hW0; exact Blk.at _ _ (by simp)
 have hbel : Below w.heap.size w W0 := by subst hW0; exact (by repeat (first | with_reducible exact bel_refl _ | with_reducible assumption | with_reducible refine bel_drewN ?_ _ | with_reducible refine bel_drew ?_ | with_reducible refine bel_alloc ?_ _ | with_reducible refine bel_row ?_ ?_ _ | with_reducible refine bel_set ?_ ?_ _ | refine bel_trans ?_ (by with_reducible assumption) | (simp; done) | (simp; omega)))
 rw [← hW0]
 clear hW0
 have HB := Lib.hid (And.intro b1 (And.intro b2 (And.intro b3 hbel))); clear b1 b2 b3 hbel
 go_loopw [6] (fun iv wx => ∃ z : Nat, z ≤ 8 ∧ iv = .int .i64 z ∧ Hid (Blk wx w.heap.size (mixZ a (a ||| b) z) 26 ∧ W0.grownBy wx (some w.heap.size))) (fun iv _ => 8 - (intOf iv).toNat)
 case atStart => exact ⟨0, by omega, rfl, Lib.hid ⟨HB.out.1, gb_refl _ _⟩⟩
 case round =>
  obtain ⟨z, hz, rfl, HM⟩ := hrel
  by_cases hz8 : z < 8
  ·obtain ⟨BX, hgx⟩ := HM.out
   have cz : wr.cell? ⟨w.heap.size, z, none⟩ = some (.int .u64 (pl a z)) := by rw [BX.cell, mixZ_get _ _ hz8]
   have B2 := HB.out.2.1.gb hgx (by simp)
   have sz : wr.cell? ⟨w.heap.size + 1, z, none⟩ = some (.int .u64 (pl b z)) := by rw [B2.cell]; exact mixA_get (fun i => pl b i) hz8
   have fz := BX.free z
   have lx := BX.lt
   have ls := B2.lt
   have eo := bits_or_pl a b z
   have BXH := Lib.hid (And.intro BX hgx); clear BX hgx HM B2
   go_wp2_with fail
   refine Go.Rel.region_still_tail 7 (by kernel_rfl) (by kernel_rfl) ?_
   simp only [List.take_succ_cons, List.take_zero, List.drop_succ_cons, List.drop_zero]
   repeat still_step
   refine wpStill_nil ?_
   go_wp2_with fail
   go_roundw
   case rel =>
    refine ⟨z + 1, by omega, by go_num, Lib.hid ⟨?_, gb_set (gb_drew BXH.out.2) _ rfl _⟩⟩
    rw [← mixZ_set _ _ hz8]
    exact (BXH.out.1.drew).set z _
   case measure => simp [intOf]; omega
  ·obtain rfl : z = 8 := by omega
   have BX := HM.out.1
   rw [mixZ_end] at BX
   have cX := BX.cell
   have lX := BX.lt
   have B3 := HB.out.2.2.1.gb HM.out.2 (by simp; omega)
   have r3 := B3.row
   have hb := gb_bel HB.out.2.2.2 HM.out.2 (Nat.le_refl _)
   clear HM HB BX
   have cF := (B3.rowS #[.int .u64 (pl (a ||| b) 0), .int .u64 (pl (a ||| b) 1), .int .u64 (pl (a ||| b) 2), .int .u64 (pl (a ||| b) 3), .int .u64 (pl (a ||| b) 4), .int .u64 (pl (a ||| b) 5), .int .u64 (pl (a ||| b) 6), .int .u64 (pl (a ||| b) 7)]).cell
   rw [← B3.rw]
   clear B3
   go_wp2_with fail
   exact bodyPost_ret (v := solV (a ||| b)) (by simp [results, Tryz.results57, go_sem, cF]) rfl ⟨rfl, bel_row hb (by omega) _⟩
set_option maxHeartbeats 2000000 in
theorem less_spec (a b : Sol) (w : World) : Calls Tryz.prog 63 #[solV a, solV b] w fun e w' => e = .returned (solV (a &&& ~~~b)) ∧ Below w.heap.size w w' := by
 go_enter Tryz.func63, Tryz.ntmps63
 go_wp2_with fail
 obtain ⟨W0, hW0⟩ : ∃ W0, W0 = ((w.alloc (.cells #[.int .u64 (pl a 0), .int .u64 (pl a 1), .int .u64 (pl a 2), .int .u64 (pl a 3), .int .u64 (pl a 4), .int .u64 (pl a 5), .int .u64 (pl a 6), .int .u64 (pl a 7)] 26)).alloc (.cells #[.int .u64 (pl b 0), .int .u64 (pl b 1), .int .u64 (pl b 2), .int .u64 (pl b 3), .int .u64 (pl b 4), .int .u64 (pl b 5), .int .u64 (pl b 6), .int .u64 (pl b 7)] 26)).alloc (.cells #[.int .u64 0, .int .u64 0, .int .u64 0, .int .u64 0, .int .u64 0, .int .u64 0, .int .u64 0, .int .u64 0] 26) := ⟨_, rfl⟩
 have b1 : Blk W0 w.heap.size #[.int .u64 (pl a 0), .int .u64 (pl a 1), .int .u64 (pl a 2), .int .u64 (pl a 3), .int .u64 (pl a 4), .int .u64 (pl a 5), .int .u64 (pl a 6), .int .u64 (pl a 7)] 26 := by subst hW0; exact (by repeat (first | with_reducible assumption | (refine Blk.at _ _ ?_; (simp; done)) | with_reducible refine Blk.alloc ?_ _ | with_reducible refine Blk.drew ?_ | with_reducible refine Blk.rowS ?_ _ | with_reducible refine Blk.rowO ?_ _ (by simp)))
 have b2 : Blk W0 (w.heap.size + 1) #[.int .u64 (pl b 0), .int .u64 (pl b 1), .int .u64 (pl b 2), .int .u64 (pl b 3), .int .u64 (pl b 4), .int .u64 (pl b 5), .int .u64 (pl b 6), .int .u64 (pl b 7)] 26 := by subst hW0; exact (by repeat (first | with_reducible assumption | (refine Blk.at _ _ ?_; (simp; done)) | with_reducible refine Blk.alloc ?_ _ | with_reducible refine Blk.drew ?_ | with_reducible refine Blk.rowS ?_ _ | with_reducible refine Blk.rowO ?_ _ (by simp)))
 have b3 : Blk W0 (w.heap.size + 1 + 1) #[.int .u64 0, .int .u64 0, .int .u64 0, .int .u64 0, .int .u64 0, .int .u64 0, .int .u64 0, .int .u64 0] 26 := by subst hW0; exact Blk.at _ _ (by simp)
 have hbel : Below w.heap.size w W0 := by subst hW0; exact (by repeat (first | with_reducible exact bel_refl _ | with_reducible assumption | with_reducible refine bel_drewN ?_ _ | with_reducible refine bel_drew ?_ | with_reducible refine bel_alloc ?_ _ | with_reducible refine bel_row ?_ ?_ _ | with_reducible refine bel_set ?_ ?_ _ | refine bel_trans ?_ (by with_reducible assumption) | (simp; done) | (simp; omega)))
 rw [← hW0]
 clear hW0
 have HB := Lib.hid (And.intro b1 (And.intro b2 (And.intro b3 hbel))); clear b1 b2 b3 hbel
 go_loopw [6] (fun iv wx => ∃ z : Nat, z ≤ 8 ∧ iv = .int .i64 z ∧ Hid (Blk wx w.heap.size (mixZ a (a &&& ~~~b) z) 26 ∧ W0.grownBy wx (some w.heap.size))) (fun iv _ => 8 - (intOf iv).toNat)
 case atStart => exact ⟨0, by omega, rfl, Lib.hid ⟨HB.out.1, gb_refl _ _⟩⟩
 case round =>
  obtain ⟨z, hz, rfl, HM⟩ := hrel
  by_cases hz8 : z < 8
  ·obtain ⟨BX, hgx⟩ := HM.out
   have cz : wr.cell? ⟨w.heap.size, z, none⟩ = some (.int .u64 (pl a z)) := by rw [BX.cell, mixZ_get _ _ hz8]
   have B2 := HB.out.2.1.gb hgx (by simp)
   have sz : wr.cell? ⟨w.heap.size + 1, z, none⟩ = some (.int .u64 (pl b z)) := by rw [B2.cell]; exact mixA_get (fun i => pl b i) hz8
   have fz := BX.free z
   have lx := BX.lt
   have ls := B2.lt
   have eo := bits_andNot_pl a b z hz8
   have BXH := Lib.hid (And.intro BX hgx); clear BX hgx HM B2
   go_wp2_with fail
   refine Go.Rel.region_still_tail 7 (by kernel_rfl) (by kernel_rfl) ?_
   simp only [List.take_succ_cons, List.take_zero, List.drop_succ_cons, List.drop_zero]
   repeat still_step
   refine wpStill_nil ?_
   go_wp2_with fail
   go_roundw
   case rel =>
    refine ⟨z + 1, by omega, by go_num, Lib.hid ⟨?_, gb_set (gb_drew BXH.out.2) _ rfl _⟩⟩
    rw [← mixZ_set _ _ hz8]
    exact (BXH.out.1.drew).set z _
   case measure => simp [intOf]; omega
  ·obtain rfl : z = 8 := by omega
   have BX := HM.out.1
   rw [mixZ_end] at BX
   have cX := BX.cell
   have lX := BX.lt
   have B3 := HB.out.2.2.1.gb HM.out.2 (by simp; omega)
   have r3 := B3.row
   have hb := gb_bel HB.out.2.2.2 HM.out.2 (Nat.le_refl _)
   clear HM HB BX
   have cF := (B3.rowS #[.int .u64 (pl (a &&& ~~~b) 0), .int .u64 (pl (a &&& ~~~b) 1), .int .u64 (pl (a &&& ~~~b) 2), .int .u64 (pl (a &&& ~~~b) 3), .int .u64 (pl (a &&& ~~~b) 4), .int .u64 (pl (a &&& ~~~b) 5), .int .u64 (pl (a &&& ~~~b) 6), .int .u64 (pl (a &&& ~~~b) 7)]).cell
   rw [← B3.rw]
   clear B3
   go_wp2_with fail
   exact bodyPost_ret (v := solV (a &&& ~~~b)) (by simp [results, Tryz.results63, go_sem, cF]) rfl ⟨rfl, bel_row hb (by omega) _⟩
end Go.Proofs.YtkfimbonmnoglaaGreatDoor
end
section
namespace Go.Proofs.YtkfimbonmnoglaaGreatDoor
open Go.ChangeShapes Go.WideShapes Go.ChangeAt Go.RowKit Go.Draw
set_option maxRecDepth 100000
theorem ownK : ownKnob Tryz.prog.godebug = none := by kernel_rfl
theorem laidO : laidOutB Tryz.prog = true := by kernel_rfl
theorem and_t {a b : Bool} (h : a = true) (k : b = true) : (a && b) = true := by rw [h, k]; rfl
theorem gMaps : mapsRowed Tryz.prog = true := by kernel_rfl
theorem gStops : (Tryz.prog.stops == []) = true := by kernel_rfl
theorem gKnobs : (Tryz.prog.stopKnobs == []) = true := by kernel_rfl
theorem gHeard : Tryz.prog.stopsHeard = true := by kernel_rfl
theorem gEnter : Tryz.prog.mayEnter = true := by kernel_rfl
theorem cMain : Tryz.pinned.checked.prog.mainIs = some (true, ("2d2b98d2e7a6d467bd98fd00f57c4e37e19420a44b0c74c4b8b93e866a403526" : String).toList) := by kernel_rfl
end Go.Proofs.YtkfimbonmnoglaaGreatDoor
end
section
namespace Go.Proofs.YtkfimbonmnoglaaGreatDoor
open Go.RowKit Go.Rel Go.Draw Go.Solid
set_option maxRecDepth 100000
attribute [local go_sem] Oper.semAt_some
/-- a list of solids in memory, opened -/
def SlO (W : World) (a : Option Addr) (l : List Sol) : Prop := l = [] ∨ ∃ b off, a = some ⟨b, off, none⟩ ∧ Cells W b off 8 (l.map solL)
theorem SlO.mono {W W' : World} {a : Option Addr} {l : List Sol} (h : SlO W a l) (hb : Below W.heap.size W W') : SlO W' a l := by
 rcases h with h | ⟨b, off, h1, h2⟩
 ·exact .inl h
 ·exact .inr ⟨b, off, h1, h2.mono hb h2.1⟩
theorem SlO.at {W : World} {a : Option Addr} {l : List Sol} (h : SlO W a l) {k : Nat} {x : Sol} (hx : l[k]? = some x) : ∃ b off, a = some ⟨b, off, none⟩ ∧ Cells W b off 8 (l.map solL) := by
 rcases h with rfl | h
 ·cases hx
 ·exact h
theorem SlS.opened {W : World} {v : Value} {l : List Sol} (h : SlS W v l) : ∃ a c, v = .slice a l.length c ∧ SlO W a l := by
 obtain ⟨a, c, hv, _, _, hc⟩ := h
 refine ⟨a, c, by rw [hv, List.length_map], ?_⟩
 rcases hc with hc | hc
 ·exact .inl (List.map_eq_nil_iff.1 hc)
 ·exact .inr hc
theorem Cells.row {W : World} {b off k : Nat} {xs : List (List Value)} (h : Cells W b off k xs) {g : Nat} (hne : b ≠ g) (cs : Array Value) : Cells (W.setRow g cs) b off k xs :=
 ⟨by rw [setRow_size]; exact h.1, fun i j u hu => (cell_row_other _ _ _ _ _ hne).trans (h.2 i j u hu)⟩
end Go.Proofs.YtkfimbonmnoglaaGreatDoor
end
section
namespace Go.Proofs.YtkfimbonmnoglaaGreatDoor
open Go.RowKit Go.Rel Go.Draw Go.Solid
set_option maxRecDepth 100000
set_option maxHeartbeats 4000000 in
theorem inGrid_spec (c : Cl) (w : World) : Calls Tryz.prog 126 #[clV c] w fun e w' => e = .returned (.bool (inG c)) ∧ Below w.heap.size w w' := by
 obtain ⟨x, y, z⟩ := c
 obtain ⟨R, hR⟩ : ∃ R, R = inG (x, y, z) := ⟨_, rfl⟩
 rw [← hR]
 have hx : inG (x, y, z) = ((decide (0 ≤ x) && decide (x ≤ 7)) && (decide (0 ≤ y) && decide (y ≤ 7)) && (decide (0 ≤ z) && decide (z ≤ 7))) := rfl
 rw [hx] at hR
 clear hx
 have HR := Lib.hid hR
 clear hR
 go_enter Tryz.func126, Tryz.ntmps126
 go_wp2_with fail
 all_goals (go_ret; exact ⟨ret_bool (by rw [HR.out]; first | (simp [*]; done) | (simp [*]; omega)), (by repeat (first | with_reducible exact bel_refl _ | with_reducible assumption | with_reducible refine bel_drewN ?_ _ | with_reducible refine bel_drew ?_ | with_reducible refine bel_alloc ?_ _ | with_reducible refine bel_row ?_ ?_ _ | with_reducible refine bel_set ?_ ?_ _ | refine bel_trans ?_ (by with_reducible assumption) | (simp; done) | (simp; omega)))⟩)
theorem shlN {X Y : Nat} (h : 8 * Y + X < 64) : IntKind.u64.wrap (8 * (Y : Int) + X) = ((8 * Y + X : Nat) : Int) := by
 unfold IntKind.wrap; simp [IntKind.signed, IntKind.bits]; omega
set_option maxHeartbeats 4000000 in
theorem refHas_spec (s : Sol) (c : Cl) (w : World) : Calls Tryz.prog 80 #[solV s, clV c] w fun e w' => e = .returned (.bool (hasS s c)) ∧ Below w.heap.size w w' := by
 have HI := Lib.hid (fun W => inGrid_spec c W)
 have hbw : Below w.heap.size w ((w.alloc (.cells #[.int .u64 (pl s 0), .int .u64 (pl s 1), .int .u64 (pl s 2), .int .u64 (pl s 3), .int .u64 (pl s 4), .int .u64 (pl s 5), .int .u64 (pl s 6), .int .u64 (pl s 7)] 26)).alloc (.cells #[.int .i64 c.1, .int .i64 c.2.1, .int .i64 c.2.2] 60)) := (by repeat (first | with_reducible exact bel_refl _ | with_reducible assumption | with_reducible refine bel_drewN ?_ _ | with_reducible refine bel_drew ?_ | with_reducible refine bel_alloc ?_ _ | with_reducible refine bel_row ?_ ?_ _ | with_reducible refine bel_set ?_ ?_ _ | refine bel_trans ?_ (by with_reducible assumption) | (simp; done) | (simp; omega)))
 have HW := Lib.hid hbw; clear hbw
 cases hc : inG c with
 | false =>
  have e0 : hasS s c = false := hasS_out hc
  rw [e0]
  rw [hc] at HI
  clear hc e0
  go_enter Tryz.func80, Tryz.ntmps80
  go_wp2_with fail
  refine wp_region_grow 18 [Is (clV c), Is (.bool false), Is (.bool false), Is undef, Is undef, Is undef, Is undef, Is undef, Is undef, Is undef, Is undef, Is undef, Is undef, Is undef, Is undef, Is undef, Is undef, Is (.bool false)] (by kernel_rfl) (by kernel_rfl) rfl ⟨fun _ _ _ h _ => h, fun _ _ _ h _ => h, fun _ _ _ h _ => h, fun _ _ _ h _ => h, fun _ _ _ h _ => h, fun _ _ _ h _ => h, fun _ _ _ h _ => h, fun _ _ _ h _ => h, fun _ _ _ h _ => h, fun _ _ _ h _ => h, fun _ _ _ h _ => h, fun _ _ _ h _ => h, fun _ _ _ h _ => h, fun _ _ _ h _ => h, fun _ _ _ h _ => h, fun _ _ _ h _ => h, fun _ _ _ h _ => h, fun _ _ _ h _ => h, trivial⟩ ?_
  simp only [List.take_succ_cons, List.take_zero, List.drop_succ_cons, List.drop_zero]
  refine rel_cons ?_ (fun v0 => ?_)
  ·intro w1 hb hF; have hc := (Grows.cells hb).1; have hf := (Grows.cells hb).2; try simp [facts, Is] at hF
   go_simp
   exact Grows.refl _
  refine rel_cons ?_ (fun v1 => ?_)
  ·intro w1 hb hF; have hc := (Grows.cells hb).1; have hf := (Grows.cells hb).2; try simp [facts, Is] at hF
   go_simp
   refine (HI.out _).mono ?_
   rintro e w2 ⟨rfl, hb2⟩
   exact ⟨rfl, hb2⟩
  iterate 16 (refine rel_cons ?_ (fun _ => ?_); · intro w1 hb hF; have hc := (Grows.cells hb).1; have hf := (Grows.cells hb).2; (try simp [facts, Is] at hF); go_simp; (try exact Grows.refl _))
  refine rel_nil ?_
  intro w1 hb hF
  simp [Is, Nat.forall_lt_succ_right] at hF
  simp only [Act.put, List.setIfInBounds_toArray, List.set_cons_succ, List.set_cons_zero, hF]
  clear hF
  have hb' := Lib.hid (bel_trans HW.out hb)
  clear hb
  go_wp2_with fail
  go_ret
  exact ⟨rfl, hb'.out⟩
 | true =>
  have hG := inG_iff.1 hc
  have hpl := has_plane (s := s) hc
  obtain ⟨x, y, z⟩ := c
  simp only at hG
  obtain ⟨X, rfl⟩ : ∃ X : Nat, x = X := ⟨x.toNat, by omega⟩
  obtain ⟨Y, rfl⟩ : ∃ X : Nat, y = X := ⟨y.toNat, by omega⟩
  obtain ⟨Z, rfl⟩ : ∃ X : Nat, z = X := ⟨z.toNat, by omega⟩
  have hn : 8 * Y + X < 64 := by omega
  have hZ : (Z : Int) < 8 := by omega
  have hZ8 : Z < 8 := by omega
  have x1 := shlN hn
  have x2 : IntKind.u64.wrap ((2 : Int) ^ (8 * (Y : Int) + (X : Int)).toNat) = uI (1#64 <<< (8 * Y + X)) := by rw [show (8 * (Y : Int) + (X : Int)).toNat = 8 * Y + X by omega]; exact bitP_val hn
  have x3 : IntKind.i64.wrap (8 * (Y : Int)) = 8 * (Y : Int) := IntWalk.i64_in _ ⟨by omega, by omega⟩
  have x4 : IntKind.i64.wrap (8 * (Y : Int) + X) = 8 * (Y : Int) + X := IntWalk.i64_in _ ⟨by omega, by omega⟩
  rw [hc] at HI
  have HPL := Lib.hid hpl
  clear hc hG hpl
  have ea : bits .and .u64 (pl s Z) (uI (1#64 <<< (8 * Y + X))) = uI (plv s Z &&& 1#64 <<< (8 * Y + X)) := by rw [pl_uI]; exact bits_and_u _ _
  obtain ⟨R, hR⟩ : ∃ R, R = hasS s ((X : Int), (Y : Int), (Z : Int)) := ⟨_, rfl⟩
  have en : (uI (plv s Z &&& 1#64 <<< (8 * Y + X)) != 0) = R := by
   rw [bne_u0, hR, ← HPL.out]
   unfold bitP
   rw [show (8 * (Y : Int) + (X : Int)).toNat = 8 * Y + X by omega]; rfl
  rw [← hR]
  clear hR HPL
  go_enter Tryz.func80, Tryz.ntmps80
  go_wp2_with fail
  refine wp_region_grow 18 [Is (.agg #[.int .i64 (X : Int), .int .i64 (Y : Int), .int .i64 (Z : Int)]), Is (.bool true), Is (.bool true), Is (.pointer (some ⟨w.heap.size + 1, 2, none⟩)), Is (.int .i64 (Z : Int)), Is (.pointer (some ⟨w.heap.size, Z, none⟩)), Is (.int .u64 (pl s Z)), Is (.pointer (some ⟨w.heap.size + 1, 1, none⟩)), Is (.int .i64 (Y : Int)), Is (.int .i64 (8 * (Y : Int))), Is (.pointer (some ⟨w.heap.size + 1, 0, none⟩)), Is (.int .i64 (X : Int)), Is (.int .i64 (8 * (Y : Int) + X)), Is (.int .u64 ((8 * Y + X : Nat) : Int)), Is (.int .u64 (uI (1#64 <<< (8 * Y + X)))), Is (.int .u64 (uI (plv s Z &&& 1#64 <<< (8 * Y + X)))), Is (.bool R), Is (.bool R)] (by kernel_rfl) (by kernel_rfl) rfl ⟨fun _ _ _ h _ => h, fun _ _ _ h _ => h, fun _ _ _ h _ => h, fun _ _ _ h _ => h, fun _ _ _ h _ => h, fun _ _ _ h _ => h, fun _ _ _ h _ => h, fun _ _ _ h _ => h, fun _ _ _ h _ => h, fun _ _ _ h _ => h, fun _ _ _ h _ => h, fun _ _ _ h _ => h, fun _ _ _ h _ => h, fun _ _ _ h _ => h, fun _ _ _ h _ => h, fun _ _ _ h _ => h, fun _ _ _ h _ => h, fun _ _ _ h _ => h, trivial⟩ ?_
  simp only [List.take_succ_cons, List.take_zero, List.drop_succ_cons, List.drop_zero]
  refine rel_cons ?_ (fun v0 => ?_)
  ·intro w1 hb hF; have hc := (Grows.cells hb).1; have hf := (Grows.cells hb).2; try simp [facts, Is] at hF
   go_simp
   exact Grows.refl _
  refine rel_cons ?_ (fun v1 => ?_)
  ·intro w1 hb hF; have hc := (Grows.cells hb).1; have hf := (Grows.cells hb).2; try simp [facts, Is] at hF
   go_simp
   refine (HI.out _).mono ?_
   rintro e w2 ⟨rfl, hb2⟩
   exact ⟨rfl, hb2⟩
  iterate 4 (refine rel_cons ?_ (fun _ => ?_); · intro w1 hb hF; have hc := (Grows.cells hb).1; have hf := (Grows.cells hb).2; (try simp [facts, Is] at hF); go_simp; exact Grows.refl _)
  refine rel_cons ?_ (fun v6 => ?_)
  ·intro w1 hb hF; have hc := (Grows.cells hb).1; have hf := (Grows.cells hb).2; try simp [facts, Is] at hF
   have hz := hZ8
   go_simp
   exact ⟨Grows.refl _, getS s hz _⟩
  iterate 11 (refine rel_cons ?_ (fun _ => ?_); · intro w1 hb hF; have hc := (Grows.cells hb).1; have hf := (Grows.cells hb).2; (try simp [facts, Is] at hF); go_simp; exact Grows.refl _)
  refine rel_nil ?_
  intro w1 hb hF
  simp [Is, Nat.forall_lt_succ_right] at hF
  simp only [Act.put, List.setIfInBounds_toArray, List.set_cons_succ, List.set_cons_zero, hF]
  clear hF
  have hb0 : Below _ _ w1 := hb
  have hb1 := Lib.hid (bel_trans HW.out hb0)
  clear hb hb0
  go_wp2_with fail
  go_ret
  exact ⟨rfl, hb1.out⟩
end Go.Proofs.YtkfimbonmnoglaaGreatDoor
end
section
namespace Go.Proofs.YtkfimbonmnoglaaGreatDoor
open Go.RowKit Go.Rel Go.Draw Go.Solid
set_option maxRecDepth 100000
def withS (s : Sol) (c : Cl) : Sol := s ||| Go.Solid.one (bitN c)
set_option maxHeartbeats 4000000 in
theorem refWith_spec (s : Sol) (c : Cl) (hc : inG c = true) (w : World) : Calls Tryz.prog 127 #[solV s, clV c] w fun e w' => e = .returned (solV (withS s c)) ∧ Below w.heap.size w w' := by
 have hG := inG_iff.1 hc
 obtain ⟨x, y, z⟩ := c
 simp only at hG
 obtain ⟨X, rfl⟩ : ∃ X : Nat, x = X := ⟨x.toNat, by omega⟩
 obtain ⟨Y, rfl⟩ : ∃ X : Nat, y = X := ⟨y.toNat, by omega⟩
 obtain ⟨Z, rfl⟩ : ∃ X : Nat, z = X := ⟨z.toNat, by omega⟩
 have hn : 8 * Y + X < 64 := by omega
 have hZ : (Z : Int) < 8 := by omega
 have hZ8 : Z < 8 := by omega
 have x1 := shlN hn
 have x2 : IntKind.u64.wrap ((2 : Int) ^ (8 * (Y : Int) + (X : Int)).toNat) = uI (1#64 <<< (8 * Y + X)) := by rw [show (8 * (Y : Int) + (X : Int)).toNat = 8 * Y + X by omega]; exact bitP_val hn
 have x3 : IntKind.i64.wrap (8 * (Y : Int)) = 8 * (Y : Int) := IntWalk.i64_in _ ⟨by omega, by omega⟩
 have x4 : IntKind.i64.wrap (8 * (Y : Int) + X) = 8 * (Y : Int) + X := IntWalk.i64_in _ ⟨by omega, by omega⟩
 have eb : uI (1#64 <<< (8 * Y + X)) = uI (bitP ((X : Int), (Y : Int), (Z : Int))) := by
  unfold bitP
  rw [show (8 * (Y : Int) + (X : Int)).toNat = 8 * Y + X by omega]
 have eo := or_cell s hc (Z := Z) rfl
 rw [← eb] at eo
 have hcs := cell_set s hc (Z := Z) rfl
 obtain ⟨K, hK⟩ : ∃ K, K = withS s ((X : Int), (Y : Int), (Z : Int)) := ⟨_, rfl⟩
 have hK2 : s ||| Go.Solid.one (bitN ((X : Int), (Y : Int), (Z : Int))) = K := by rw [hK]; rfl
 rw [hK2] at eo hcs
 rw [← hK]
 have HCS := Lib.hid hcs
 clear hK hK2 hc hG eb hcs
 go_enter Tryz.func127, Tryz.ntmps127
 go_wp2_with fail
 obtain ⟨W0, hW0⟩ : ∃ W0, W0 = ((w.alloc (.cells #[.int .u64 (pl s 0), .int .u64 (pl s 1), .int .u64 (pl s 2), .int .u64 (pl s 3), .int .u64 (pl s 4), .int .u64 (pl s 5), .int .u64 (pl s 6), .int .u64 (pl s 7)] 26)).alloc (.cells #[.int .i64 (X : Int), .int .i64 (Y : Int), .int .i64 (Z : Int)] 60)).alloc (.cells #[.int .u64 0, .int .u64 0, .int .u64 0, .int .u64 0, .int .u64 0, .int .u64 0, .int .u64 0, .int .u64 0] 26) := ⟨_, rfl⟩
 have b1 : Blk W0 w.heap.size #[.int .u64 (pl s 0), .int .u64 (pl s 1), .int .u64 (pl s 2), .int .u64 (pl s 3), .int .u64 (pl s 4), .int .u64 (pl s 5), .int .u64 (pl s 6), .int .u64 (pl s 7)] 26 := by subst hW0; exact (by repeat (first | with_reducible assumption | (refine Blk.at _ _ ?_; (simp; done)) | with_reducible refine Blk.alloc ?_ _ | with_reducible refine Blk.drew ?_ | with_reducible refine Blk.rowS ?_ _ | with_reducible refine Blk.rowO ?_ _ (by simp)))
 have b2 : Blk W0 (w.heap.size + 1) #[.int .i64 (X : Int), .int .i64 (Y : Int), .int .i64 (Z : Int)] 60 := by subst hW0; exact (by repeat (first | with_reducible assumption | (refine Blk.at _ _ ?_; (simp; done)) | with_reducible refine Blk.alloc ?_ _ | with_reducible refine Blk.drew ?_ | with_reducible refine Blk.rowS ?_ _ | with_reducible refine Blk.rowO ?_ _ (by simp)))
 have b3 : Blk W0 (w.heap.size + 1 + 1) #[.int .u64 0, .int .u64 0, .int .u64 0, .int .u64 0, .int .u64 0, .int .u64 0, .int .u64 0, .int .u64 0] 26 := by subst hW0; exact Blk.at _ _ (by simp)
 have hbel : Below w.heap.size w W0 := by subst hW0; exact (by repeat (first | with_reducible exact bel_refl _ | with_reducible assumption | with_reducible refine bel_drewN ?_ _ | with_reducible refine bel_drew ?_ | with_reducible refine bel_alloc ?_ _ | with_reducible refine bel_row ?_ ?_ _ | with_reducible refine bel_set ?_ ?_ _ | refine bel_trans ?_ (by with_reducible assumption) | (simp; done) | (simp; omega)))
 rw [← hW0]
 clear hW0
 have HB := Lib.hid (And.intro b1 (And.intro b2 (And.intro b3 hbel)))
 have c1 := b1.cell; have l1 := b1.lt; have f1 := b1.free Z
 have c2 := b2.cell; have l2 := b2.lt
 have cz : W0.cell? ⟨w.heap.size, Z, none⟩ = some (.int .u64 (pl s Z)) := by rw [c1]; exact mixA_get (fun i => pl s i) hZ8
 clear b1 b2 b3 hbel c1
 refine Go.Rel.region_still_tail 16 (by kernel_rfl) (by kernel_rfl) ?_
 simp only [List.take_succ_cons, List.take_zero, List.drop_succ_cons, List.drop_zero]
 repeat still_step
 refine wpStill_nil ?_
 go_upto_region 2 with fail
 have hset : Blk (W0.setCell ⟨w.heap.size, Z, none⟩ (.int .u64 (pl K Z))).drew w.heap.size #[.int .u64 (pl K 0), .int .u64 (pl K 1), .int .u64 (pl K 2), .int .u64 (pl K 3), .int .u64 (pl K 4), .int .u64 (pl K 5), .int .u64 (pl K 6), .int .u64 (pl K 7)] 26 := by
  have := (HB.out.1.set Z (.int .u64 (pl K Z))).drew
  have h2 : (#[.int .u64 (pl s 0), .int .u64 (pl s 1), .int .u64 (pl s 2), .int .u64 (pl s 3), .int .u64 (pl s 4), .int .u64 (pl s 5), .int .u64 (pl s 6), .int .u64 (pl s 7)] : Array Value).setIfInBounds Z (.int .u64 (pl K Z)) = #[.int .u64 (pl K 0), .int .u64 (pl K 1), .int .u64 (pl K 2), .int .u64 (pl K 3), .int .u64 (pl K 4), .int .u64 (pl K 5), .int .u64 (pl K 6), .int .u64 (pl K 7)] := HCS.out
  rw [h2] at this
  exact this
 have HG := Lib.hid (gb_drew (gb_set (gb_refl W0 (some w.heap.size)) ⟨w.heap.size, Z, none⟩ rfl (.int .u64 (pl K Z))))
 obtain ⟨W1, hW1⟩ : ∃ x, x = (W0.setCell ⟨w.heap.size, Z, none⟩ (.int .u64 (pl K Z))).drew := ⟨_, rfl⟩
 rw [← hW1] at hset HG ⊢
 have B3 := HB.out.2.2.1.gb HG.out (by simp; omega)
 have cX := hset.cell; have lX := hset.lt
 have hb := gb_bel HB.out.2.2.2 HG.out (Nat.le_refl _)
 have r3 := B3.row; have l3 := B3.lt
 have cF := (B3.rowS #[.int .u64 (pl K 0), .int .u64 (pl K 1), .int .u64 (pl K 2), .int .u64 (pl K 3), .int .u64 (pl K 4), .int .u64 (pl K 5), .int .u64 (pl K 6), .int .u64 (pl K 7)]).cell
 rw [← B3.rw]
 clear B3 hset hW1 HB HG cz c2
 go_wp2_with fail
 exact bodyPost_ret (v := solV K) (by simp [results, Tryz.results127, go_sem, cF]) rfl ⟨rfl, bel_row hb (by omega) _⟩
end Go.Proofs.YtkfimbonmnoglaaGreatDoor
end
