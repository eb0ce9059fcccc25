import Derived.Test.YtkfimbonmnoglaaGreatDoorB27
import Derived.Test.YtkfimbonmnoglaaGreatDoorCards
import Derived.Test.YtkfimbonmnoglaaGreatDoorTie
import Derived.Deep.DeepHandedRow
import Derived.Lib.LaidTab
import Derived.LaidSub
import Derived.Carry
import Derived.ProofKit
import Derived.Deep.Cut
/-
  Given contracts of functions of the program, and laws for them, one behind the other.
-/
set_option linter.unusedVariables false
set_option linter.unusedSimpArgs false
set_option linter.unusedSectionVars false
section
namespace Go.Draw
set_option maxRecDepth 10000
theorem turn_zero (mr : Bool) : turnS mr 0 = 0 := by
 apply BitVec.eq_of_getLsbD_eq
 intro n hn
 rw [turn_bit _ _ _ hn]; simp
theorem turn_inj (mr : Bool) {a b : Sol} (h : turnS mr a = turnS mr b) : a = b := by
 apply has_ext
 intro x y z
 cases mr
 ·have := congrArg (fun s => has s (7 - y) x z) h
  simp only [has_turn, Bool.false_eq_true, if_false] at this
  rwa [show 7 - (7 - y) = y by omega] at this
 ·have := congrArg (fun s => has s (7 - x) y z) h
  simp only [has_turn, if_true] at this
  rwa [show 7 - (7 - x) = x by omega] at this
end Go.Draw
end
section
namespace Go.Solid
open Go.Draw
set_option maxRecDepth 100000
theorem imgS_id {f : Cl → Cl} {s : Sol} (h : ∀ c, hasS s c = true → f c = c) : stays f s = true ∧ imgS f s = s := by
 have hs : stays f s = true := stays_iff.2 fun c hc => by
  rw [h c hc]; unfold hasS at hc; rw [Bool.and_eq_true] at hc; exact hc.1
 refine ⟨hs, sol_has fun d hd => ?_⟩
 rw [Bool.eq_iff_iff, imgS_has hs hd]
 constructor
 ·rintro ⟨c, h1, rfl⟩
  rw [h c h1]; exact h1
 ·intro h1
  exact ⟨d, h1, h d h1⟩
end Go.Solid
end
section
namespace Go.Solid
open Go.Draw
set_option maxRecDepth 100000
theorem turn_zero (c : Cl) : turnC 0 c = c := rfl
theorem turn_inv {t : Nat} (ht : t < 24) (c : Cl) : turnC (invT t) (turnC t c) = c := by
 have := inv_all
 simp only [List.all_eq_true, List.mem_range, Bool.and_eq_true, beq_iff_eq] at this
 rw [turn_mul ht (inv_lt ht), (this t ht).1.2]; rfl
end Go.Solid
end
section
namespace Go.Solid
open Go.Draw
set_option maxRecDepth 100000
/-- the reference starts at the first cell -/
theorem loF_first {s : Sol} {c : Cl} {l : List Cl} (h : cellsS s = c :: l) : loF c (cellsS s) = loS s := by
 have hs : s ≠ 0 := fun e => by rw [e, cellsS_zero] at h; cases h
 have key : ∀ k, co (loF c (cellsS s)) k = co (loS s) k := fun k => by
  have hc : hasS s c = true := mem_cellsS.1 (by rw [h]; exact List.mem_cons_self)
  obtain ⟨d, hd, e⟩ := loS_at hs k
  obtain ⟨h1, h2, h3⟩ := loF_spec k (cellsS s) c
  have h4 := h2 d (mem_cellsS.2 hd)
  rcases h3 with h3 | ⟨f, hf, h3⟩
  ·have := loS_le hc k; omega
  ·have := loS_le (mem_cellsS.1 hf) k; omega
 exact co_ext (key 0) (key 1) (key 2)
theorem hiF_first {s : Sol} {c : Cl} {l : List Cl} (h : cellsS s = c :: l) : hiF c (cellsS s) = hiS s := by
 have hs : s ≠ 0 := fun e => by rw [e, cellsS_zero] at h; cases h
 have key : ∀ k, co (hiF c (cellsS s)) k = co (hiS s) k := fun k => by
  have hc : hasS s c = true := mem_cellsS.1 (by rw [h]; exact List.mem_cons_self)
  obtain ⟨d, hd, e⟩ := hiS_at hs k
  obtain ⟨h1, h2, h3⟩ := hiF_spec k (cellsS s) c
  have h4 := h2 d (mem_cellsS.2 hd)
  rcases h3 with h3 | ⟨f, hf, h3⟩
  ·have := le_hiS hc k; omega
  ·have := le_hiS (mem_cellsS.1 hf) k; omega
 exact co_ext (key 0) (key 1) (key 2)
end Go.Solid
end
section
namespace Go.Solid
open Go.Draw
set_option maxRecDepth 100000
theorem cellsS_nodup (s : Sol) : (cellsS s).Nodup := by
 unfold cellsS
 unfold List.Nodup
 rw [List.pairwise_map]
 exact (bitsS_nodup s).imp fun {a b} h e => h (by rw [← bitN_cellN a, e, bitN_cellN])
theorem count_img {f : Cl → Cl} {s : Sol} (h : stays f s = true) (hi : ∀ c d, f c = f d → c = d) : countS (imgS f s) = countS s := by
 rw [countS_cells, countS_cells]
 have hp : (cellsS (imgS f s)).Perm ((cellsS s).map f) := by
  refine (List.perm_ext_iff_of_nodup (cellsS_nodup _) ?_).2 fun d => ?_
  ·unfold List.Nodup
   rw [List.pairwise_map]
   exact (cellsS_nodup s).imp fun {a b} h e => h (hi _ _ e)
  ·rw [mem_img h, List.mem_map]
 rw [hp.length_eq, List.length_map]
theorem mov_inj (d : Cl) : ∀ c e, movC d c = movC d e → c = e := fun c e h => by
 have key : ∀ k, co c k = co e k := fun k => by
  have := congrArg (fun x => co x k) h
  simp only [co_mov] at this
  omega
 exact co_ext (key 0) (key 1) (key 2)
theorem turn_inj {t : Nat} (ht : t < 24) : ∀ c e, turnC t c = turnC t e → c = e := fun c e h => by
 rw [← turn_inv ht c, h, turn_inv ht]
theorem spun_zero (s : Sol) : spunS s 0 = s := (imgS_id (f := turnC 0) fun c _ => turn_zero c).2
theorem spun_count {t : Nat} (ht : t < 24) (s : Sol) : countS (spunS s t) = countS s := count_img (spun_stays s t) (turn_inj ht)
theorem corn_zero : cornS 0 = 0 := by unfold cornS; rw [if_pos rfl]
end Go.Solid
end
section
namespace Go.Solid
open Go.Draw
set_option maxRecDepth 100000
theorem corn_count (s : Sol) : countS (cornS s) = countS s := by
 by_cases hs : s = 0
 ·subst hs; rw [corn_zero]
 ·unfold cornS
  rw [if_neg hs]
  exact count_img (corn_stays hs) (mov_inj _)
theorem image_count {t : Nat} (ht : t < 24) (s : Sol) : countS (imageS s t) = countS s := by unfold imageS; rw [corn_count, spun_count ht]
theorem canon_count (s : Sol) : countS (canonS s) = countS s := by
 obtain ⟨t, ht, e⟩ := mem_images.1 (canon_mem s)
 rw [← e, image_count ht]
end Go.Solid
end
section
namespace Go.Solid
open Go.Draw
set_option maxRecDepth 100000
def turnedM (s : Sol) (t : Int) : Sol × Int := if inB t 0 23 then (spunS s t.toNat, 0) else (0, 1)
/-- what moves within the grid is short -/
theorem stays_short {s : Sol} {d : Cl} (hs : s ≠ 0) (h : stays (movC d) s = true) : shortB d = true := by
 obtain ⟨c, hc⟩ := has_some hs
 have h1 := co_in (has_in hc)
 have h2 := co_in (stays_iff.1 h c hc)
 refine shortB_iff.2 fun k => ?_
 have := h1 k; have := h2 k
 rw [co_mov] at this
 omega
theorem movedM_ok {s p : Sol} {d : Cl} : movedM s d = (p, 0) ↔ (s = 0 ∧ p = 0) ∨ (s ≠ 0 ∧ stays (movC d) s = true ∧ p = imgS (movC d) s) := by
 unfold movedM
 by_cases hs : s = 0
 ·rw [if_pos hs]
  simp only [Prod.mk.injEq, and_true]
  exact ⟨fun h => .inl ⟨hs, h.symm⟩, fun h => h.elim (fun h => h.2.symm) fun h => absurd hs h.1⟩
 ·rw [if_neg hs]
  constructor
  ·intro h
   right
   by_cases h1 : shortB d = true
   ·rw [if_pos h1] at h
    by_cases h2 : stays (movC d) s = true
    ·rw [if_pos h2] at h
     exact ⟨hs, h2, (congrArg Prod.fst h).symm⟩
    ·rw [if_neg h2] at h
     have := congrArg Prod.snd h
     simp at this
   ·rw [if_neg h1] at h
    have := congrArg Prod.snd h
    simp at this
  ·rintro (h | ⟨_, h2, rfl⟩)
   ·exact absurd h.1 hs
   ·rw [if_pos (stays_short hs h2), if_pos h2]
end Go.Solid
end
section
namespace Go.Solid
open Go.Draw
set_option maxRecDepth 100000
def wC (S : Ch) (c : Cl) : Bool := if 0 ≤ c.2.2 then wN S c.1 c.2.1 (c.2.2.toNat + 1) else false
end Go.Solid
end
section
namespace Go.Solid
open Go.Draw
set_option maxRecDepth 100000
def rcF (s : Sol) (z y x : Int) : List Cl := ((rngI x 7).map fun x => ((x, y, z) : Cl)).filter (hasS s)
def rcG (s : Sol) (z y : Int) : List Cl := (rngI y 7).flatMap fun y => rcF s z y 0
def rcH (s : Sol) (z : Int) : List Cl := (rngI z 7).flatMap fun z => rcG s z 0
def rcY (s : Sol) (z y : Int) : List Cl := rcG s z y ++ rcH s (z + 1)
def rcX (s : Sol) (z y x : Int) : List Cl := rcF s z y x ++ rcY s z (y + 1)
theorem rng_none {a b : Int} (h : b < a) : rngI a b = [] := by
 unfold rngI
 rw [show (b - a + 1).toNat = 0 by omega]; rfl
theorem rng_cons {a b : Int} (h : a ≤ b) : rngI a b = a :: rngI (a + 1) b := by
 rw [rngI_append (a := a) (b := a) (c := b) (by omega) h]
 have : rngI a a = [a] := by unfold rngI; rw [show (a - a + 1).toNat = 1 by omega]; simp
 rw [this]; rfl
theorem all_cells : (List.range 512).map cellN = (rngI 0 7).flatMap fun z => (rngI 0 7).flatMap fun y => (rngI 0 7).map fun x => ((x, y, z) : Cl) := by decide +kernel
theorem rc_all (s : Sol) : rcH s 0 = cellsS s := by
 have e : cellsS s = ((List.range 512).map cellN).filter (hasS s) := by
  unfold cellsS bitsS
  rw [List.filter_map]
  congr 1
 rw [e, all_cells]
 unfold rcH rcG rcF
 simp only [List.filter_flatMap]
theorem rcH_end (s : Sol) {z : Int} (h : 7 < z) : rcH s z = [] := by unfold rcH; rw [rng_none h]; rfl
theorem rcH_step (s : Sol) {z : Int} (h : z ≤ 7) : rcH s z = rcY s z 0 := by
 conv => lhs; unfold rcH
 rw [rng_cons h, List.flatMap_cons]; rfl
theorem rcY_end (s : Sol) {z y : Int} (h : 7 < y) : rcY s z y = rcH s (z + 1) := by unfold rcY rcG; rw [rng_none h]; rfl
theorem rcY_step (s : Sol) {z y : Int} (h : y ≤ 7) : rcY s z y = rcX s z y 0 := by
 conv => lhs; unfold rcY rcG
 rw [rng_cons h, List.flatMap_cons, List.append_assoc]; rfl
theorem rcX_end (s : Sol) {z y x : Int} (h : 7 < x) : rcX s z y x = rcY s z (y + 1) := by unfold rcX rcF; rw [rng_none h]; rfl
theorem rcX_step (s : Sol) {z y x : Int} (h : x ≤ 7) : rcX s z y x = if hasS s (x, y, z) then (x, y, z) :: rcX s z y (x + 1) else rcX s z y (x + 1) := by
 conv => lhs; unfold rcX rcF
 rw [rng_cons h, List.map_cons, List.filter_cons]
 split <;> rfl
end Go.Solid
end
section
namespace Go.Solid
open Go.Draw
set_option maxRecDepth 100000
/-- to put a solid behind all that are not greater -/
theorem put_cut {s : Sol} : ∀ {l : List Sol} {k : Nat}, Asc l → k ≤ l.length → (∀ j x, k ≤ j → l[j]? = some x → rank s < rank x) → (∀ x, 0 < k → l[k - 1]? = some x → rank x ≤ rank s) →
  putS l s = if 0 < k ∧ l[k - 1]? = some s then l else l.take k ++ s :: l.drop k
 | [], k, _, hk, _, _ => by
  have : k = 0 := by simpa using hk
  subst this
  simp [putS]
 | x :: l, 0, _, _, h1, _ => by
  have := h1 0 x (Nat.le_refl _) rfl
  simp [putS, this]
 | x :: l, 1, ha, hk, h1, h2 => by
  obtain ⟨a1, a2⟩ := List.pairwise_cons.1 ha
  have hx := h2 x (by omega) rfl
  unfold putS
  rw [if_neg (by omega)]
  by_cases e : x = s
  ·subst e; simp
  ·rw [if_neg e]
   have : putS l s = s :: l := by
    cases l with
    | nil => rfl
    | cons y l =>
     have := h1 1 y (by omega) rfl
     unfold putS
     rw [if_pos this]
   rw [this]
   simp [e]
 | x :: l, k + 2, ha, hk, h1, h2 => by
  obtain ⟨a1, a2⟩ := List.pairwise_cons.1 ha
  have ih := put_cut (s := s) (l := l) (k := k + 1) a2 (by simpa using hk) (fun j y hj hy => h1 (j + 1) y (by omega) (by simpa using hy)) (fun y _ hy => h2 y (by omega) (by simpa using hy))
  have hk' : k < l.length := by simp at hk; omega
  have hy : l[k]? = some l[k] := List.getElem?_eq_getElem hk'
  have h3 := h2 l[k] (by omega) (by simp)
  have h4 := a1 l[k] (List.getElem_mem hk')
  have hne : x ≠ s := fun e => by rw [e] at h4; omega
  unfold putS
  rw [if_neg (by omega), if_neg hne, ih]
  simp only [Nat.add_sub_cancel, Nat.add_succ_sub_one, List.getElem?_cons_succ, Nat.zero_lt_succ, true_and, List.take_succ_cons, List.drop_succ_cons]
  split <;> rfl
theorem put_at {l : List Sol} {s x : Sol} {k : Nat} (ha : Asc l) (hk : k < l.length) (hx : l[k]? = some x) (h1 : ∀ (j : Nat) y, k + 1 ≤ j → l[j]? = some y → rank s < rank y) (h2 : rank x ≤ rank s) :
  putS l s = if x = s then l else l.take (k + 1) ++ s :: l.drop (k + 1) := by
 have e : k + 1 - 1 = k := rfl
 have h3 : ∀ (y : Sol), 0 < k + 1 → l[k + 1 - 1]? = some y → rank y ≤ rank s := by
  intro y _ hy
  rw [e, hx] at hy
  rw [← Option.some.inj hy]
  exact h2
 have h := put_cut (k := k + 1) ha hk h1 h3
 rw [h, e, hx]
 by_cases hs : x = s
 ·subst hs
  rw [if_pos ⟨Nat.succ_pos k, rfl⟩, if_pos rfl]
 ·rw [if_neg hs, if_neg fun hh => hs (Option.some.inj hh.2)]
theorem put_at0 {l : List Sol} {s : Sol} (ha : Asc l) (h1 : ∀ (j : Nat) y, l[j]? = some y → rank s < rank y) : putS l s = l.take 0 ++ s :: l.drop 0 := by
 have h := put_cut (k := 0) ha (Nat.zero_le _) (fun j y _ hy => h1 j y hy) (fun y h => absurd h (Nat.lt_irrefl 0))
 rw [h, if_neg fun hh => absurd hh.1 (Nat.lt_irrefl 0)]
/-- the images in their order, one by one -/
def imgF (s : Sol) (k : Nat) : List Sol := ((imgL s).take k).foldl putS []
theorem imgF_zero (s : Sol) : imgF s 0 = [] := rfl
theorem imgF_end (s : Sol) : imgF s 24 = imagesS s := by
 unfold imgF imagesS sortD
 rw [List.take_of_length_le (by unfold imgL; simp)]
theorem imgF_step (s : Sol) {k : Nat} (h : k < 24) : imgF s (k + 1) = putS (imgF s k) (imageS s k) := by
 unfold imgF
 have e : (imgL s)[k]? = some (imageS s k) := by unfold imgL; rw [List.getElem?_map, List.getElem?_range h]; rfl
 rw [List.take_add_one, e, List.foldl_append]
 rfl
theorem imgF_asc (s : Sol) (k : Nat) : Asc (imgF s k) := (sortD_spec _).1
theorem put_len (s : Sol) : ∀ l : List Sol, (putS l s).length ≤ l.length + 1
 | [] => by simp [putS]
 | x :: l => by
  unfold putS
  split
  ·simp
  ·split
   ·simp
   ·have := put_len s l; simp; omega
theorem imgF_len (s : Sol) : ∀ k, (imgF s k).length ≤ k
 | 0 => by simp [imgF_zero]
 | k + 1 => by
  have ih := imgF_len s k
  by_cases h : k < 24
  ·rw [imgF_step s h]
   have := put_len (imageS s k) (imgF s k)
   omega
  ·have e : imgF s (k + 1) = imgF s k := by
    unfold imgF
    rw [List.take_of_length_le (by unfold imgL; simp; omega), List.take_of_length_le (by unfold imgL; simp; omega)]
   rw [e]; omega
end Go.Solid
end
section
namespace Go.Proofs.YtkfimbonmnoglaaGreatDoor
open Go.ChangeShapes Go.WideShapes Go.ChangeAt Go.RowKit Go.Draw
set_option maxRecDepth 100000
theorem ownK : ownKnob Tryz.prog.godebug = none := by kernel_rfl
theorem laidO : laidOutB Tryz.prog = true := by kernel_rfl
theorem and_t {a b : Bool} (h : a = true) (k : b = true) : (a && b) = true := by rw [h, k]; rfl
theorem gMaps : mapsRowed Tryz.prog = true := by kernel_rfl
theorem gStops : (Tryz.prog.stops == []) = true := by kernel_rfl
theorem gKnobs : (Tryz.prog.stopKnobs == []) = true := by kernel_rfl
theorem gHeard : Tryz.prog.stopsHeard = true := by kernel_rfl
theorem gEnter : Tryz.prog.mayEnter = true := by kernel_rfl
theorem cMain : Tryz.pinned.checked.prog.mainIs = some (true, ("2d2b98d2e7a6d467bd98fd00f57c4e37e19420a44b0c74c4b8b93e866a403526" : String).toList) := by kernel_rfl
end Go.Proofs.YtkfimbonmnoglaaGreatDoor
end
section
namespace Go.Proofs.YtkfimbonmnoglaaGreatDoor
open Go.RowKit Go.Rel Go.Draw Go.Solid
set_option maxRecDepth 100000
attribute [local go_sem] Oper.semAt_some
/-- a list of solids in memory, opened -/
def SlO (W : World) (a : Option Addr) (l : List Sol) : Prop := l = [] ∨ ∃ b off, a = some ⟨b, off, none⟩ ∧ Cells W b off 8 (l.map solL)
theorem SlO.mono {W W' : World} {a : Option Addr} {l : List Sol} (h : SlO W a l) (hb : Below W.heap.size W W') : SlO W' a l := by
 rcases h with h | ⟨b, off, h1, h2⟩
 ·exact .inl h
 ·exact .inr ⟨b, off, h1, h2.mono hb h2.1⟩
theorem SlO.at {W : World} {a : Option Addr} {l : List Sol} (h : SlO W a l) {k : Nat} {x : Sol} (hx : l[k]? = some x) : ∃ b off, a = some ⟨b, off, none⟩ ∧ Cells W b off 8 (l.map solL) := by
 rcases h with rfl | h
 ·cases hx
 ·exact h
theorem SlS.opened {W : World} {v : Value} {l : List Sol} (h : SlS W v l) : ∃ a c, v = .slice a l.length c ∧ SlO W a l := by
 obtain ⟨a, c, hv, _, _, hc⟩ := h
 refine ⟨a, c, by rw [hv, List.length_map], ?_⟩
 rcases hc with hc | hc
 ·exact .inl (List.map_eq_nil_iff.1 hc)
 ·exact .inr hc
theorem Cells.row {W : World} {b off k : Nat} {xs : List (List Value)} (h : Cells W b off k xs) {g : Nat} (hne : b ≠ g) (cs : Array Value) : Cells (W.setRow g cs) b off k xs :=
 ⟨by rw [setRow_size]; exact h.1, fun i j u hu => (cell_row_other _ _ _ _ _ hne).trans (h.2 i j u hu)⟩
end Go.Proofs.YtkfimbonmnoglaaGreatDoor
end
section
namespace Go.Proofs.YtkfimbonmnoglaaGreatDoor
open Go.RowKit Go.Rel Go.Draw Go.Solid
set_option maxRecDepth 100000
set_option maxHeartbeats 4000000 in
theorem inGrid_spec (c : Cl) (w : World) : Calls Tryz.prog 126 #[clV c] w fun e w' => e = .returned (.bool (inG c)) ∧ Below w.heap.size w w' := by
 obtain ⟨x, y, z⟩ := c
 obtain ⟨R, hR⟩ : ∃ R, R = inG (x, y, z) := ⟨_, rfl⟩
 rw [← hR]
 have hx : inG (x, y, z) = ((decide (0 ≤ x) && decide (x ≤ 7)) && (decide (0 ≤ y) && decide (y ≤ 7)) && (decide (0 ≤ z) && decide (z ≤ 7))) := rfl
 rw [hx] at hR
 clear hx
 have HR := Lib.hid hR
 clear hR
 go_enter Tryz.func126, Tryz.ntmps126
 go_wp2_with fail
 all_goals (go_ret; exact ⟨ret_bool (by rw [HR.out]; first | (simp [*]; done) | (simp [*]; omega)), (by repeat (first | with_reducible exact bel_refl _ | with_reducible assumption | with_reducible refine bel_drewN ?_ _ | with_reducible refine bel_drew ?_ | with_reducible refine bel_alloc ?_ _ | with_reducible refine bel_row ?_ ?_ _ | with_reducible refine bel_set ?_ ?_ _ | refine bel_trans ?_ (by with_reducible assumption) | (simp; done) | (simp; omega)))⟩)
theorem shlN {X Y : Nat} (h : 8 * Y + X < 64) : IntKind.u64.wrap (8 * (Y : Int) + X) = ((8 * Y + X : Nat) : Int) := by
 unfold IntKind.wrap; simp [IntKind.signed, IntKind.bits]; omega
set_option maxHeartbeats 4000000 in
theorem refHas_spec (s : Sol) (c : Cl) (w : World) : Calls Tryz.prog 80 #[solV s, clV c] w fun e w' => e = .returned (.bool (hasS s c)) ∧ Below w.heap.size w w' := by
 have HI := Lib.hid (fun W => inGrid_spec c W)
 have hbw : Below w.heap.size w ((w.alloc (.cells #[.int .u64 (pl s 0), .int .u64 (pl s 1), .int .u64 (pl s 2), .int .u64 (pl s 3), .int .u64 (pl s 4), .int .u64 (pl s 5), .int .u64 (pl s 6), .int .u64 (pl s 7)] 26)).alloc (.cells #[.int .i64 c.1, .int .i64 c.2.1, .int .i64 c.2.2] 60)) := (by repeat (first | with_reducible exact bel_refl _ | with_reducible assumption | with_reducible refine bel_drewN ?_ _ | with_reducible refine bel_drew ?_ | with_reducible refine bel_alloc ?_ _ | with_reducible refine bel_row ?_ ?_ _ | with_reducible refine bel_set ?_ ?_ _ | refine bel_trans ?_ (by with_reducible assumption) | (simp; done) | (simp; omega)))
 have HW := Lib.hid hbw; clear hbw
 cases hc : inG c with
 | false =>
  have e0 : hasS s c = false := hasS_out hc
  rw [e0]
  rw [hc] at HI
  clear hc e0
  go_enter Tryz.func80, Tryz.ntmps80
  go_wp2_with fail
  refine wp_region_grow 18 [Is (clV c), Is (.bool false), Is (.bool false), Is undef, Is undef, Is undef, Is undef, Is undef, Is undef, Is undef, Is undef, Is undef, Is undef, Is undef, Is undef, Is undef, Is undef, Is (.bool false)] (by kernel_rfl) (by kernel_rfl) rfl ⟨fun _ _ _ h _ => h, fun _ _ _ h _ => h, fun _ _ _ h _ => h, fun _ _ _ h _ => h, fun _ _ _ h _ => h, fun _ _ _ h _ => h, fun _ _ _ h _ => h, fun _ _ _ h _ => h, fun _ _ _ h _ => h, fun _ _ _ h _ => h, fun _ _ _ h _ => h, fun _ _ _ h _ => h, fun _ _ _ h _ => h, fun _ _ _ h _ => h, fun _ _ _ h _ => h, fun _ _ _ h _ => h, fun _ _ _ h _ => h, fun _ _ _ h _ => h, trivial⟩ ?_
  simp only [List.take_succ_cons, List.take_zero, List.drop_succ_cons, List.drop_zero]
  refine rel_cons ?_ (fun v0 => ?_)
  ·intro w1 hb hF; have hc := (Grows.cells hb).1; have hf := (Grows.cells hb).2; try simp [facts, Is] at hF
   go_simp
   exact Grows.refl _
  refine rel_cons ?_ (fun v1 => ?_)
  ·intro w1 hb hF; have hc := (Grows.cells hb).1; have hf := (Grows.cells hb).2; try simp [facts, Is] at hF
   go_simp
   refine (HI.out _).mono ?_
   rintro e w2 ⟨rfl, hb2⟩
   exact ⟨rfl, hb2⟩
  iterate 16 (refine rel_cons ?_ (fun _ => ?_); · intro w1 hb hF; have hc := (Grows.cells hb).1; have hf := (Grows.cells hb).2; (try simp [facts, Is] at hF); go_simp; (try exact Grows.refl _))
  refine rel_nil ?_
  intro w1 hb hF
  simp [Is, Nat.forall_lt_succ_right] at hF
  simp only [Act.put, List.setIfInBounds_toArray, List.set_cons_succ, List.set_cons_zero, hF]
  clear hF
  have hb' := Lib.hid (bel_trans HW.out hb)
  clear hb
  go_wp2_with fail
  go_ret
  exact ⟨rfl, hb'.out⟩
 | true =>
  have hG := inG_iff.1 hc
  have hpl := has_plane (s := s) hc
  obtain ⟨x, y, z⟩ := c
  simp only at hG
  obtain ⟨X, rfl⟩ : ∃ X : Nat, x = X := ⟨x.toNat, by omega⟩
  obtain ⟨Y, rfl⟩ : ∃ X : Nat, y = X := ⟨y.toNat, by omega⟩
  obtain ⟨Z, rfl⟩ : ∃ X : Nat, z = X := ⟨z.toNat, by omega⟩
  have hn : 8 * Y + X < 64 := by omega
  have hZ : (Z : Int) < 8 := by omega
  have hZ8 : Z < 8 := by omega
  have x1 := shlN hn
  have x2 : IntKind.u64.wrap ((2 : Int) ^ (8 * (Y : Int) + (X : Int)).toNat) = uI (1#64 <<< (8 * Y + X)) := by rw [show (8 * (Y : Int) + (X : Int)).toNat = 8 * Y + X by omega]; exact bitP_val hn
  have x3 : IntKind.i64.wrap (8 * (Y : Int)) = 8 * (Y : Int) := IntWalk.i64_in _ ⟨by omega, by omega⟩
  have x4 : IntKind.i64.wrap (8 * (Y : Int) + X) = 8 * (Y : Int) + X := IntWalk.i64_in _ ⟨by omega, by omega⟩
  rw [hc] at HI
  have HPL := Lib.hid hpl
  clear hc hG hpl
  have ea : bits .and .u64 (pl s Z) (uI (1#64 <<< (8 * Y + X))) = uI (plv s Z &&& 1#64 <<< (8 * Y + X)) := by rw [pl_uI]; exact bits_and_u _ _
  obtain ⟨R, hR⟩ : ∃ R, R = hasS s ((X : Int), (Y : Int), (Z : Int)) := ⟨_, rfl⟩
  have en : (uI (plv s Z &&& 1#64 <<< (8 * Y + X)) != 0) = R := by
   rw [bne_u0, hR, ← HPL.out]
   unfold bitP
   rw [show (8 * (Y : Int) + (X : Int)).toNat = 8 * Y + X by omega]; rfl
  rw [← hR]
  clear hR HPL
  go_enter Tryz.func80, Tryz.ntmps80
  go_wp2_with fail
  refine wp_region_grow 18 [Is (.agg #[.int .i64 (X : Int), .int .i64 (Y : Int), .int .i64 (Z : Int)]), Is (.bool true), Is (.bool true), Is (.pointer (some ⟨w.heap.size + 1, 2, none⟩)), Is (.int .i64 (Z : Int)), Is (.pointer (some ⟨w.heap.size, Z, none⟩)), Is (.int .u64 (pl s Z)), Is (.pointer (some ⟨w.heap.size + 1, 1, none⟩)), Is (.int .i64 (Y : Int)), Is (.int .i64 (8 * (Y : Int))), Is (.pointer (some ⟨w.heap.size + 1, 0, none⟩)), Is (.int .i64 (X : Int)), Is (.int .i64 (8 * (Y : Int) + X)), Is (.int .u64 ((8 * Y + X : Nat) : Int)), Is (.int .u64 (uI (1#64 <<< (8 * Y + X)))), Is (.int .u64 (uI (plv s Z &&& 1#64 <<< (8 * Y + X)))), Is (.bool R), Is (.bool R)] (by kernel_rfl) (by kernel_rfl) rfl ⟨fun _ _ _ h _ => h, fun _ _ _ h _ => h, fun _ _ _ h _ => h, fun _ _ _ h _ => h, fun _ _ _ h _ => h, fun _ _ _ h _ => h, fun _ _ _ h _ => h, fun _ _ _ h _ => h, fun _ _ _ h _ => h, fun _ _ _ h _ => h, fun _ _ _ h _ => h, fun _ _ _ h _ => h, fun _ _ _ h _ => h, fun _ _ _ h _ => h, fun _ _ _ h _ => h, fun _ _ _ h _ => h, fun _ _ _ h _ => h, fun _ _ _ h _ => h, trivial⟩ ?_
  simp only [List.take_succ_cons, List.take_zero, List.drop_succ_cons, List.drop_zero]
  refine rel_cons ?_ (fun v0 => ?_)
  ·intro w1 hb hF; have hc := (Grows.cells hb).1; have hf := (Grows.cells hb).2; try simp [facts, Is] at hF
   go_simp
   exact Grows.refl _
  refine rel_cons ?_ (fun v1 => ?_)
  ·intro w1 hb hF; have hc := (Grows.cells hb).1; have hf := (Grows.cells hb).2; try simp [facts, Is] at hF
   go_simp
   refine (HI.out _).mono ?_
   rintro e w2 ⟨rfl, hb2⟩
   exact ⟨rfl, hb2⟩
  iterate 4 (refine rel_cons ?_ (fun _ => ?_); · intro w1 hb hF; have hc := (Grows.cells hb).1; have hf := (Grows.cells hb).2; (try simp [facts, Is] at hF); go_simp; exact Grows.refl _)
  refine rel_cons ?_ (fun v6 => ?_)
  ·intro w1 hb hF; have hc := (Grows.cells hb).1; have hf := (Grows.cells hb).2; try simp [facts, Is] at hF
   have hz := hZ8
   go_simp
   exact ⟨Grows.refl _, getS s hz _⟩
  iterate 11 (refine rel_cons ?_ (fun _ => ?_); · intro w1 hb hF; have hc := (Grows.cells hb).1; have hf := (Grows.cells hb).2; (try simp [facts, Is] at hF); go_simp; exact Grows.refl _)
  refine rel_nil ?_
  intro w1 hb hF
  simp [Is, Nat.forall_lt_succ_right] at hF
  simp only [Act.put, List.setIfInBounds_toArray, List.set_cons_succ, List.set_cons_zero, hF]
  clear hF
  have hb0 : Below _ _ w1 := hb
  have hb1 := Lib.hid (bel_trans HW.out hb0)
  clear hb hb0
  go_wp2_with fail
  go_ret
  exact ⟨rfl, hb1.out⟩
end Go.Proofs.YtkfimbonmnoglaaGreatDoor
end
section
namespace Go.Proofs.YtkfimbonmnoglaaGreatDoor
open Go.RowKit Go.Rel Go.Draw Go.Solid
set_option maxRecDepth 100000
def withS (s : Sol) (c : Cl) : Sol := s ||| Go.Solid.one (bitN c)
set_option maxHeartbeats 4000000 in
theorem refWith_spec (s : Sol) (c : Cl) (hc : inG c = true) (w : World) : Calls Tryz.prog 127 #[solV s, clV c] w fun e w' => e = .returned (solV (withS s c)) ∧ Below w.heap.size w w' := by
 have hG := inG_iff.1 hc
 obtain ⟨x, y, z⟩ := c
 simp only at hG
 obtain ⟨X, rfl⟩ : ∃ X : Nat, x = X := ⟨x.toNat, by omega⟩
 obtain ⟨Y, rfl⟩ : ∃ X : Nat, y = X := ⟨y.toNat, by omega⟩
 obtain ⟨Z, rfl⟩ : ∃ X : Nat, z = X := ⟨z.toNat, by omega⟩
 have hn : 8 * Y + X < 64 := by omega
 have hZ : (Z : Int) < 8 := by omega
 have hZ8 : Z < 8 := by omega
 have x1 := shlN hn
 have x2 : IntKind.u64.wrap ((2 : Int) ^ (8 * (Y : Int) + (X : Int)).toNat) = uI (1#64 <<< (8 * Y + X)) := by rw [show (8 * (Y : Int) + (X : Int)).toNat = 8 * Y + X by omega]; exact bitP_val hn
 have x3 : IntKind.i64.wrap (8 * (Y : Int)) = 8 * (Y : Int) := IntWalk.i64_in _ ⟨by omega, by omega⟩
 have x4 : IntKind.i64.wrap (8 * (Y : Int) + X) = 8 * (Y : Int) + X := IntWalk.i64_in _ ⟨by omega, by omega⟩
 have eb : uI (1#64 <<< (8 * Y + X)) = uI (bitP ((X : Int), (Y : Int), (Z : Int))) := by
  unfold bitP
  rw [show (8 * (Y : Int) + (X : Int)).toNat = 8 * Y + X by omega]
 have eo := or_cell s hc (Z := Z) rfl
 rw [← eb] at eo
 have hcs := cell_set s hc (Z := Z) rfl
 obtain ⟨K, hK⟩ : ∃ K, K = withS s ((X : Int), (Y : Int), (Z : Int)) := ⟨_, rfl⟩
 have hK2 : s ||| Go.Solid.one (bitN ((X : Int), (Y : Int), (Z : Int))) = K := by rw [hK]; rfl
 rw [hK2] at eo hcs
 rw [← hK]
 have HCS := Lib.hid hcs
 clear hK hK2 hc hG eb hcs
 go_enter Tryz.func127, Tryz.ntmps127
 go_wp2_with fail
 obtain ⟨W0, hW0⟩ : ∃ W0, W0 = ((w.alloc (.cells #[.int .u64 (pl s 0), .int .u64 (pl s 1), .int .u64 (pl s 2), .int .u64 (pl s 3), .int .u64 (pl s 4), .int .u64 (pl s 5), .int .u64 (pl s 6), .int .u64 (pl s 7)] 26)).alloc (.cells #[.int .i64 (X : Int), .int .i64 (Y : Int), .int .i64 (Z : Int)] 60)).alloc (.cells #[.int .u64 0, .int .u64 0, .int .u64 0, .int .u64 0, .int .u64 0, .int .u64 0, .int .u64 0, .int .u64 0] 26) := ⟨_, rfl⟩
 have b1 : Blk W0 w.heap.size #[.int .u64 (pl s 0), .int .u64 (pl s 1), .int .u64 (pl s 2), .int .u64 (pl s 3), .int .u64 (pl s 4), .int .u64 (pl s 5), .int .u64 (pl s 6), .int .u64 (pl s 7)] 26 := by subst hW0; exact (by repeat (first | with_reducible assumption | (refine Blk.at _ _ ?_; (simp; done)) | with_reducible refine Blk.alloc ?_ _ | with_reducible refine Blk.drew ?_ | with_reducible refine Blk.rowS ?_ _ | with_reducible refine Blk.rowO ?_ _ (by simp)))
 have b2 : Blk W0 (w.heap.size + 1) #[.int .i64 (X : Int), .int .i64 (Y : Int), .int .i64 (Z : Int)] 60 := by subst hW0; exact (by repeat (first | with_reducible assumption | (refine Blk.at _ _ ?_; (simp; done)) | with_reducible refine Blk.alloc ?_ _ | with_reducible refine Blk.drew ?_ | with_reducible refine Blk.rowS ?_ _ | with_reducible refine Blk.rowO ?_ _ (by simp)))
 have b3 : Blk W0 (w.heap.size + 1 + 1) #[.int .u64 0, .int .u64 0, .int .u64 0, .int .u64 0, .int .u64 0, .int .u64 0, .int .u64 0, .int .u64 0] 26 := by subst hW0; exact Blk.at _ _ (by simp)
 have hbel : Below w.heap.size w W0 := by subst hW0; exact (by repeat (first | with_reducible exact bel_refl _ | with_reducible assumption | with_reducible refine bel_drewN ?_ _ | with_reducible refine bel_drew ?_ | with_reducible refine bel_alloc ?_ _ | with_reducible refine bel_row ?_ ?_ _ | with_reducible refine bel_set ?_ ?_ _ | refine bel_trans ?_ (by with_reducible assumption) | (simp; done) | (simp; omega)))
 rw [← hW0]
 clear hW0
 have HB := Lib.hid (And.intro b1 (And.intro b2 (And.intro b3 hbel)))
 have c1 := b1.cell; have l1 := b1.lt; have f1 := b1.free Z
 have c2 := b2.cell; have l2 := b2.lt
 have cz : W0.cell? ⟨w.heap.size, Z, none⟩ = some (.int .u64 (pl s Z)) := by rw [c1]; exact mixA_get (fun i => pl s i) hZ8
 clear b1 b2 b3 hbel c1
 refine Go.Rel.region_still_tail 16 (by kernel_rfl) (by kernel_rfl) ?_
 simp only [List.take_succ_cons, List.take_zero, List.drop_succ_cons, List.drop_zero]
 repeat still_step
 refine wpStill_nil ?_
 go_upto_region 2 with fail
 have hset : Blk (W0.setCell ⟨w.heap.size, Z, none⟩ (.int .u64 (pl K Z))).drew w.heap.size #[.int .u64 (pl K 0), .int .u64 (pl K 1), .int .u64 (pl K 2), .int .u64 (pl K 3), .int .u64 (pl K 4), .int .u64 (pl K 5), .int .u64 (pl K 6), .int .u64 (pl K 7)] 26 := by
  have := (HB.out.1.set Z (.int .u64 (pl K Z))).drew
  have h2 : (#[.int .u64 (pl s 0), .int .u64 (pl s 1), .int .u64 (pl s 2), .int .u64 (pl s 3), .int .u64 (pl s 4), .int .u64 (pl s 5), .int .u64 (pl s 6), .int .u64 (pl s 7)] : Array Value).setIfInBounds Z (.int .u64 (pl K Z)) = #[.int .u64 (pl K 0), .int .u64 (pl K 1), .int .u64 (pl K 2), .int .u64 (pl K 3), .int .u64 (pl K 4), .int .u64 (pl K 5), .int .u64 (pl K 6), .int .u64 (pl K 7)] := HCS.out
  rw [h2] at this
  exact this
 have HG := Lib.hid (gb_drew (gb_set (gb_refl W0 (some w.heap.size)) ⟨w.heap.size, Z, none⟩ rfl (.int .u64 (pl K Z))))
 obtain ⟨W1, hW1⟩ : ∃ x, x = (W0.setCell ⟨w.heap.size, Z, none⟩ (.int .u64 (pl K Z))).drew := ⟨_, rfl⟩
 rw [← hW1] at hset HG ⊢
 have B3 := HB.out.2.2.1.gb HG.out (by simp; omega)
 have cX := hset.cell; have lX := hset.lt
 have hb := gb_bel HB.out.2.2.2 HG.out (Nat.le_refl _)
 have r3 := B3.row; have l3 := B3.lt
 have cF := (B3.rowS #[.int .u64 (pl K 0), .int .u64 (pl K 1), .int .u64 (pl K 2), .int .u64 (pl K 3), .int .u64 (pl K 4), .int .u64 (pl K 5), .int .u64 (pl K 6), .int .u64 (pl K 7)]).cell
 rw [← B3.rw]
 clear B3 hset hW1 HB HG cz c2
 go_wp2_with fail
 exact bodyPost_ret (v := solV K) (by simp [results, Tryz.results127, go_sem, cF]) rfl ⟨rfl, bel_row hb (by omega) _⟩
end Go.Proofs.YtkfimbonmnoglaaGreatDoor
end
section
namespace Go.Proofs.YtkfimbonmnoglaaGreatDoor
open Go.RowKit Go.Rel Go.Draw Go.Solid
set_option maxRecDepth 100000
attribute [local irreducible] rcH rcY rcX
theorem cells512 (s : Sol) : (cellsS s).length ≤ 512 := cellsS_len s
set_option maxHeartbeats 8000000 in
theorem refCells_spec (s : Sol) (w : World) : Calls Tryz.prog 83 #[solV s] w fun e w' => ∃ u, e = .returned u ∧ OwnCl w' w.heap.size u (cellsS s) ∧ Below w.heap.size w w' := by
 obtain ⟨i0, hi, hz0, hz1, hz2⟩ := info_parts infoCell
 have HI0 := Lib.hid (And.intro hi (And.intro hz0 (And.intro hz1 hz2))); clear hi hz0 hz1 hz2
 have HS := Lib.hid (rc_all s)
 have HL := Lib.hid (cells512 s)
 have HH := Lib.hid fun c W => refHas_spec s c W
 obtain ⟨L, hL⟩ : ∃ L, L = cellsS s := ⟨_, rfl⟩
 rw [← hL] at HS HL ⊢
 clear hL
 go_enter Tryz.func83, Tryz.ntmps83
 go_wp2_with fail
 obtain ⟨W0, hW0⟩ : ∃ W0, W0 = w.alloc (.cells #[.int .u64 (pl s 0), .int .u64 (pl s 1), .int .u64 (pl s 2), .int .u64 (pl s 3), .int .u64 (pl s 4), .int .u64 (pl s 5), .int .u64 (pl s 6), .int .u64 (pl s 7)] 26) := ⟨_, rfl⟩
 have hb0 : Blk W0 w.heap.size #[.int .u64 (pl s 0), .int .u64 (pl s 1), .int .u64 (pl s 2), .int .u64 (pl s 3), .int .u64 (pl s 4), .int .u64 (pl s 5), .int .u64 (pl s 6), .int .u64 (pl s 7)] 26 ∧ Below w.heap.size w W0 := by rw [hW0]; exact ⟨Blk.new _ _ _, bel_alloc (bel_refl w) _⟩
 rw [← hW0]
 clear hW0
 have HB := Lib.hid hb0
 clear hb0
 go_loopw [3, 4] (fun uv zv wx => ∃ (z : Int) (pre : List Cl), 0 ≤ z ∧ zv = .int .i64 z ∧ Hid (pre ++ rcH s z = L ∧ OwnCl wx (w.heap.size + 1) uv pre ∧ Blk wx w.heap.size #[.int .u64 (pl s 0), .int .u64 (pl s 1), .int .u64 (pl s 2), .int .u64 (pl s 3), .int .u64 (pl s 4), .int .u64 (pl s 5), .int .u64 (pl s 6), .int .u64 (pl s 7)] 26 ∧ Below w.heap.size w wx)) (fun _ zv _ => (8 - intOf zv).toNat)
 case atStart => exact ⟨0, [], by omega, rfl, Lib.hid ⟨HS.out, World.ownsRow_nil _ _ _ _, HB.out.1, HB.out.2⟩⟩
 case round =>
  obtain ⟨z, pre, hz, rfl, HZ⟩ := hrel
  by_cases hz1 : z ≤ 7
  ·have HY0 := HZ.out.1
   rw [rcH_step s hz1] at HY0
   have HY1 := Lib.hid (And.intro HY0 HZ.out.2)
   have hz8 : z < 8 := by omega
   clear HY0 HZ
   go_wp2_with fail
   go_loopw [3, 5] (fun uv yv wx => ∃ (y : Int) (pre : List Cl), 0 ≤ y ∧ yv = .int .i64 y ∧ Hid (pre ++ rcY s z y = L ∧ OwnCl wx (w.heap.size + 1) uv pre ∧ Blk wx w.heap.size #[.int .u64 (pl s 0), .int .u64 (pl s 1), .int .u64 (pl s 2), .int .u64 (pl s 3), .int .u64 (pl s 4), .int .u64 (pl s 5), .int .u64 (pl s 6), .int .u64 (pl s 7)] 26 ∧ Below w.heap.size w wx)) (fun _ yv _ => (8 - intOf yv).toNat)
   case atStart => exact ⟨0, pre, by omega, rfl, HY1⟩
   case round =>
    clear HY1
    obtain ⟨y, pre, hy, rfl, HY⟩ := hrel
    by_cases hy1 : y ≤ 7
    ·have HX0 := HY.out.1
     rw [rcY_step s hy1] at HX0
     have HX1 := Lib.hid (And.intro HX0 HY.out.2)
     have hy8 : y < 8 := by omega
     clear HX0 HY
     go_wp2_with fail
     go_loopw [3, 6] (fun uv xv wx => ∃ (x : Int) (pre : List Cl), 0 ≤ x ∧ xv = .int .i64 x ∧ Hid (pre ++ rcX s z y x = L ∧ OwnCl wx (w.heap.size + 1) uv pre ∧ Blk wx w.heap.size #[.int .u64 (pl s 0), .int .u64 (pl s 1), .int .u64 (pl s 2), .int .u64 (pl s 3), .int .u64 (pl s 4), .int .u64 (pl s 5), .int .u64 (pl s 6), .int .u64 (pl s 7)] 26 ∧ Below w.heap.size w wx)) (fun _ xv _ => (8 - intOf xv).toNat)
     case atStart => exact ⟨0, pre, by omega, rfl, HX1⟩
     case round =>
      clear HX1
      obtain ⟨x, pre, hx, rfl, HX⟩ := hrel
      by_cases hx1 : x ≤ 7
      ·have hx8 : x < 8 := by omega
       have hst := rcX_step s (z := z) (y := y) hx1
       have HH1 := Lib.hid fun W => HH.out (x, y, z) W
       obtain ⟨q, hq⟩ : ∃ q, q = hasS s (x, y, z) := ⟨_, rfl⟩
       rw [← hq] at hst HH1
       clear hq
       have HQ := Lib.hid hst
       have hlen : pre.length ≤ 512 := by
        have h1 := HL.out
        rw [← HX.out.1, List.length_append] at h1; omega
       clear hst
       have cs := HX.out.2.2.1.cell; have ls := HX.out.2.2.1.lt
       go_wp2_with fail
       refine (HH1.out _).mono ?_
       rintro e w2 ⟨rfl, hb⟩
       clear cs ls
       have hAB : Below wr.heap.size wr w2 := bel_trans (bel_alloc (bel_refl wr) _) hb
       have c7 := ((Blk.new wr #[.int .i64 x, .int .i64 y, .int .i64 z] 60).grow hb).cell
       have l7 := ((Blk.new wr #[.int .i64 x, .int .i64 y, .int .i64 z] 60).grow hb).lt
       have hE := And.intro (own_gb HX.out.2.1 hAB) (And.intro (HX.out.2.2.1.grow hAB) (bel_trans HX.out.2.2.2 hAB))
       have HX0 := Lib.hid HX.out.1
       have HE := Lib.hid hE
       obtain ⟨wB, hwB⟩ : ∃ W, W = w2 := ⟨_, rfl⟩
       rw [← hwB] at HE c7 l7 ⊢
       have hsz := HE.out.2.2.size
       have lB := HE.out.2.1.lt
       have hlen2 := hlen
       clear hwB hb hAB hE HX
       cases q with
       | false =>
        have HE2 := Lib.hid ((HQ.out.trans (if_neg (by decide))) ▸ HX0.out)
        clear HQ HX0
        go_wp2_with fail
        go_roundw
        case rel => exact ⟨x + 1, pre, by omega, by go_num, Lib.hid ⟨HE2.out, HE.out⟩⟩
        case measure => simp [intOf]; omega
       | true =>
        have HE2 := Lib.hid ((HQ.out.trans (if_pos rfl)) ▸ HX0.out)
        clear HQ HX0
        go_wp2_with (first
         | (at_builtin; refine wpList_append_own _ rfl _ _ 71 rfl (w.heap.size + 1) 60 i0 _ 3 24 Tryz.underlying71 HI0.out.1 HI0.out.2.1 HI0.out.2.2.1 HI0.out.2.2.2 rfl (by decide) _ _ _ rfl (HE.out.1.alloc _) ⟨wB.heap.size, 0, none⟩ 1 1 (clL (x, y, z)) rfl rfl (blk_newsS (Blk.new wB _ 60)) (fun y hy => by simp [clL] at hy; rcases hy with rfl | rfl | rfl <;> rfl) (by unfold maxLen; omega) (by omega) (by simp; omega) ?_; intro v' w3 hown' hgrow3 hnil3))
        go_roundw
        case rel =>
         refine ⟨x + 1, pre ++ [(x, y, z)], by omega, by go_num, Lib.hid ⟨by rw [List.append_assoc]; exact HE2.out, ?_, ?_, ?_⟩⟩
         ·unfold OwnCl
          rw [List.length_append, List.map_append, List.flatten_append]
          simpa using hown'
         ·exact (HE.out.2.1.alloc _).gb hgrow3 (fun e => by have := (HE.out.1.lt _ e.symm).1; omega)
         ·exact HE.out.2.2.trans (((bel_alloc (bel_refl wB) _).mono hsz).grown hgrow3 (by simp; omega) (fun j hj => by have := (HE.out.1.lt j hj).1; omega))
        case measure => simp [intOf]; omega
      ·have HE := HX.out.1
       rw [rcX_end s (by omega)] at HE
       have HE1 := Lib.hid (And.intro HE HX.out.2)
       clear HE HX
       have hx9 : ¬ (x < 8) := by omega
       go_wp2_with fail
       go_roundw
       case rel => exact ⟨y + 1, pre, by omega, by go_num, HE1⟩
       case measure => simp [intOf]; omega
    ·have HE := HY.out.1
     rw [rcY_end s (by omega)] at HE
     have HE1 := Lib.hid (And.intro HE HY.out.2)
     have hy9 : ¬ (y < 8) := by omega
     clear HE HY
     go_wp2_with fail
     go_roundw
     case rel => exact ⟨z + 1, pre, by omega, by go_num, HE1⟩
     case measure => simp [intOf]; omega
  ·have HE := HZ.out.1
   rw [rcH_end s (by omega), List.append_nil] at HE
   have HE1 := Lib.hid (And.intro HE HZ.out.2)
   have hz9 : ¬ (z < 8) := by omega
   clear HE HZ
   go_wp2_with fail
   go_ret
   refine ⟨_, rfl, ?_, HE1.out.2.2.2⟩
   rw [← HE1.out.1]; exact own_weak HE1.out.2.1 (by omega)
end Go.Proofs.YtkfimbonmnoglaaGreatDoor
end
