import Derived.Test.YtkfimbonmnoglaaGreatDoorB27
import Derived.Test.YtkfimbonmnoglaaGreatDoorCards
import Derived.Test.YtkfimbonmnoglaaGreatDoorTie
import Derived.Deep.DeepHandedRow
import Derived.Lib.LaidTab
import Derived.LaidSub
import Derived.Carry
import Derived.ProofKit
import Derived.Deep.Cut
/-
  Given contracts of functions of the program, and laws for them, one behind the other.
-/
set_option linter.unusedVariables false
set_option linter.unusedSimpArgs false
set_option linter.unusedSectionVars false
section
namespace Go.Solid
open Go.Draw
set_option maxRecDepth 100000
/-- the reference starts at the first cell -/
theorem loF_first {s : Sol} {c : Cl} {l : List Cl} (h : cellsS s = c :: l) : loF c (cellsS s) = loS s := by
 have hs : s ≠ 0 := fun e => by rw [e, cellsS_zero] at h; cases h
 have key : ∀ k, co (loF c (cellsS s)) k = co (loS s) k := fun k => by
  have hc : hasS s c = true := mem_cellsS.1 (by rw [h]; exact List.mem_cons_self)
  obtain ⟨d, hd, e⟩ := loS_at hs k
  obtain ⟨h1, h2, h3⟩ := loF_spec k (cellsS s) c
  have h4 := h2 d (mem_cellsS.2 hd)
  rcases h3 with h3 | ⟨f, hf, h3⟩
  ·have := loS_le hc k; omega
  ·have := loS_le (mem_cellsS.1 hf) k; omega
 exact co_ext (key 0) (key 1) (key 2)
theorem hiF_first {s : Sol} {c : Cl} {l : List Cl} (h : cellsS s = c :: l) : hiF c (cellsS s) = hiS s := by
 have hs : s ≠ 0 := fun e => by rw [e, cellsS_zero] at h; cases h
 have key : ∀ k, co (hiF c (cellsS s)) k = co (hiS s) k := fun k => by
  have hc : hasS s c = true := mem_cellsS.1 (by rw [h]; exact List.mem_cons_self)
  obtain ⟨d, hd, e⟩ := hiS_at hs k
  obtain ⟨h1, h2, h3⟩ := hiF_spec k (cellsS s) c
  have h4 := h2 d (mem_cellsS.2 hd)
  rcases h3 with h3 | ⟨f, hf, h3⟩
  ·have := le_hiS hc k; omega
  ·have := le_hiS (mem_cellsS.1 hf) k; omega
 exact co_ext (key 0) (key 1) (key 2)
end Go.Solid
end
section
namespace Go.Solid
open Go.Draw
set_option maxRecDepth 100000
theorem mem_rngI {a b i : Int} : i ∈ rngI a b ↔ a ≤ i ∧ i ≤ b := by
 unfold rngI
 rw [List.mem_map]
 constructor
 ·rintro ⟨k, hk, rfl⟩
  rw [List.mem_range] at hk; omega
 ·intro h
  exact ⟨(i - a).toNat, by rw [List.mem_range]; omega, by omega⟩
theorem flat_none {α β : Type} {g : α → List β} : ∀ {l : List α}, (∀ i ∈ l, g i = []) → l.flatMap g = []
 | [], _ => rfl
 | a :: l, h => by
  rw [List.flatMap_cons, h a List.mem_cons_self, flat_none fun i hi => h i (List.mem_cons_of_mem _ hi)]; rfl
theorem flat_congr {α β : Type} {f g : α → List β} : ∀ {l : List α}, (∀ i ∈ l, f i = g i) → l.flatMap f = l.flatMap g
 | [], _ => rfl
 | a :: l, h => by
  rw [List.flatMap_cons, List.flatMap_cons, h a List.mem_cons_self, flat_congr fun i hi => h i (List.mem_cons_of_mem _ hi)]
/-- what gives nothing may be left out on both ends -/
theorem rng_narrow {β : Type} {g : Int → List β} {A B a b : Int} (hA : A ≤ a) (hB : b ≤ B) (h : ∀ i, A ≤ i → i ≤ B → g i ≠ [] → a ≤ i ∧ i ≤ b) : (rngI A B).flatMap g = (rngI a b).flatMap g := by
 by_cases hab : a ≤ b + 1
 ·have e1 : rngI A B = rngI A (a - 1) ++ (rngI a b ++ rngI (b + 1) B) := by
   rw [rngI_append (b := a - 1) (by omega) (by omega), show a - 1 + 1 = a by omega, rngI_append hab hB]
  rw [e1, List.flatMap_append, List.flatMap_append]
  have h1 : (rngI A (a - 1)).flatMap g = [] := flat_none fun i hi => by
   rw [mem_rngI] at hi
   refine Classical.byContradiction fun hn => ?_
   have := h i hi.1 (by omega) hn; omega
  have h2 : (rngI (b + 1) B).flatMap g = [] := flat_none fun i hi => by
   rw [mem_rngI] at hi
   refine Classical.byContradiction fun hn => ?_
   have := h i (by omega) hi.2 hn; omega
  rw [h1, h2, List.nil_append, List.append_nil]
 ·have h1 : (rngI A B).flatMap g = [] := flat_none fun i hi => by
   rw [mem_rngI] at hi
   refine Classical.byContradiction fun hn => ?_
   have := h i hi.1 hi.2 hn; omega
  have h2 : rngI a b = [] := by unfold rngI; rw [show (b - a + 1).toNat = 0 by omega]; rfl
  rw [h1, h2]; rfl
def fitsR (a b : Sol) : List (Mt × Sol) := if countS a < countS b then [] else (List.range 24).flatMap fun t => rowZ a (spunS b t) t (negC (loS (spunS b t))) (subC (7, 7, 7) (hiS (spunS b t)))
/-- what stands inside a stands in the room of a -/
theorem room_of {a p : Sol} {d : Cl} (hp : p ≠ 0) (hs : stays (movC d) p = true) (h : subS (imgS (movC d) p) a = true) : a ≠ 0 ∧ ∀ k, co (loS a) k - co (loS p) k ≤ co d k ∧ co d k ≤ co (hiS a) k - co (hiS p) k := by
 refine ⟨fun e => ?_, fun k => ?_⟩
 ·subst e
  obtain ⟨c, hc⟩ := has_some (img_ne hs hp)
  have := subS_iff.1 h c hc
  unfold hasS at this
  simp at this
 ·obtain ⟨c, hc, e1⟩ := loS_at hp k
  obtain ⟨c', hc', e2⟩ := hiS_at hp k
  have h1 := loS_le (subS_iff.1 h _ (mem_cellsS.1 ((mem_img hs).2 ⟨c, mem_cellsS.2 hc, rfl⟩))) k
  have h2 := le_hiS (subS_iff.1 h _ (mem_cellsS.1 ((mem_img hs).2 ⟨c', mem_cellsS.2 hc', rfl⟩))) k
  rw [co_mov] at h1 h2
  omega
theorem rowZ_room {a p : Sol} (t : Nat) (ha : a ≠ 0) (hp : p ≠ 0) : rowZ a p t (negC (loS p)) (subC (7, 7, 7) (hiS p)) = rowZ a p t (subC (loS a) (loS p)) (subC (hiS a) (hiS p)) := by
 have hla := inG_iff.1 (loS_in ha)
 have hha := inG_iff.1 (hiS_in ha)
 have key : ∀ x y z : Int, (- (loS p).1 ≤ x ∧ x ≤ 7 - (hiS p).1) → (- (loS p).2.1 ≤ y ∧ y ≤ 7 - (hiS p).2.1) → (- (loS p).2.2 ≤ z ∧ z ≤ 7 - (hiS p).2.2) → tryX a p t z y x ≠ [] → ((loS a).1 - (loS p).1 ≤ x ∧ x ≤ (hiS a).1 - (hiS p).1) ∧ ((loS a).2.1 - (loS p).2.1 ≤ y ∧ y ≤ (hiS a).2.1 - (hiS p).2.1) ∧ ((loS a).2.2 - (loS p).2.2 ≤ z ∧ z ≤ (hiS a).2.2 - (hiS p).2.2) := by
  intro x y z hx hy hz hn
  unfold tryX at hn
  split at hn
  ·rename_i hs
   have hst : stays (movC (x, y, z)) p = true := range_stays fun k => by
    match k with
    | 0 => exact hx
    | 1 => exact hy
    | _ + 2 => exact hz
   have := (room_of hp hst hs).2
   exact ⟨this 0, this 1, this 2⟩
  ·exact absurd rfl hn
 have hX : ∀ y z : Int, (- (loS p).2.1 ≤ y ∧ y ≤ 7 - (hiS p).2.1) → (- (loS p).2.2 ≤ z ∧ z ≤ 7 - (hiS p).2.2) → rowX a p t z y (negC (loS p)) (subC (7, 7, 7) (hiS p)) = rowX a p t z y (subC (loS a) (loS p)) (subC (hiS a) (hiS p)) := by
  intro y z hy hz
  unfold rowX
  refine rng_narrow ?_ ?_ fun x h1 h2 hn => (key x y z ⟨h1, h2⟩ hy hz hn).1
  ·show - (loS p).1 ≤ (loS a).1 - (loS p).1; omega
  ·show (hiS a).1 - (hiS p).1 ≤ 7 - (hiS p).1; omega
 have some_of : ∀ {α β : Type} {g : α → List β} {l : List α}, l.flatMap g ≠ [] → ∃ i ∈ l, g i ≠ [] := by
  intro α β g l h
  refine Classical.byContradiction fun hno => h (flat_none fun i hi => Classical.byContradiction fun hg => hno ⟨i, hi, hg⟩)
 have hY : ∀ z : Int, (- (loS p).2.2 ≤ z ∧ z ≤ 7 - (hiS p).2.2) → rowY a p t z (negC (loS p)) (subC (7, 7, 7) (hiS p)) = rowY a p t z (subC (loS a) (loS p)) (subC (hiS a) (hiS p)) := by
  intro z hz
  unfold rowY
  refine (flat_congr (g := fun y => rowX a p t z y (subC (loS a) (loS p)) (subC (hiS a) (hiS p))) fun y hy => hX y z (mem_rngI.1 hy) hz).trans ?_
  refine rng_narrow ?_ ?_ fun y h1 h2 hn => ?_
  ·show - (loS p).2.1 ≤ (loS a).2.1 - (loS p).2.1; omega
  ·show (hiS a).2.1 - (hiS p).2.1 ≤ 7 - (hiS p).2.1; omega
  ·rw [← hX y z ⟨h1, h2⟩ hz] at hn
   obtain ⟨x, hx, hg⟩ := some_of hn
   exact (key x y z (mem_rngI.1 hx) ⟨h1, h2⟩ hz hg).2.1
 unfold rowZ
 refine (flat_congr (g := fun z => rowY a p t z (subC (loS a) (loS p)) (subC (hiS a) (hiS p))) fun z hz => hY z (mem_rngI.1 hz)).trans ?_
 refine rng_narrow ?_ ?_ fun z h1 h2 hn => ?_
 ·show - (loS p).2.2 ≤ (loS a).2.2 - (loS p).2.2; omega
 ·show (hiS a).2.2 - (hiS p).2.2 ≤ 7 - (hiS p).2.2; omega
 ·rw [← hY z ⟨h1, h2⟩] at hn
  obtain ⟨y, hy, hg⟩ := some_of hn
  obtain ⟨x, hx, hg2⟩ := some_of hg
  exact (key x y z (mem_rngI.1 hx) (mem_rngI.1 hy) ⟨h1, h2⟩ hg2).2.2
/-- both look alike -/
theorem fits_eq {a b : Sol} (hb : b ≠ 0) : fitsR a b = fitsL a b := by
 unfold fitsR fitsL
 by_cases hc : countS a < countS b
 ·rw [if_pos hc, if_pos (.inr hc)]
 ·have ha : a ≠ 0 := fun e => by
   subst e
   have h0 : countS b ≠ 0 := fun h => hb (count_zero.1 h)
   rw [count_zero.2 rfl] at hc
   omega
  rw [if_neg hc, if_neg (fun h => h.elim ha hc)]
  exact flat_congr fun t _ => rowZ_room t ha (spun_ne hb t)
end Go.Solid
end
section
namespace Go.Solid
open Go.Draw
set_option maxRecDepth 100000
def turnedM (s : Sol) (t : Int) : Sol × Int := if inB t 0 23 then (spunS s t.toNat, 0) else (0, 1)
/-- what moves within the grid is short -/
theorem stays_short {s : Sol} {d : Cl} (hs : s ≠ 0) (h : stays (movC d) s = true) : shortB d = true := by
 obtain ⟨c, hc⟩ := has_some hs
 have h1 := co_in (has_in hc)
 have h2 := co_in (stays_iff.1 h c hc)
 refine shortB_iff.2 fun k => ?_
 have := h1 k; have := h2 k
 rw [co_mov] at this
 omega
theorem movedM_ok {s p : Sol} {d : Cl} : movedM s d = (p, 0) ↔ (s = 0 ∧ p = 0) ∨ (s ≠ 0 ∧ stays (movC d) s = true ∧ p = imgS (movC d) s) := by
 unfold movedM
 by_cases hs : s = 0
 ·rw [if_pos hs]
  simp only [Prod.mk.injEq, and_true]
  exact ⟨fun h => .inl ⟨hs, h.symm⟩, fun h => h.elim (fun h => h.2.symm) fun h => absurd hs h.1⟩
 ·rw [if_neg hs]
  constructor
  ·intro h
   right
   by_cases h1 : shortB d = true
   ·rw [if_pos h1] at h
    by_cases h2 : stays (movC d) s = true
    ·rw [if_pos h2] at h
     exact ⟨hs, h2, (congrArg Prod.fst h).symm⟩
    ·rw [if_neg h2] at h
     have := congrArg Prod.snd h
     simp at this
   ·rw [if_neg h1] at h
    have := congrArg Prod.snd h
    simp at this
  ·rintro (h | ⟨_, h2, rfl⟩)
   ·exact absurd h.1 hs
   ·rw [if_pos (stays_short hs h2), if_pos h2]
end Go.Solid
end
section
namespace Go.Solid
open Go.Draw
set_option maxRecDepth 100000
def rcF (s : Sol) (z y x : Int) : List Cl := ((rngI x 7).map fun x => ((x, y, z) : Cl)).filter (hasS s)
def rcG (s : Sol) (z y : Int) : List Cl := (rngI y 7).flatMap fun y => rcF s z y 0
def rcH (s : Sol) (z : Int) : List Cl := (rngI z 7).flatMap fun z => rcG s z 0
def rcY (s : Sol) (z y : Int) : List Cl := rcG s z y ++ rcH s (z + 1)
def rcX (s : Sol) (z y x : Int) : List Cl := rcF s z y x ++ rcY s z (y + 1)
theorem rng_none {a b : Int} (h : b < a) : rngI a b = [] := by
 unfold rngI
 rw [show (b - a + 1).toNat = 0 by omega]; rfl
theorem rng_cons {a b : Int} (h : a ≤ b) : rngI a b = a :: rngI (a + 1) b := by
 rw [rngI_append (a := a) (b := a) (c := b) (by omega) h]
 have : rngI a a = [a] := by unfold rngI; rw [show (a - a + 1).toNat = 1 by omega]; simp
 rw [this]; rfl
theorem all_cells : (List.range 512).map cellN = (rngI 0 7).flatMap fun z => (rngI 0 7).flatMap fun y => (rngI 0 7).map fun x => ((x, y, z) : Cl) := by decide +kernel
theorem rc_all (s : Sol) : rcH s 0 = cellsS s := by
 have e : cellsS s = ((List.range 512).map cellN).filter (hasS s) := by
  unfold cellsS bitsS
  rw [List.filter_map]
  congr 1
 rw [e, all_cells]
 unfold rcH rcG rcF
 simp only [List.filter_flatMap]
theorem rcH_end (s : Sol) {z : Int} (h : 7 < z) : rcH s z = [] := by unfold rcH; rw [rng_none h]; rfl
theorem rcH_step (s : Sol) {z : Int} (h : z ≤ 7) : rcH s z = rcY s z 0 := by
 conv => lhs; unfold rcH
 rw [rng_cons h, List.flatMap_cons]; rfl
theorem rcY_end (s : Sol) {z y : Int} (h : 7 < y) : rcY s z y = rcH s (z + 1) := by unfold rcY rcG; rw [rng_none h]; rfl
theorem rcY_step (s : Sol) {z y : Int} (h : y ≤ 7) : rcY s z y = rcX s z y 0 := by
 conv => lhs; unfold rcY rcG
 rw [rng_cons h, List.flatMap_cons, List.append_assoc]; rfl
theorem rcX_end (s : Sol) {z y x : Int} (h : 7 < x) : rcX s z y x = rcY s z (y + 1) := by unfold rcX rcF; rw [rng_none h]; rfl
theorem rcX_step (s : Sol) {z y x : Int} (h : x ≤ 7) : rcX s z y x = if hasS s (x, y, z) then (x, y, z) :: rcX s z y (x + 1) else rcX s z y (x + 1) := by
 conv => lhs; unfold rcX rcF
 rw [rng_cons h, List.map_cons, List.filter_cons]
 split <;> rfl
end Go.Solid
end
section
namespace Go.Solid
open Go.Draw
set_option maxRecDepth 100000
def lR (b : Sol) (t : Nat) : Cl := negC (loS (spunS b t))
def qT (a b : Sol) (t : Nat) : List (Mt × Sol) := ((List.range 24).drop t).flatMap fun t => rowZ a (spunS b t) t (lR b t) (hR b t)
def qZ (a b : Sol) (t : Nat) (z : Int) : List (Mt × Sol) := ((rngI z (hR b t).2.2).flatMap fun z => rowY a (spunS b t) t z (lR b t) (hR b t)) ++ qT a b (t + 1)
def qY (a b : Sol) (t : Nat) (z y : Int) : List (Mt × Sol) := ((rngI y (hR b t).2.1).flatMap fun y => rowX a (spunS b t) t z y (lR b t) (hR b t)) ++ qZ a b t (z + 1)
def qX (a b : Sol) (t : Nat) (z y x : Int) : List (Mt × Sol) := ((rngI x (hR b t).1).flatMap fun x => tryX a (spunS b t) t z y x) ++ qY a b t z (y + 1)
theorem qT_all {a b : Sol} (hc : ¬ countS a < countS b) : qT a b 0 = fitsR a b := by
 unfold fitsR qT lR hR
 rw [if_neg hc]; rfl
theorem qT_end (a b : Sol) : qT a b 24 = [] := by
 unfold qT
 rw [List.drop_eq_nil_of_le (by simp)]; rfl
theorem qT_step (a b : Sol) {t : Nat} (ht : t < 24) : qT a b t = qZ a b t (lR b t).2.2 := by
 unfold qZ
 have e : (List.range 24).drop t = t :: (List.range 24).drop (t + 1) := by
  rw [List.drop_eq_getElem_cons (by simpa using ht)]
  simp
 unfold qT
 rw [e, List.flatMap_cons]
 rfl
theorem qZ_end {a b : Sol} {t : Nat} {z : Int} (h : (hR b t).2.2 < z) : qZ a b t z = qT a b (t + 1) := by unfold qZ; rw [rng_none h]; rfl
theorem qZ_step {a b : Sol} {t : Nat} {z : Int} (h : z ≤ (hR b t).2.2) : qZ a b t z = qY a b t z (lR b t).2.1 := by
 unfold qY
 conv => lhs; unfold qZ
 rw [rng_cons h, List.flatMap_cons, List.append_assoc]
 rfl
theorem qY_end {a b : Sol} {t : Nat} {z y : Int} (h : (hR b t).2.1 < y) : qY a b t z y = qZ a b t (z + 1) := by unfold qY; rw [rng_none h]; rfl
theorem qY_step {a b : Sol} {t : Nat} {z y : Int} (h : y ≤ (hR b t).2.1) : qY a b t z y = qX a b t z y (lR b t).1 := by
 unfold qX
 conv => lhs; unfold qY
 rw [rng_cons h, List.flatMap_cons, List.append_assoc]
 rfl
theorem qX_end {a b : Sol} {t : Nat} {z y x : Int} (h : (hR b t).1 < x) : qX a b t z y x = qY a b t z (y + 1) := by unfold qX; rw [rng_none h]; rfl
theorem qX_step {a b : Sol} {t : Nat} {z y x : Int} (h : x ≤ (hR b t).1) : qX a b t z y x = tryX a (spunS b t) t z y x ++ qX a b t z y (x + 1) := by
 conv => lhs; unfold qX
 rw [rng_cons h, List.flatMap_cons, List.append_assoc]
 rfl
/-- within its range moving stays -/
theorem moved_range {p : Sol} (hp : p ≠ 0) {x y z : Int} (hx : (negC (loS p)).1 ≤ x ∧ x ≤ (subC (7, 7, 7) (hiS p)).1) (hy : (negC (loS p)).2.1 ≤ y ∧ y ≤ (subC (7, 7, 7) (hiS p)).2.1) (hz : (negC (loS p)).2.2 ≤ z ∧ z ≤ (subC (7, 7, 7) (hiS p)).2.2) :
  movedM p (x, y, z) = (imgS (movC (x, y, z)) p, 0) := by
 refine movedM_ok.2 (.inr ⟨hp, range_stays fun k => ?_, rfl⟩)
 unfold negC at hx hy hz
 unfold subC at hx hy hz
 simp only at hx hy hz
 match k with
 | 0 => show -(loS p).1 ≤ x ∧ x ≤ 7 - (hiS p).1; omega
 | 1 => show -(loS p).2.1 ≤ y ∧ y ≤ 7 - (hiS p).2.1; omega
 | _ + 2 => show -(loS p).2.2 ≤ z ∧ z ≤ 7 - (hiS p).2.2; omega
end Go.Solid
end
section
namespace Go.Proofs.YtkfimbonmnoglaaGreatDoor
open Go.ChangeShapes Go.WideShapes Go.ChangeAt Go.RowKit Go.Draw
set_option maxRecDepth 100000
theorem ownK : ownKnob Tryz.prog.godebug = none := by kernel_rfl
theorem laidO : laidOutB Tryz.prog = true := by kernel_rfl
theorem and_t {a b : Bool} (h : a = true) (k : b = true) : (a && b) = true := by rw [h, k]; rfl
theorem gMaps : mapsRowed Tryz.prog = true := by kernel_rfl
theorem gStops : (Tryz.prog.stops == []) = true := by kernel_rfl
theorem gKnobs : (Tryz.prog.stopKnobs == []) = true := by kernel_rfl
theorem gHeard : Tryz.prog.stopsHeard = true := by kernel_rfl
theorem gEnter : Tryz.prog.mayEnter = true := by kernel_rfl
theorem cMain : Tryz.pinned.checked.prog.mainIs = some (true, ("2d2b98d2e7a6d467bd98fd00f57c4e37e19420a44b0c74c4b8b93e866a403526" : String).toList) := by kernel_rfl
end Go.Proofs.YtkfimbonmnoglaaGreatDoor
end
section
namespace Go.Proofs.YtkfimbonmnoglaaGreatDoor
open Go.RowKit Go.Rel Go.Draw Go.Solid
set_option maxRecDepth 100000
attribute [local go_sem] Oper.semAt_some
/-- a list of solids in memory, opened -/
def SlO (W : World) (a : Option Addr) (l : List Sol) : Prop := l = [] ∨ ∃ b off, a = some ⟨b, off, none⟩ ∧ Cells W b off 8 (l.map solL)
theorem SlO.mono {W W' : World} {a : Option Addr} {l : List Sol} (h : SlO W a l) (hb : Below W.heap.size W W') : SlO W' a l := by
 rcases h with h | ⟨b, off, h1, h2⟩
 ·exact .inl h
 ·exact .inr ⟨b, off, h1, h2.mono hb h2.1⟩
theorem SlO.at {W : World} {a : Option Addr} {l : List Sol} (h : SlO W a l) {k : Nat} {x : Sol} (hx : l[k]? = some x) : ∃ b off, a = some ⟨b, off, none⟩ ∧ Cells W b off 8 (l.map solL) := by
 rcases h with rfl | h
 ·cases hx
 ·exact h
theorem SlS.opened {W : World} {v : Value} {l : List Sol} (h : SlS W v l) : ∃ a c, v = .slice a l.length c ∧ SlO W a l := by
 obtain ⟨a, c, hv, _, _, hc⟩ := h
 refine ⟨a, c, by rw [hv, List.length_map], ?_⟩
 rcases hc with hc | hc
 ·exact .inl (List.map_eq_nil_iff.1 hc)
 ·exact .inr hc
theorem Cells.row {W : World} {b off k : Nat} {xs : List (List Value)} (h : Cells W b off k xs) {g : Nat} (hne : b ≠ g) (cs : Array Value) : Cells (W.setRow g cs) b off k xs :=
 ⟨by rw [setRow_size]; exact h.1, fun i j u hu => (cell_row_other _ _ _ _ _ hne).trans (h.2 i j u hu)⟩
end Go.Proofs.YtkfimbonmnoglaaGreatDoor
end
section
namespace Go.Proofs.YtkfimbonmnoglaaGreatDoor
open Go.RowKit Go.Rel Go.Draw Go.Solid
set_option maxRecDepth 100000
set_option maxHeartbeats 4000000 in
theorem inGrid_spec (c : Cl) (w : World) : Calls Tryz.prog 126 #[clV c] w fun e w' => e = .returned (.bool (inG c)) ∧ Below w.heap.size w w' := by
 obtain ⟨x, y, z⟩ := c
 obtain ⟨R, hR⟩ : ∃ R, R = inG (x, y, z) := ⟨_, rfl⟩
 rw [← hR]
 have hx : inG (x, y, z) = ((decide (0 ≤ x) && decide (x ≤ 7)) && (decide (0 ≤ y) && decide (y ≤ 7)) && (decide (0 ≤ z) && decide (z ≤ 7))) := rfl
 rw [hx] at hR
 clear hx
 have HR := Lib.hid hR
 clear hR
 go_enter Tryz.func126, Tryz.ntmps126
 go_wp2_with fail
 all_goals (go_ret; exact ⟨ret_bool (by rw [HR.out]; first | (simp [*]; done) | (simp [*]; omega)), (by repeat (first | with_reducible exact bel_refl _ | with_reducible assumption | with_reducible refine bel_drewN ?_ _ | with_reducible refine bel_drew ?_ | with_reducible refine bel_alloc ?_ _ | with_reducible refine bel_row ?_ ?_ _ | with_reducible refine bel_set ?_ ?_ _ | refine bel_trans ?_ (by with_reducible assumption) | (simp; done) | (simp; omega)))⟩)
theorem shlN {X Y : Nat} (h : 8 * Y + X < 64) : IntKind.u64.wrap (8 * (Y : Int) + X) = ((8 * Y + X : Nat) : Int) := by
 unfold IntKind.wrap; simp [IntKind.signed, IntKind.bits]; omega
set_option maxHeartbeats 4000000 in
theorem refHas_spec (s : Sol) (c : Cl) (w : World) : Calls Tryz.prog 80 #[solV s, clV c] w fun e w' => e = .returned (.bool (hasS s c)) ∧ Below w.heap.size w w' := by
 have HI := Lib.hid (fun W => inGrid_spec c W)
 have hbw : Below w.heap.size w ((w.alloc (.cells #[.int .u64 (pl s 0), .int .u64 (pl s 1), .int .u64 (pl s 2), .int .u64 (pl s 3), .int .u64 (pl s 4), .int .u64 (pl s 5), .int .u64 (pl s 6), .int .u64 (pl s 7)] 26)).alloc (.cells #[.int .i64 c.1, .int .i64 c.2.1, .int .i64 c.2.2] 60)) := (by repeat (first | with_reducible exact bel_refl _ | with_reducible assumption | with_reducible refine bel_drewN ?_ _ | with_reducible refine bel_drew ?_ | with_reducible refine bel_alloc ?_ _ | with_reducible refine bel_row ?_ ?_ _ | with_reducible refine bel_set ?_ ?_ _ | refine bel_trans ?_ (by with_reducible assumption) | (simp; done) | (simp; omega)))
 have HW := Lib.hid hbw; clear hbw
 cases hc : inG c with
 | false =>
  have e0 : hasS s c = false := hasS_out hc
  rw [e0]
  rw [hc] at HI
  clear hc e0
  go_enter Tryz.func80, Tryz.ntmps80
  go_wp2_with fail
  refine wp_region_grow 18 [Is (clV c), Is (.bool false), Is (.bool false), Is undef, Is undef, Is undef, Is undef, Is undef, Is undef, Is undef, Is undef, Is undef, Is undef, Is undef, Is undef, Is undef, Is undef, Is (.bool false)] (by kernel_rfl) (by kernel_rfl) rfl ⟨fun _ _ _ h _ => h, fun _ _ _ h _ => h, fun _ _ _ h _ => h, fun _ _ _ h _ => h, fun _ _ _ h _ => h, fun _ _ _ h _ => h, fun _ _ _ h _ => h, fun _ _ _ h _ => h, fun _ _ _ h _ => h, fun _ _ _ h _ => h, fun _ _ _ h _ => h, fun _ _ _ h _ => h, fun _ _ _ h _ => h, fun _ _ _ h _ => h, fun _ _ _ h _ => h, fun _ _ _ h _ => h, fun _ _ _ h _ => h, fun _ _ _ h _ => h, trivial⟩ ?_
  simp only [List.take_succ_cons, List.take_zero, List.drop_succ_cons, List.drop_zero]
  refine rel_cons ?_ (fun v0 => ?_)
  ·intro w1 hb hF; have hc := (Grows.cells hb).1; have hf := (Grows.cells hb).2; try simp [facts, Is] at hF
   go_simp
   exact Grows.refl _
  refine rel_cons ?_ (fun v1 => ?_)
  ·intro w1 hb hF; have hc := (Grows.cells hb).1; have hf := (Grows.cells hb).2; try simp [facts, Is] at hF
   go_simp
   refine (HI.out _).mono ?_
   rintro e w2 ⟨rfl, hb2⟩
   exact ⟨rfl, hb2⟩
  iterate 16 (refine rel_cons ?_ (fun _ => ?_); · intro w1 hb hF; have hc := (Grows.cells hb).1; have hf := (Grows.cells hb).2; (try simp [facts, Is] at hF); go_simp; (try exact Grows.refl _))
  refine rel_nil ?_
  intro w1 hb hF
  simp [Is, Nat.forall_lt_succ_right] at hF
  simp only [Act.put, List.setIfInBounds_toArray, List.set_cons_succ, List.set_cons_zero, hF]
  clear hF
  have hb' := Lib.hid (bel_trans HW.out hb)
  clear hb
  go_wp2_with fail
  go_ret
  exact ⟨rfl, hb'.out⟩
 | true =>
  have hG := inG_iff.1 hc
  have hpl := has_plane (s := s) hc
  obtain ⟨x, y, z⟩ := c
  simp only at hG
  obtain ⟨X, rfl⟩ : ∃ X : Nat, x = X := ⟨x.toNat, by omega⟩
  obtain ⟨Y, rfl⟩ : ∃ X : Nat, y = X := ⟨y.toNat, by omega⟩
  obtain ⟨Z, rfl⟩ : ∃ X : Nat, z = X := ⟨z.toNat, by omega⟩
  have hn : 8 * Y + X < 64 := by omega
  have hZ : (Z : Int) < 8 := by omega
  have hZ8 : Z < 8 := by omega
  have x1 := shlN hn
  have x2 : IntKind.u64.wrap ((2 : Int) ^ (8 * (Y : Int) + (X : Int)).toNat) = uI (1#64 <<< (8 * Y + X)) := by rw [show (8 * (Y : Int) + (X : Int)).toNat = 8 * Y + X by omega]; exact bitP_val hn
  have x3 : IntKind.i64.wrap (8 * (Y : Int)) = 8 * (Y : Int) := IntWalk.i64_in _ ⟨by omega, by omega⟩
  have x4 : IntKind.i64.wrap (8 * (Y : Int) + X) = 8 * (Y : Int) + X := IntWalk.i64_in _ ⟨by omega, by omega⟩
  rw [hc] at HI
  have HPL := Lib.hid hpl
  clear hc hG hpl
  have ea : bits .and .u64 (pl s Z) (uI (1#64 <<< (8 * Y + X))) = uI (plv s Z &&& 1#64 <<< (8 * Y + X)) := by rw [pl_uI]; exact bits_and_u _ _
  obtain ⟨R, hR⟩ : ∃ R, R = hasS s ((X : Int), (Y : Int), (Z : Int)) := ⟨_, rfl⟩
  have en : (uI (plv s Z &&& 1#64 <<< (8 * Y + X)) != 0) = R := by
   rw [bne_u0, hR, ← HPL.out]
   unfold bitP
   rw [show (8 * (Y : Int) + (X : Int)).toNat = 8 * Y + X by omega]; rfl
  rw [← hR]
  clear hR HPL
  go_enter Tryz.func80, Tryz.ntmps80
  go_wp2_with fail
  refine wp_region_grow 18 [Is (.agg #[.int .i64 (X : Int), .int .i64 (Y : Int), .int .i64 (Z : Int)]), Is (.bool true), Is (.bool true), Is (.pointer (some ⟨w.heap.size + 1, 2, none⟩)), Is (.int .i64 (Z : Int)), Is (.pointer (some ⟨w.heap.size, Z, none⟩)), Is (.int .u64 (pl s Z)), Is (.pointer (some ⟨w.heap.size + 1, 1, none⟩)), Is (.int .i64 (Y : Int)), Is (.int .i64 (8 * (Y : Int))), Is (.pointer (some ⟨w.heap.size + 1, 0, none⟩)), Is (.int .i64 (X : Int)), Is (.int .i64 (8 * (Y : Int) + X)), Is (.int .u64 ((8 * Y + X : Nat) : Int)), Is (.int .u64 (uI (1#64 <<< (8 * Y + X)))), Is (.int .u64 (uI (plv s Z &&& 1#64 <<< (8 * Y + X)))), Is (.bool R), Is (.bool R)] (by kernel_rfl) (by kernel_rfl) rfl ⟨fun _ _ _ h _ => h, fun _ _ _ h _ => h, fun _ _ _ h _ => h, fun _ _ _ h _ => h, fun _ _ _ h _ => h, fun _ _ _ h _ => h, fun _ _ _ h _ => h, fun _ _ _ h _ => h, fun _ _ _ h _ => h, fun _ _ _ h _ => h, fun _ _ _ h _ => h, fun _ _ _ h _ => h, fun _ _ _ h _ => h, fun _ _ _ h _ => h, fun _ _ _ h _ => h, fun _ _ _ h _ => h, fun _ _ _ h _ => h, fun _ _ _ h _ => h, trivial⟩ ?_
  simp only [List.take_succ_cons, List.take_zero, List.drop_succ_cons, List.drop_zero]
  refine rel_cons ?_ (fun v0 => ?_)
  ·intro w1 hb hF; have hc := (Grows.cells hb).1; have hf := (Grows.cells hb).2; try simp [facts, Is] at hF
   go_simp
   exact Grows.refl _
  refine rel_cons ?_ (fun v1 => ?_)
  ·intro w1 hb hF; have hc := (Grows.cells hb).1; have hf := (Grows.cells hb).2; try simp [facts, Is] at hF
   go_simp
   refine (HI.out _).mono ?_
   rintro e w2 ⟨rfl, hb2⟩
   exact ⟨rfl, hb2⟩
  iterate 4 (refine rel_cons ?_ (fun _ => ?_); · intro w1 hb hF; have hc := (Grows.cells hb).1; have hf := (Grows.cells hb).2; (try simp [facts, Is] at hF); go_simp; exact Grows.refl _)
  refine rel_cons ?_ (fun v6 => ?_)
  ·intro w1 hb hF; have hc := (Grows.cells hb).1; have hf := (Grows.cells hb).2; try simp [facts, Is] at hF
   have hz := hZ8
   go_simp
   exact ⟨Grows.refl _, getS s hz _⟩
  iterate 11 (refine rel_cons ?_ (fun _ => ?_); · intro w1 hb hF; have hc := (Grows.cells hb).1; have hf := (Grows.cells hb).2; (try simp [facts, Is] at hF); go_simp; exact Grows.refl _)
  refine rel_nil ?_
  intro w1 hb hF
  simp [Is, Nat.forall_lt_succ_right] at hF
  simp only [Act.put, List.setIfInBounds_toArray, List.set_cons_succ, List.set_cons_zero, hF]
  clear hF
  have hb0 : Below _ _ w1 := hb
  have hb1 := Lib.hid (bel_trans HW.out hb0)
  clear hb hb0
  go_wp2_with fail
  go_ret
  exact ⟨rfl, hb1.out⟩
end Go.Proofs.YtkfimbonmnoglaaGreatDoor
end
section
namespace Go.Proofs.YtkfimbonmnoglaaGreatDoor
open Go.RowKit Go.Rel Go.Draw Go.Solid
set_option maxRecDepth 100000
def withS (s : Sol) (c : Cl) : Sol := s ||| Go.Solid.one (bitN c)
set_option maxHeartbeats 4000000 in
theorem refWith_spec (s : Sol) (c : Cl) (hc : inG c = true) (w : World) : Calls Tryz.prog 127 #[solV s, clV c] w fun e w' => e = .returned (solV (withS s c)) ∧ Below w.heap.size w w' := by
 have hG := inG_iff.1 hc
 obtain ⟨x, y, z⟩ := c
 simp only at hG
 obtain ⟨X, rfl⟩ : ∃ X : Nat, x = X := ⟨x.toNat, by omega⟩
 obtain ⟨Y, rfl⟩ : ∃ X : Nat, y = X := ⟨y.toNat, by omega⟩
 obtain ⟨Z, rfl⟩ : ∃ X : Nat, z = X := ⟨z.toNat, by omega⟩
 have hn : 8 * Y + X < 64 := by omega
 have hZ : (Z : Int) < 8 := by omega
 have hZ8 : Z < 8 := by omega
 have x1 := shlN hn
 have x2 : IntKind.u64.wrap ((2 : Int) ^ (8 * (Y : Int) + (X : Int)).toNat) = uI (1#64 <<< (8 * Y + X)) := by rw [show (8 * (Y : Int) + (X : Int)).toNat = 8 * Y + X by omega]; exact bitP_val hn
 have x3 : IntKind.i64.wrap (8 * (Y : Int)) = 8 * (Y : Int) := IntWalk.i64_in _ ⟨by omega, by omega⟩
 have x4 : IntKind.i64.wrap (8 * (Y : Int) + X) = 8 * (Y : Int) + X := IntWalk.i64_in _ ⟨by omega, by omega⟩
 have eb : uI (1#64 <<< (8 * Y + X)) = uI (bitP ((X : Int), (Y : Int), (Z : Int))) := by
  unfold bitP
  rw [show (8 * (Y : Int) + (X : Int)).toNat = 8 * Y + X by omega]
 have eo := or_cell s hc (Z := Z) rfl
 rw [← eb] at eo
 have hcs := cell_set s hc (Z := Z) rfl
 obtain ⟨K, hK⟩ : ∃ K, K = withS s ((X : Int), (Y : Int), (Z : Int)) := ⟨_, rfl⟩
 have hK2 : s ||| Go.Solid.one (bitN ((X : Int), (Y : Int), (Z : Int))) = K := by rw [hK]; rfl
 rw [hK2] at eo hcs
 rw [← hK]
 have HCS := Lib.hid hcs
 clear hK hK2 hc hG eb hcs
 go_enter Tryz.func127, Tryz.ntmps127
 go_wp2_with fail
 obtain ⟨W0, hW0⟩ : ∃ W0, W0 = ((w.alloc (.cells #[.int .u64 (pl s 0), .int .u64 (pl s 1), .int .u64 (pl s 2), .int .u64 (pl s 3), .int .u64 (pl s 4), .int .u64 (pl s 5), .int .u64 (pl s 6), .int .u64 (pl s 7)] 26)).alloc (.cells #[.int .i64 (X : Int), .int .i64 (Y : Int), .int .i64 (Z : Int)] 60)).alloc (.cells #[.int .u64 0, .int .u64 0, .int .u64 0, .int .u64 0, .int .u64 0, .int .u64 0, .int .u64 0, .int .u64 0] 26) := ⟨_, rfl⟩
 have b1 : Blk W0 w.heap.size #[.int .u64 (pl s 0), .int .u64 (pl s 1), .int .u64 (pl s 2), .int .u64 (pl s 3), .int .u64 (pl s 4), .int .u64 (pl s 5), .int .u64 (pl s 6), .int .u64 (pl s 7)] 26 := by subst hW0; exact (by repeat (first | with_reducible assumption | (refine Blk.at _ _ ?_; (simp; done)) | with_reducible refine Blk.alloc ?_ _ | with_reducible refine Blk.drew ?_ | with_reducible refine Blk.rowS ?_ _ | with_reducible refine Blk.rowO ?_ _ (by simp)))
 have b2 : Blk W0 (w.heap.size + 1) #[.int .i64 (X : Int), .int .i64 (Y : Int), .int .i64 (Z : Int)] 60 := by subst hW0; exact (by repeat (first | with_reducible assumption | (refine Blk.at _ _ ?_; (simp; done)) | with_reducible refine Blk.alloc ?_ _ | with_reducible refine Blk.drew ?_ | with_reducible refine Blk.rowS ?_ _ | with_reducible refine Blk.rowO ?_ _ (by simp)))
 have b3 : Blk W0 (w.heap.size + 1 + 1) #[.int .u64 0, .int .u64 0, .int .u64 0, .int .u64 0, .int .u64 0, .int .u64 0, .int .u64 0, .int .u64 0] 26 := by subst hW0; exact Blk.at _ _ (by simp)
 have hbel : Below w.heap.size w W0 := by subst hW0; exact (by repeat (first | with_reducible exact bel_refl _ | with_reducible assumption | with_reducible refine bel_drewN ?_ _ | with_reducible refine bel_drew ?_ | with_reducible refine bel_alloc ?_ _ | with_reducible refine bel_row ?_ ?_ _ | with_reducible refine bel_set ?_ ?_ _ | refine bel_trans ?_ (by with_reducible assumption) | (simp; done) | (simp; omega)))
 rw [← hW0]
 clear hW0
 have HB := Lib.hid (And.intro b1 (And.intro b2 (And.intro b3 hbel)))
 have c1 := b1.cell; have l1 := b1.lt; have f1 := b1.free Z
 have c2 := b2.cell; have l2 := b2.lt
 have cz : W0.cell? ⟨w.heap.size, Z, none⟩ = some (.int .u64 (pl s Z)) := by rw [c1]; exact mixA_get (fun i => pl s i) hZ8
 clear b1 b2 b3 hbel c1
 refine Go.Rel.region_still_tail 16 (by kernel_rfl) (by kernel_rfl) ?_
 simp only [List.take_succ_cons, List.take_zero, List.drop_succ_cons, List.drop_zero]
 repeat still_step
 refine wpStill_nil ?_
 go_upto_region 2 with fail
 have hset : Blk (W0.setCell ⟨w.heap.size, Z, none⟩ (.int .u64 (pl K Z))).drew w.heap.size #[.int .u64 (pl K 0), .int .u64 (pl K 1), .int .u64 (pl K 2), .int .u64 (pl K 3), .int .u64 (pl K 4), .int .u64 (pl K 5), .int .u64 (pl K 6), .int .u64 (pl K 7)] 26 := by
  have := (HB.out.1.set Z (.int .u64 (pl K Z))).drew
  have h2 : (#[.int .u64 (pl s 0), .int .u64 (pl s 1), .int .u64 (pl s 2), .int .u64 (pl s 3), .int .u64 (pl s 4), .int .u64 (pl s 5), .int .u64 (pl s 6), .int .u64 (pl s 7)] : Array Value).setIfInBounds Z (.int .u64 (pl K Z)) = #[.int .u64 (pl K 0), .int .u64 (pl K 1), .int .u64 (pl K 2), .int .u64 (pl K 3), .int .u64 (pl K 4), .int .u64 (pl K 5), .int .u64 (pl K 6), .int .u64 (pl K 7)] := HCS.out
  rw [h2] at this
  exact this
 have HG := Lib.hid (gb_drew (gb_set (gb_refl W0 (some w.heap.size)) ⟨w.heap.size, Z, none⟩ rfl (.int .u64 (pl K Z))))
 obtain ⟨W1, hW1⟩ : ∃ x, x = (W0.setCell ⟨w.heap.size, Z, none⟩ (.int .u64 (pl K Z))).drew := ⟨_, rfl⟩
 rw [← hW1] at hset HG ⊢
 have B3 := HB.out.2.2.1.gb HG.out (by simp; omega)
 have cX := hset.cell; have lX := hset.lt
 have hb := gb_bel HB.out.2.2.2 HG.out (Nat.le_refl _)
 have r3 := B3.row; have l3 := B3.lt
 have cF := (B3.rowS #[.int .u64 (pl K 0), .int .u64 (pl K 1), .int .u64 (pl K 2), .int .u64 (pl K 3), .int .u64 (pl K 4), .int .u64 (pl K 5), .int .u64 (pl K 6), .int .u64 (pl K 7)]).cell
 rw [← B3.rw]
 clear B3 hset hW1 HB HG cz c2
 go_wp2_with fail
 exact bodyPost_ret (v := solV K) (by simp [results, Tryz.results127, go_sem, cF]) rfl ⟨rfl, bel_row hb (by omega) _⟩
end Go.Proofs.YtkfimbonmnoglaaGreatDoor
end
section
namespace Go.Proofs.YtkfimbonmnoglaaGreatDoor
open Go.RowKit Go.Rel Go.Draw Go.Solid
set_option maxRecDepth 100000
set_option maxHeartbeats 2000000 in
theorem refLess_spec (a b : Sol) (w : World) : Calls Tryz.prog 86 #[solV a, solV b] w fun e w' => e = .returned (solV (a &&& ~~~b)) ∧ Below w.heap.size w w' := by
 go_enter Tryz.func86, Tryz.ntmps86
 go_wp2_with fail
 obtain ⟨W0, hW0⟩ : ∃ W0, W0 = ((w.alloc (.cells #[.int .u64 (pl a 0), .int .u64 (pl a 1), .int .u64 (pl a 2), .int .u64 (pl a 3), .int .u64 (pl a 4), .int .u64 (pl a 5), .int .u64 (pl a 6), .int .u64 (pl a 7)] 26)).alloc (.cells #[.int .u64 (pl b 0), .int .u64 (pl b 1), .int .u64 (pl b 2), .int .u64 (pl b 3), .int .u64 (pl b 4), .int .u64 (pl b 5), .int .u64 (pl b 6), .int .u64 (pl b 7)] 26)).alloc (.cells #[.int .u64 0, .int .u64 0, .int .u64 0, .int .u64 0, .int .u64 0, .int .u64 0, .int .u64 0, .int .u64 0] 26) := ⟨_, rfl⟩
 have b1 : Blk W0 w.heap.size #[.int .u64 (pl a 0), .int .u64 (pl a 1), .int .u64 (pl a 2), .int .u64 (pl a 3), .int .u64 (pl a 4), .int .u64 (pl a 5), .int .u64 (pl a 6), .int .u64 (pl a 7)] 26 := by subst hW0; exact (by repeat (first | with_reducible assumption | (refine Blk.at _ _ ?_; (simp; done)) | with_reducible refine Blk.alloc ?_ _ | with_reducible refine Blk.drew ?_ | with_reducible refine Blk.rowS ?_ _ | with_reducible refine Blk.rowO ?_ _ (by simp)))
 have b2 : Blk W0 (w.heap.size + 1) #[.int .u64 (pl b 0), .int .u64 (pl b 1), .int .u64 (pl b 2), .int .u64 (pl b 3), .int .u64 (pl b 4), .int .u64 (pl b 5), .int .u64 (pl b 6), .int .u64 (pl b 7)] 26 := by subst hW0; exact (by repeat (first | with_reducible assumption | (refine Blk.at _ _ ?_; (simp; done)) | with_reducible refine Blk.alloc ?_ _ | with_reducible refine Blk.drew ?_ | with_reducible refine Blk.rowS ?_ _ | with_reducible refine Blk.rowO ?_ _ (by simp)))
 have b3 : Blk W0 (w.heap.size + 1 + 1) #[.int .u64 0, .int .u64 0, .int .u64 0, .int .u64 0, .int .u64 0, .int .u64 0, .int .u64 0, .int .u64 0] 26 := by subst hW0; exact Blk.at _ _ (by simp)
 have hbel : Below w.heap.size w W0 := by subst hW0; exact (by repeat (first | with_reducible exact bel_refl _ | with_reducible assumption | with_reducible refine bel_drewN ?_ _ | with_reducible refine bel_drew ?_ | with_reducible refine bel_alloc ?_ _ | with_reducible refine bel_row ?_ ?_ _ | with_reducible refine bel_set ?_ ?_ _ | refine bel_trans ?_ (by with_reducible assumption) | (simp; done) | (simp; omega)))
 rw [← hW0]
 clear hW0
 have HB := Lib.hid (And.intro b1 (And.intro b2 (And.intro b3 hbel))); clear b1 b2 b3 hbel
 go_loopw [5] (fun iv wx => ∃ z : Nat, z ≤ 8 ∧ iv = .int .i64 z ∧ Hid (Blk wx w.heap.size (mixZ a (a &&& ~~~b) z) 26 ∧ W0.grownBy wx (some w.heap.size))) (fun iv _ => 8 - (intOf iv).toNat)
 case atStart => exact ⟨0, by omega, rfl, Lib.hid ⟨HB.out.1, gb_refl _ _⟩⟩
 case round =>
  obtain ⟨z, hz, rfl, HM⟩ := hrel
  by_cases hz8 : z < 8
  ·obtain ⟨BX, hgx⟩ := HM.out
   have cz : wr.cell? ⟨w.heap.size, z, none⟩ = some (.int .u64 (pl a z)) := by rw [BX.cell, mixZ_get _ _ hz8]
   have B2 := HB.out.2.1.gb hgx (by simp)
   have sz : wr.cell? ⟨w.heap.size + 1, z, none⟩ = some (.int .u64 (pl b z)) := by rw [B2.cell]; exact mixA_get (fun i => pl b i) hz8
   have fz := BX.free z
   have lx := BX.lt
   have ls := B2.lt
   have eo := bits_andNot_pl a b z hz8
   have BXH := Lib.hid (And.intro BX hgx); clear BX hgx HM B2
   go_wp2_with fail
   refine Go.Rel.region_still_tail 9 (by kernel_rfl) (by kernel_rfl) ?_
   simp only [List.take_succ_cons, List.take_zero, List.drop_succ_cons, List.drop_zero]
   repeat still_step
   refine wpStill_nil ?_
   go_wp2_with fail
   go_roundw
   case rel =>
    refine ⟨z + 1, by omega, by go_num, Lib.hid ⟨?_, gb_set (gb_drew BXH.out.2) _ rfl _⟩⟩
    rw [← mixZ_set _ _ hz8]
    exact (BXH.out.1.drew).set z _
   case measure => simp [intOf]; omega
  ·obtain rfl : z = 8 := by omega
   have BX := HM.out.1
   rw [mixZ_end] at BX
   have cX := BX.cell
   have lX := BX.lt
   have B3 := HB.out.2.2.1.gb HM.out.2 (by simp; omega)
   have r3 := B3.row
   have hb := gb_bel HB.out.2.2.2 HM.out.2 (Nat.le_refl _)
   clear HM HB BX
   have cF := (B3.rowS #[.int .u64 (pl (a &&& ~~~b) 0), .int .u64 (pl (a &&& ~~~b) 1), .int .u64 (pl (a &&& ~~~b) 2), .int .u64 (pl (a &&& ~~~b) 3), .int .u64 (pl (a &&& ~~~b) 4), .int .u64 (pl (a &&& ~~~b) 5), .int .u64 (pl (a &&& ~~~b) 6), .int .u64 (pl (a &&& ~~~b) 7)]).cell
   rw [← B3.rw]
   clear B3
   go_wp2_with fail
   exact bodyPost_ret (v := solV (a &&& ~~~b)) (by simp [results, Tryz.results86, go_sem, cF]) rfl ⟨rfl, bel_row hb (by omega) _⟩
theorem subS_less (a b : Sol) : subS a b = (a &&& ~~~b == 0#512) := by
 rw [Bool.eq_iff_iff, subS_iff, beq_iff_eq]
 constructor
 ·intro h
  refine Classical.byContradiction fun hne => ?_
  obtain ⟨c, hc⟩ := has_some hne
  obtain ⟨h1, h2⟩ := (cut_has (a := a) (b := b)).1 hc
  rw [h c h1] at h2; cases h2
 ·intro h c hc
  cases hb : hasS b c with
  | true => rfl
  | false =>
   have : hasS (cutS a b) c = true := cut_has.2 ⟨hc, hb⟩
   unfold cutS at this
   rw [h] at this
   have h0 : hasS (0#512) c = false := has_zero c
   rw [h0] at this; exact this
set_option maxHeartbeats 2000000 in
theorem refIn_spec (a b : Sol) (w : World) : Calls Tryz.prog 87 #[solV a, solV b] w fun e w' => e = .returned (.bool (subS a b)) ∧ Below w.heap.size w w' := by
 have H := Lib.hid fun W => refLess_spec a b W
 have hs := subS_less a b
 obtain ⟨R, hR⟩ : ∃ R, R = subS a b := ⟨_, rfl⟩
 obtain ⟨D, hD⟩ : ∃ R, R = a &&& ~~~b := ⟨_, rfl⟩
 rw [← hR, ← hD] at hs
 rw [← hD] at H
 rw [← hR]
 have hs2 := hs.symm
 clear hs hR hD
 go_enter Tryz.func87, Tryz.ntmps87
 go_wp2_with fail
 refine (H.out _).mono ?_
 rintro e w2 ⟨rfl, hb⟩
 have hb2 := Lib.hid (bel_trans ((by repeat (first | with_reducible exact bel_refl _ | with_reducible assumption | with_reducible refine bel_drewN ?_ _ | with_reducible refine bel_drew ?_ | with_reducible refine bel_alloc ?_ _ | with_reducible refine bel_row ?_ ?_ _ | with_reducible refine bel_set ?_ ?_ _ | refine bel_trans ?_ (by with_reducible assumption) | (simp; done) | (simp; omega))) : Below w.heap.size w ((w.alloc (.cells #[.int .u64 (pl a 0), .int .u64 (pl a 1), .int .u64 (pl a 2), .int .u64 (pl a 3), .int .u64 (pl a 4), .int .u64 (pl a 5), .int .u64 (pl a 6), .int .u64 (pl a 7)] 26)).alloc (.cells #[.int .u64 (pl b 0), .int .u64 (pl b 1), .int .u64 (pl b 2), .int .u64 (pl b 3), .int .u64 (pl b 4), .int .u64 (pl b 5), .int .u64 (pl b 6), .int .u64 (pl b 7)] 26))) hb)
 clear hb
 go_wp2_with fail
 go_ret
 exact ⟨rfl, hb2.out⟩
end Go.Proofs.YtkfimbonmnoglaaGreatDoor
end
