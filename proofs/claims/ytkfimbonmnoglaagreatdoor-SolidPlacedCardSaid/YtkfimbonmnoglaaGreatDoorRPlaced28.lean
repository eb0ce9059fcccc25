import Derived.Test.YtkfimbonmnoglaaGreatDoorB27
import Derived.Shelf.SlSortCmp.NoneTotal
import Derived.Deep.Cut
import Derived.Test.YtkfimbonmnoglaaGreatDoorCards
import Derived.Test.YtkfimbonmnoglaaGreatDoorTie
import Derived.Deep.DeepHandedRow
import Derived.Lib.LaidTab
import Derived.LaidSub
import Derived.Carry
import Derived.ProofKit
/-
  Given contracts of functions of the program, and laws for them, one behind the other.
-/
set_option linter.unusedVariables false
set_option linter.unusedSimpArgs false
set_option linter.unusedSectionVars false
section
namespace Go.Draw
set_option maxRecDepth 10000
theorem turn_inj (mr : Bool) {a b : Sol} (h : turnS mr a = turnS mr b) : a = b := by
 apply has_ext
 intro x y z
 cases mr
 ·have := congrArg (fun s => has s (7 - y) x z) h
  simp only [has_turn, Bool.false_eq_true, if_false] at this
  rwa [show 7 - (7 - y) = y by omega] at this
 ·have := congrArg (fun s => has s (7 - x) y z) h
  simp only [has_turn, if_true] at this
  rwa [show 7 - (7 - x) = x by omega] at this
end Go.Draw
end
section
namespace Go.Solid
open Go.Draw
set_option maxRecDepth 100000
theorem imgS_comp {f g : Cl → Cl} {s : Sol} (hf : stays f s = true) (hg : stays g (imgS f s) = true) : stays (fun c => g (f c)) s = true ∧ imgS (fun c => g (f c)) s = imgS g (imgS f s) := by
 have hc : stays (fun c => g (f c)) s = true := by
  rw [stays_iff] at hg ⊢
  intro c hcs
  exact hg (f c) ((imgS_has hf (stays_iff.1 hf c hcs)).2 ⟨c, hcs, rfl⟩)
 refine ⟨hc, sol_has fun d hd => ?_⟩
 rw [Bool.eq_iff_iff, imgS_has hc hd, imgS_has hg hd]
 constructor
 ·rintro ⟨c, h1, rfl⟩
  exact ⟨f c, (imgS_has hf (stays_iff.1 hf c h1)).2 ⟨c, h1, rfl⟩, rfl⟩
 ·rintro ⟨e, h1, rfl⟩
  have he : inG e = true := by unfold hasS at h1; rw [Bool.and_eq_true] at h1; exact h1.1
  obtain ⟨c, h2, rfl⟩ := (imgS_has hf he).1 h1
  exact ⟨c, h2, rfl⟩
theorem imgS_id {f : Cl → Cl} {s : Sol} (h : ∀ c, hasS s c = true → f c = c) : stays f s = true ∧ imgS f s = s := by
 have hs : stays f s = true := stays_iff.2 fun c hc => by
  rw [h c hc]; unfold hasS at hc; rw [Bool.and_eq_true] at hc; exact hc.1
 refine ⟨hs, sol_has fun d hd => ?_⟩
 rw [Bool.eq_iff_iff, imgS_has hs hd]
 constructor
 ·rintro ⟨c, h1, rfl⟩
  rw [h c h1]; exact h1
 ·intro h1
  exact ⟨d, h1, h d h1⟩
theorem imgS_congr {f g : Cl → Cl} {s : Sol} (h : ∀ c, hasS s c = true → f c = g c) : stays f s = stays g s ∧ imgS f s = imgS g s := by
 constructor
 ·unfold stays
  rw [Bool.eq_iff_iff, List.all_eq_true, List.all_eq_true]
  exact ⟨fun H c hc => by rw [← h c (mem_cellsS.1 hc)]; exact H c hc, fun H c hc => by rw [h c (mem_cellsS.1 hc)]; exact H c hc⟩
 ·unfold imgS
  congr 1
  exact List.map_congr_left fun c hc => by rw [h c (mem_cellsS.1 hc)]
end Go.Solid
end
section
namespace Go.Solid
open Go.Draw
set_option maxRecDepth 100000
theorem turn_inv {t : Nat} (ht : t < 24) (c : Cl) : turnC (invT t) (turnC t c) = c := by
 have := inv_all
 simp only [List.all_eq_true, List.mem_range, Bool.and_eq_true, beq_iff_eq] at this
 rw [turn_mul ht (inv_lt ht), (this t ht).1.2]; rfl
end Go.Solid
end
section
namespace Go.Solid
open Go.Draw
set_option maxRecDepth 100000
theorem cellsS_nodup (s : Sol) : (cellsS s).Nodup := by
 unfold cellsS
 unfold List.Nodup
 rw [List.pairwise_map]
 exact (bitsS_nodup s).imp fun {a b} h e => h (by rw [← bitN_cellN a, e, bitN_cellN])
theorem count_img {f : Cl → Cl} {s : Sol} (h : stays f s = true) (hi : ∀ c d, f c = f d → c = d) : countS (imgS f s) = countS s := by
 rw [countS_cells, countS_cells]
 have hp : (cellsS (imgS f s)).Perm ((cellsS s).map f) := by
  refine (List.perm_ext_iff_of_nodup (cellsS_nodup _) ?_).2 fun d => ?_
  ·unfold List.Nodup
   rw [List.pairwise_map]
   exact (cellsS_nodup s).imp fun {a b} h e => h (hi _ _ e)
  ·rw [mem_img h, List.mem_map]
 rw [hp.length_eq, List.length_map]
theorem mov_inj (d : Cl) : ∀ c e, movC d c = movC d e → c = e := fun c e h => by
 have key : ∀ k, co c k = co e k := fun k => by
  have := congrArg (fun x => co x k) h
  simp only [co_mov] at this
  omega
 exact co_ext (key 0) (key 1) (key 2)
theorem turn_inj {t : Nat} (ht : t < 24) : ∀ c e, turnC t c = turnC t e → c = e := fun c e h => by
 rw [← turn_inv ht c, h, turn_inv ht]
theorem mov_mov (d e c : Cl) : movC e (movC d c) = movC (addC d e) c := by
 have key : ∀ k, co (movC e (movC d c)) k = co (movC (addC d e) c) k := fun k => by rw [co_mov, co_mov, co_mov, co_add]; omega
 exact co_ext (key 0) (key 1) (key 2)
theorem back_mov (d c : Cl) : movC d (movC (negC d) c) = c := by
 have key : ∀ k, co (movC d (movC (negC d) c)) k = co c k := fun k => by rw [co_mov, co_mov, co_neg]; omega
 exact co_ext (key 0) (key 1) (key 2)
theorem spun_count {t : Nat} (ht : t < 24) (s : Sol) : countS (spunS s t) = countS s := count_img (spun_stays s t) (turn_inj ht)
/-- moved solids, moved to the corner -/
theorem lo_mov {s : Sol} {d : Cl} (h : stays (movC d) s = true) (hs : s ≠ 0) : loS (imgS (movC d) s) = addC (loS s) d := by
 have hn := img_ne h hs
 have key : ∀ k, co (loS (imgS (movC d) s)) k = co (addC (loS s) d) k := fun k => by
  rw [co_add]
  obtain ⟨c, hc, e⟩ := loS_at hs k
  obtain ⟨g, hg, e2⟩ := loS_at hn k
  obtain ⟨g', hg', rfl⟩ := (imgS_has h (has_in hg)).1 hg
  have h1 := loS_le (mem_cellsS.1 ((mem_img h).2 ⟨c, mem_cellsS.2 hc, rfl⟩)) k
  have h2 := loS_le hg' k
  rw [co_mov] at h1 e2
  omega
 exact co_ext (key 0) (key 1) (key 2)
/-- where a solid stands: it is one that is moved to the corner, moved back -/
theorem corn_back {s : Sol} (hs : s ≠ 0) : stays (movC (loS s)) (cornS s) = true ∧ imgS (movC (loS s)) (cornS s) = s := by
 have h := corn_stays hs
 unfold cornS
 rw [if_neg hs]
 have h2 : stays (movC (loS s)) (imgS (movC (negC (loS s))) s) = true := stays_iff.2 fun e he => by
  obtain ⟨c, hc, rfl⟩ := (imgS_has h (has_in he)).1 he
  rw [back_mov]; exact has_in hc
 exact ⟨h2, by rw [← (imgS_comp h h2).2]; exact (imgS_id fun c _ => back_mov _ c).2⟩
theorem corn_ne {s : Sol} (hs : s ≠ 0) : cornS s ≠ 0 := by
 unfold cornS
 rw [if_neg hs]
 exact img_ne (corn_stays hs) hs
end Go.Solid
end
section
namespace Go.Solid
open Go.Draw
set_option maxRecDepth 100000
theorem mem_rngI {a b i : Int} : i ∈ rngI a b ↔ a ≤ i ∧ i ≤ b := by
 unfold rngI
 rw [List.mem_map]
 constructor
 ·rintro ⟨k, hk, rfl⟩
  rw [List.mem_range] at hk; omega
 ·intro h
  exact ⟨(i - a).toNat, by rw [List.mem_range]; omega, by omega⟩
theorem flat_congr {α β : Type} {f g : α → List β} : ∀ {l : List α}, (∀ i ∈ l, f i = g i) → l.flatMap f = l.flatMap g
 | [], _ => rfl
 | a :: l, h => by
  rw [List.flatMap_cons, List.flatMap_cons, h a List.mem_cons_self, flat_congr fun i hi => h i (List.mem_cons_of_mem _ hi)]
theorem mem_rowZ {a p : Sol} {t : Nat} {A B : Cl} {m : Mt} {q : Sol} : (m, q) ∈ rowZ a p t A B ↔ m.1 = t ∧ (A.1 ≤ m.2.1 ∧ m.2.1 ≤ B.1) ∧ (A.2.1 ≤ m.2.2.1 ∧ m.2.2.1 ≤ B.2.1) ∧ (A.2.2 ≤ m.2.2.2 ∧ m.2.2.2 ≤ B.2.2) ∧ q = imgS (movC m.2) p ∧ subS q a = true := by
 unfold rowZ rowY rowX
 simp only [List.mem_flatMap, mem_rngI]
 constructor
 ·rintro ⟨z, hz, y, hy, x, hx, h⟩
  unfold tryX at h
  split at h
  ·rename_i hs
   rw [List.mem_singleton, Prod.mk.injEq] at h
   obtain ⟨rfl, rfl⟩ := h
   exact ⟨rfl, hx, hy, hz, rfl, hs⟩
  ·cases h
 ·rintro ⟨rfl, hx, hy, hz, rfl, hs⟩
  refine ⟨m.2.2.2, hz, m.2.2.1, hy, m.2.1, hx, ?_⟩
  unfold tryX
  have e : ((m.2.1, m.2.2.1, m.2.2.2) : Cl) = m.2 := rfl
  rw [e, if_pos hs, List.mem_singleton]
/-- what stands inside a stands in the room of a -/
theorem room_of {a p : Sol} {d : Cl} (hp : p ≠ 0) (hs : stays (movC d) p = true) (h : subS (imgS (movC d) p) a = true) : a ≠ 0 ∧ ∀ k, co (loS a) k - co (loS p) k ≤ co d k ∧ co d k ≤ co (hiS a) k - co (hiS p) k := by
 refine ⟨fun e => ?_, fun k => ?_⟩
 ·subst e
  obtain ⟨c, hc⟩ := has_some (img_ne hs hp)
  have := subS_iff.1 h c hc
  unfold hasS at this
  simp at this
 ·obtain ⟨c, hc, e1⟩ := loS_at hp k
  obtain ⟨c', hc', e2⟩ := hiS_at hp k
  have h1 := loS_le (subS_iff.1 h _ (mem_cellsS.1 ((mem_img hs).2 ⟨c, mem_cellsS.2 hc, rfl⟩))) k
  have h2 := le_hiS (subS_iff.1 h _ (mem_cellsS.1 ((mem_img hs).2 ⟨c', mem_cellsS.2 hc', rfl⟩))) k
  rw [co_mov] at h1 h2
  omega
/-- a motion fits b into a -/
def FitsM (a b : Sol) (m : Mt) : Prop := m.1 < 24 ∧ stays (movC m.2) (spunS b m.1) = true ∧ subS (imgS (movC m.2) (spunS b m.1)) a = true
theorem mem_fits {a b : Sol} (hb : b ≠ 0) {m : Mt} {q : Sol} : (m, q) ∈ fitsL a b ↔ FitsM a b m ∧ q = imgS (movC m.2) (spunS b m.1) := by
 unfold fitsL FitsM
 constructor
 ·intro h
  split at h
  ·cases h
  ·rename_i hc
   have ha : a ≠ 0 := fun e => hc (.inl e)
   rw [List.mem_flatMap] at h
   obtain ⟨t, ht, h⟩ := h
   obtain ⟨rfl, hx, hy, hz, rfl, hs⟩ := mem_rowZ.1 h
   have hla := inG_iff.1 (loS_in ha)
   have hha := inG_iff.1 (hiS_in ha)
   refine ⟨⟨List.mem_range.1 ht, range_stays fun k => ?_, hs⟩, rfl⟩
   match k with
   | 0 => exact ⟨Int.le_trans (by show _ ≤ (loS a).1 - (loS (spunS b m.1)).1; show - (loS (spunS b m.1)).1 ≤ _; omega) hx.1, Int.le_trans hx.2 (by show (hiS a).1 - (hiS (spunS b m.1)).1 ≤ 7 - (hiS (spunS b m.1)).1; omega)⟩
   | 1 => exact ⟨Int.le_trans (by show _ ≤ (loS a).2.1 - (loS (spunS b m.1)).2.1; show - (loS (spunS b m.1)).2.1 ≤ _; omega) hy.1, Int.le_trans hy.2 (by show (hiS a).2.1 - (hiS (spunS b m.1)).2.1 ≤ 7 - (hiS (spunS b m.1)).2.1; omega)⟩
   | _ + 2 => exact ⟨Int.le_trans (by show _ ≤ (loS a).2.2 - (loS (spunS b m.1)).2.2; show - (loS (spunS b m.1)).2.2 ≤ _; omega) hz.1, Int.le_trans hz.2 (by show (hiS a).2.2 - (hiS (spunS b m.1)).2.2 ≤ 7 - (hiS (spunS b m.1)).2.2; omega)⟩
 ·rintro ⟨⟨ht, hst, hs⟩, rfl⟩
  have hp := spun_ne hb m.1
  obtain ⟨ha, hr⟩ := room_of hp hst hs
  have hcount : countS b ≤ countS a := by
   have h1 := count_le hs
   rw [count_img hst (mov_inj _), spun_count ht] at h1
   exact h1
  rw [if_neg (fun h => h.elim ha (by omega)), List.mem_flatMap]
  exact ⟨m.1, List.mem_range.2 ht, mem_rowZ.2 ⟨rfl, hr 0, hr 1, hr 2, rfl, hs⟩⟩
theorem fits_head {a b : Sol} (hb : b ≠ 0) : (fitsL a b).head?.isSome = true ↔ ∃ m, FitsM a b m := by
 constructor
 ·intro h
  cases hl : fitsL a b with
  | nil => rw [hl] at h; cases h
  | cons x l =>
   obtain ⟨m, q⟩ := x
   exact ⟨m, ((mem_fits hb).1 (by rw [hl]; exact List.mem_cons_self)).1⟩
 ·rintro ⟨m, h⟩
  have h2 := (mem_fits hb).2 ⟨h, rfl⟩
  cases hl : fitsL a b with
  | nil => rw [hl] at h2; cases h2
  | cons x l => rfl
end Go.Solid
end
section
namespace Go.Solid
open Go.Draw
set_option maxRecDepth 100000
def turnedM (s : Sol) (t : Int) : Sol × Int := if inB t 0 23 then (spunS s t.toNat, 0) else (0, 1)
/-- what moves within the grid is short -/
theorem stays_short {s : Sol} {d : Cl} (hs : s ≠ 0) (h : stays (movC d) s = true) : shortB d = true := by
 obtain ⟨c, hc⟩ := has_some hs
 have h1 := co_in (has_in hc)
 have h2 := co_in (stays_iff.1 h c hc)
 refine shortB_iff.2 fun k => ?_
 have := h1 k; have := h2 k
 rw [co_mov] at this
 omega
theorem movedM_ok {s p : Sol} {d : Cl} : movedM s d = (p, 0) ↔ (s = 0 ∧ p = 0) ∨ (s ≠ 0 ∧ stays (movC d) s = true ∧ p = imgS (movC d) s) := by
 unfold movedM
 by_cases hs : s = 0
 ·rw [if_pos hs]
  simp only [Prod.mk.injEq, and_true]
  exact ⟨fun h => .inl ⟨hs, h.symm⟩, fun h => h.elim (fun h => h.2.symm) fun h => absurd hs h.1⟩
 ·rw [if_neg hs]
  constructor
  ·intro h
   right
   by_cases h1 : shortB d = true
   ·rw [if_pos h1] at h
    by_cases h2 : stays (movC d) s = true
    ·rw [if_pos h2] at h
     exact ⟨hs, h2, (congrArg Prod.fst h).symm⟩
    ·rw [if_neg h2] at h
     have := congrArg Prod.snd h
     simp at this
   ·rw [if_neg h1] at h
    have := congrArg Prod.snd h
    simp at this
  ·rintro (h | ⟨_, h2, rfl⟩)
   ·exact absurd h.1 hs
   ·rw [if_pos (stays_short hs h2), if_pos h2]
theorem placedM_ok {s p : Sol} {t : Int} {d : Cl} : placedM s t d = (p, 0) ↔ rightB t d = true ∧ movedM (spunS s t.toNat) d = (p, 0) := by
 unfold placedM
 by_cases h : rightB t d = true
 ·rw [if_pos h]; exact ⟨fun k => ⟨h, k⟩, fun k => k.2⟩
 ·rw [if_neg h]
  constructor
  ·intro k; have := congrArg Prod.snd k; simp at this
  ·intro k; exact absurd k.1 h
/-- a motion that fits is told by what Placed returns -/
theorem placed_fits {a b : Sol} (hb : b ≠ 0) {t : Int} {d : Cl} : (∃ p, placedM b t d = (p, 0) ∧ subS p a = true) ↔ 0 ≤ t ∧ FitsM a b (t.toNat, d) := by
 constructor
 ·rintro ⟨p, h, hp⟩
  obtain ⟨h1, h2⟩ := placedM_ok.1 h
  obtain ⟨ht, _⟩ := rightB_iff.1 h1
  rcases movedM_ok.1 h2 with ⟨h3, _⟩ | ⟨_, h4, rfl⟩
  ·exact absurd h3 (spun_ne hb _)
  ·exact ⟨ht.1, ⟨by show t.toNat < 24; omega, h4, hp⟩⟩
 ·rintro ⟨ht, h1, h2, h3⟩
  have h1' : t.toNat < 24 := h1
  exact ⟨_, placedM_ok.2 ⟨rightB_iff.2 ⟨⟨ht, by omega⟩, stays_short (spun_ne hb _) h2⟩, movedM_ok.2 (.inr ⟨spun_ne hb _, h2, rfl⟩)⟩, h3⟩
end Go.Solid
end
section
namespace Go.Solid
open Go.Draw
set_option maxRecDepth 100000
def placesP (a b : Sol) : List Sol := sortD ((fitsL a b).map fun y => y.2)
def placesR (a b : Sol) : List Sol := sortD ((imagesS b).flatMap fun x => (rowZ a x 0 (0, 0, 0) (subC (7, 7, 7) (hiS x))).map fun y => y.2)
theorem mem_placesP {a b q : Sol} (hb : b ≠ 0) : q ∈ placesP a b ↔ ∃ m, FitsM a b m ∧ q = imgS (movC m.2) (spunS b m.1) := by
 unfold placesP
 rw [(sortD_spec _).2, List.mem_map]
 constructor
 ·rintro ⟨⟨m, q'⟩, h, rfl⟩
  exact ⟨m, (mem_fits hb).1 h⟩
 ·rintro ⟨m, h⟩
  exact ⟨(m, q), (mem_fits hb).2 h, rfl⟩
theorem mem_placesR {a b q : Sol} : q ∈ placesR a b ↔ ∃ x ∈ imagesS b, ∃ m : Mt, (m, q) ∈ rowZ a x 0 (0, 0, 0) (subC (7, 7, 7) (hiS x)) := by
 unfold placesR
 rw [(sortD_spec _).2, List.mem_flatMap]
 constructor
 ·rintro ⟨x, hx, h⟩
  obtain ⟨⟨m, q'⟩, h1, rfl⟩ := List.mem_map.1 h
  exact ⟨x, hx, m, h1⟩
 ·rintro ⟨x, hx, m, h⟩
  exact ⟨x, hx, List.mem_map.2 ⟨(m, q), h, rfl⟩⟩
theorem lo_corn {p : Sol} (hp : p ≠ 0) : loS (cornS p) = (0, 0, 0) := by
 unfold cornS
 rw [if_neg hp, lo_mov (corn_stays hp) hp]
 unfold addC negC
 exact Prod.ext (by simp only; omega) (Prod.ext (by simp only; omega) (by simp only; omega))
/-- what moves within the grid keeps within the ranges -/
theorem stays_range {p : Sol} {d : Cl} (hp : p ≠ 0) (h : stays (movC d) p = true) (k : Nat) : - co (loS p) k ≤ co d k ∧ co d k ≤ 7 - co (hiS p) k := by
 obtain ⟨c, hc, e⟩ := loS_at hp k
 obtain ⟨c', hc', e'⟩ := hiS_at hp k
 have h1 := co_in (stays_iff.1 h c hc) k
 have h2 := co_in (stays_iff.1 h c' hc') k
 rw [co_mov] at h1 h2
 omega
theorem places_eq {a b : Sol} (hb : b ≠ 0) : placesP a b = placesR a b := by
 refine asc_unique (sortD_spec _).1 (sortD_spec _).1 fun q => ?_
 rw [mem_placesP hb, mem_placesR]
 constructor
 ·rintro ⟨m, ⟨h1, h2, h3⟩, rfl⟩
  have hP : spunS b m.1 ≠ 0 := spun_ne hb _
  obtain ⟨c1, c2⟩ := corn_back hP
  have hx : cornS (spunS b m.1) ≠ 0 := corn_ne hP
  have e1 := imgS_comp (f := movC (loS (spunS b m.1))) (g := movC m.2) (s := cornS (spunS b m.1)) c1 (by rw [c2]; exact h2)
  have e2 := imgS_congr (s := cornS (spunS b m.1)) (f := fun c => movC m.2 (movC (loS (spunS b m.1)) c)) (g := movC (addC (loS (spunS b m.1)) m.2)) fun c _ => mov_mov _ _ _
  have e3 : stays (movC (addC (loS (spunS b m.1)) m.2)) (cornS (spunS b m.1)) = true := by rw [← e2.1]; exact e1.1
  have e4 : imgS (movC (addC (loS (spunS b m.1)) m.2)) (cornS (spunS b m.1)) = imgS (movC m.2) (spunS b m.1) := by rw [← e2.2, e1.2, c2]
  refine ⟨cornS (spunS b m.1), mem_images.2 ⟨m.1, h1, rfl⟩, (0, addC (loS (spunS b m.1)) m.2), mem_rowZ.2 ?_⟩
  have r0 := stays_range hx e3 0; have r1 := stays_range hx e3 1; have r2 := stays_range hx e3 2
  rw [lo_corn hP] at r0 r1 r2
  generalize addC (loS (spunS b m.1)) m.2 = d at *
  generalize hiS (cornS (spunS b m.1)) = h at *
  have q0 : -(0 : Int) ≤ d.1 ∧ d.1 ≤ 7 - h.1 := r0
  have q1 : -(0 : Int) ≤ d.2.1 ∧ d.2.1 ≤ 7 - h.2.1 := r1
  have q2 : -(0 : Int) ≤ d.2.2 ∧ d.2.2 ≤ 7 - h.2.2 := r2
  refine ⟨rfl, ⟨by simp only; omega, by simp only [subC]; omega⟩, ⟨by simp only; omega, by simp only [subC]; omega⟩, ⟨by simp only; omega, by simp only [subC]; omega⟩, e4.symm, h3⟩
 ·rintro ⟨x, hx, m, hm⟩
  obtain ⟨t, ht, rfl⟩ := mem_images.1 hx
  obtain ⟨_, h1, h2, h3, rfl, h5⟩ := mem_rowZ.1 hm
  have hP : spunS b t ≠ 0 := spun_ne hb _
  have hxx : imageS b t ≠ 0 := corn_ne hP
  have hlo : loS (imageS b t) = (0, 0, 0) := lo_corn hP
  have hst : stays (movC m.2) (imageS b t) = true := range_stays fun k => by
   rw [hlo]
   generalize hiS (imageS b t) = h at *
   unfold subC at h1 h2 h3
   simp only at h1 h2 h3
   match k with
   | 0 => show -(0 : Int) ≤ m.2.1 ∧ m.2.1 ≤ 7 - h.1; omega
   | 1 => show -(0 : Int) ≤ m.2.2.1 ∧ m.2.2.1 ≤ 7 - h.2.1; omega
   | _ + 2 => show -(0 : Int) ≤ m.2.2.2 ∧ m.2.2.2 ≤ 7 - h.2.2; omega
  have ec : imageS b t = imgS (movC (negC (loS (spunS b t)))) (spunS b t) := by unfold imageS cornS; rw [if_neg hP]
  have e1 := imgS_comp (f := movC (negC (loS (spunS b t)))) (g := movC m.2) (s := spunS b t) (corn_stays hP) (by rw [← ec]; exact hst)
  have e2 := imgS_congr (s := spunS b t) (f := fun c => movC m.2 (movC (negC (loS (spunS b t))) c)) (g := movC (addC (negC (loS (spunS b t))) m.2)) fun c _ => mov_mov _ _ _
  have e4 : imgS (movC (addC (negC (loS (spunS b t))) m.2)) (spunS b t) = imgS (movC m.2) (imageS b t) := by rw [← e2.2, e1.2, ← ec]
  exact ⟨(t, addC (negC (loS (spunS b t))) m.2), ⟨ht, by show stays (movC (addC (negC (loS (spunS b t))) m.2)) (spunS b t) = true; rw [← e2.1]; exact e1.1, by show subS (imgS (movC (addC (negC (loS (spunS b t))) m.2)) (spunS b t)) a = true; rw [e4]; exact h5⟩, e4.symm⟩
/-- of each place -/
theorem place_is {a b q : Sol} (hb : b ≠ 0) (h : q ∈ placesP a b) : subS q a = true ∧ countS q = countS b := by
 obtain ⟨m, ⟨h1, h2, h3⟩, rfl⟩ := (mem_placesP hb).1 h
 exact ⟨h3, by rw [count_img h2 (mov_inj _), spun_count h1]⟩
/-- what a motion places is a place exactly if it fits -/
theorem place_fits {a b : Sol} (hb : b ≠ 0) {t : Int} {d : Cl} : (∃ p, placedM b t d = (p, 0) ∧ subS p a = true) ↔ ∃ p, placedM b t d = (p, 0) ∧ p ∈ placesP a b := by
 constructor
 ·rintro ⟨p, h, hp⟩
  refine ⟨p, h, (mem_placesP hb).2 ?_⟩
  have hf := (placed_fits hb).1 ⟨p, h, hp⟩
  refine ⟨_, hf.2, ?_⟩
  rcases movedM_ok.1 (placedM_ok.1 h).2 with ⟨h3, _⟩ | ⟨_, _, h5⟩
  ·exact absurd h3 (spun_ne hb _)
  ·exact h5
 ·rintro ⟨p, h, hp⟩
  exact ⟨p, h, (place_is hb hp).1⟩
theorem places_some {a b : Sol} (hb : b ≠ 0) : placesP a b ≠ [] ↔ ∃ m, FitsM a b m := by
 constructor
 ·intro h
  obtain ⟨q, hq⟩ := List.exists_mem_of_ne_nil _ h
  obtain ⟨m, hm, _⟩ := (mem_placesP hb).1 hq
  exact ⟨m, hm⟩
 ·rintro ⟨m, hm⟩ h
  have : imgS (movC m.2) (spunS b m.1) ∈ placesP a b := (mem_placesP hb).2 ⟨m, hm, rfl⟩
  rw [h] at this; cases this
end Go.Solid
end
section
namespace Go.Solid
open Go.Draw
set_option maxRecDepth 100000
def fitS (a b : Sol) : Bool := decide (b = 0) || (fitsL a b).head?.isSome
theorem fitS_iff {a b : Sol} : fitS a b = true ↔ b = 0 ∨ ∃ m, FitsM a b m := by
 unfold fitS
 by_cases hb : b = 0
 ·simp [hb]
 ·rw [Bool.or_eq_true, fits_head hb, decide_eq_true_eq]
end Go.Solid
end
section
namespace Go.Solid
open Go.Draw
set_option maxRecDepth 100000
theorem fit_is_place {a b : Sol} (hb : b ≠ 0) (t : Int) (d : Cl) :
  (decide ((placedM b t d).2 = 0) && subS (placedM b t d).1 a) = (decide ((placedM b t d).2 = 0) && decide ((placedM b t d).1 ∈ placesP a b)) := by
 by_cases h : (placedM b t d).2 = 0
 ·rw [decide_eq_true h, Bool.true_and, Bool.true_and, Bool.eq_iff_iff, decide_eq_true_eq]
  have key := place_fits (a := a) hb (t := t) (d := d)
  have e : placedM b t d = ((placedM b t d).1, 0) := by rw [← h]
  constructor
  ·intro hs
   obtain ⟨p, h1, h2⟩ := key.1 ⟨_, e, hs⟩
   rw [h1]; exact h2
  ·intro hs
   obtain ⟨p, h1, h2⟩ := key.2 ⟨_, e, hs⟩
   rw [h1]; exact h2
 ·rw [decide_eq_false h, Bool.false_and, Bool.false_and]
theorem fit_some_place {a b : Sol} (hb : b ≠ 0) : fitS a b = decide (0 < (placesP a b).length) := by
 rw [Bool.eq_iff_iff, fitS_iff, decide_eq_true_eq, List.length_pos_iff, places_some hb]
 constructor
 ·rintro (h | h)
  ·exact absurd h hb
  ·exact h
 ·exact .inr
/-- found among the first i -/
def foundQ (ok : Bool) (L : List Sol) (p : Sol) (i : Nat) : Bool := ok && decide (p ∈ L.take i)
theorem foundQ_zero (ok : Bool) (L : List Sol) (p : Sol) : foundQ ok L p 0 = false := by unfold foundQ; simp
theorem foundQ_step (ok : Bool) {L : List Sol} (p : Sol) {i : Nat} {x : Sol} (h : L[i]? = some x) : foundQ ok L p (i + 1) = (foundQ ok L p i || (ok && decide (x = p))) := by
 unfold foundQ
 rw [List.take_add_one, h]
 cases ok with
 | false => rfl
 | true =>
  simp only [Bool.true_and, Option.toList, List.mem_append, List.mem_singleton]
  rw [Bool.eq_iff_iff]
  simp only [decide_eq_true_eq, Bool.or_eq_true, eq_comm (a := p)]
theorem foundQ_end (ok : Bool) (L : List Sol) (p : Sol) : foundQ ok L p L.length = (ok && decide (p ∈ L)) := by
 unfold foundQ
 rw [List.take_of_length_le (Nat.le_refl _)]
theorem places_asc (a b : Sol) {i : Nat} {x y : Sol} (hx : (placesP a b)[i]? = some x) (hy : (placesP a b)[i + 1]? = some y) : rank x < rank y := by
 have h := (sortD_spec ((fitsL a b).map fun y => y.2)).1
 obtain ⟨h1, rfl⟩ := List.getElem?_eq_some_iff.1 hx
 obtain ⟨h2, rfl⟩ := List.getElem?_eq_some_iff.1 hy
 exact List.pairwise_iff_getElem.1 h i (i + 1) h1 h2 (Nat.lt_succ_self i)
end Go.Solid
end
section
namespace Go.Solid
open Go.Draw
set_option maxRecDepth 100000
theorem flat_len_le {α β : Type} {f : α → List β} {n : Nat} : ∀ {l : List α}, (∀ x ∈ l, (f x).length ≤ n) → (l.flatMap f).length ≤ l.length * n
 | [], _ => by simp
 | x :: l, h => by
  rw [List.flatMap_cons, List.length_append, List.length_cons, Nat.add_mul, Nat.one_mul]
  have h1 := h x List.mem_cons_self
  have h2 := flat_len_le (l := l) fun y hy => h y (List.mem_cons_of_mem _ hy)
  omega
theorem rng_len (a b : Int) : (rngI a b).length = (b - a + 1).toNat := by unfold rngI; simp
theorem flat_rng_le {β : Type} {f : Int → List β} {n m : Nat} {a b : Int} (hm : b - a + 1 ≤ m) (h : ∀ x, (f x).length ≤ n) : ((rngI a b).flatMap f).length ≤ m * n := by
 refine Nat.le_trans (flat_len_le fun x _ => h x) (Nat.mul_le_mul_right _ ?_)
 rw [rng_len]; omega
theorem rowZ_len {a p : Sol} (t : Nat) {A B : Cl} (h0 : B.1 - A.1 + 1 ≤ (15 : Nat)) (h1 : B.2.1 - A.2.1 + 1 ≤ (15 : Nat)) (h2 : B.2.2 - A.2.2 + 1 ≤ (15 : Nat)) : (rowZ a p t A B).length ≤ 15 * (15 * (15 * 1)) := by
 unfold rowZ rowY rowX
 refine flat_rng_le h2 fun z => flat_rng_le h1 fun y => flat_rng_le h0 fun x => ?_
 unfold tryX
 split <;> simp
theorem fits_len (a : Sol) {b : Sol} (hb : b ≠ 0) : (fitsL a b).length ≤ 81000 := by
 unfold fitsL
 split
 ·simp
 ·rename_i hc
  have ha : a ≠ 0 := fun e => hc (.inl e)
  refine Nat.le_trans (flat_len_le (n := 15 * (15 * (15 * 1))) fun t _ => ?_) (by simp)
  have hla := inG_iff.1 (loS_in ha)
  have hha := inG_iff.1 (hiS_in ha)
  have hp : spunS b t ≠ 0 := spun_ne hb t
  have hlp := inG_iff.1 (loS_in hp)
  have hhp := inG_iff.1 (hiS_in hp)
  unfold subC
  exact rowZ_len t (by simp only; omega) (by simp only; omega) (by simp only; omega)
end Go.Solid
end
section
namespace Go.Solid
open Go.Draw
set_option maxRecDepth 100000
def wC (S : Ch) (c : Cl) : Bool := if 0 ≤ c.2.2 then wN S c.1 c.2.1 (c.2.2.toNat + 1) else false
end Go.Solid
end
section
namespace Go.Solid
open Go.Draw
set_option maxRecDepth 100000
/-- a chain out of bits on a list of points -/
def ch (L : List Cl) (b : List Bool) : Ch := fun p => b.getD (L.idxOf p) false
end Go.Solid
end
section
namespace Go.Solid
open Go.Draw
set_option maxRecDepth 100000
def rcF (s : Sol) (z y x : Int) : List Cl := ((rngI x 7).map fun x => ((x, y, z) : Cl)).filter (hasS s)
def rcG (s : Sol) (z y : Int) : List Cl := (rngI y 7).flatMap fun y => rcF s z y 0
def rcH (s : Sol) (z : Int) : List Cl := (rngI z 7).flatMap fun z => rcG s z 0
def rcY (s : Sol) (z y : Int) : List Cl := rcG s z y ++ rcH s (z + 1)
def rcX (s : Sol) (z y x : Int) : List Cl := rcF s z y x ++ rcY s z (y + 1)
theorem rng_none {a b : Int} (h : b < a) : rngI a b = [] := by
 unfold rngI
 rw [show (b - a + 1).toNat = 0 by omega]; rfl
theorem rng_cons {a b : Int} (h : a ≤ b) : rngI a b = a :: rngI (a + 1) b := by
 rw [rngI_append (a := a) (b := a) (c := b) (by omega) h]
 have : rngI a a = [a] := by unfold rngI; rw [show (a - a + 1).toNat = 1 by omega]; simp
 rw [this]; rfl
theorem all_cells : (List.range 512).map cellN = (rngI 0 7).flatMap fun z => (rngI 0 7).flatMap fun y => (rngI 0 7).map fun x => ((x, y, z) : Cl) := by decide +kernel
theorem rc_all (s : Sol) : rcH s 0 = cellsS s := by
 have e : cellsS s = ((List.range 512).map cellN).filter (hasS s) := by
  unfold cellsS bitsS
  rw [List.filter_map]
  congr 1
 rw [e, all_cells]
 unfold rcH rcG rcF
 simp only [List.filter_flatMap]
theorem rcH_end (s : Sol) {z : Int} (h : 7 < z) : rcH s z = [] := by unfold rcH; rw [rng_none h]; rfl
theorem rcH_step (s : Sol) {z : Int} (h : z ≤ 7) : rcH s z = rcY s z 0 := by
 conv => lhs; unfold rcH
 rw [rng_cons h, List.flatMap_cons]; rfl
theorem rcY_end (s : Sol) {z y : Int} (h : 7 < y) : rcY s z y = rcH s (z + 1) := by unfold rcY rcG; rw [rng_none h]; rfl
theorem rcY_step (s : Sol) {z y : Int} (h : y ≤ 7) : rcY s z y = rcX s z y 0 := by
 conv => lhs; unfold rcY rcG
 rw [rng_cons h, List.flatMap_cons, List.append_assoc]; rfl
theorem rcX_end (s : Sol) {z y x : Int} (h : 7 < x) : rcX s z y x = rcY s z (y + 1) := by unfold rcX rcF; rw [rng_none h]; rfl
theorem rcX_step (s : Sol) {z y x : Int} (h : x ≤ 7) : rcX s z y x = if hasS s (x, y, z) then (x, y, z) :: rcX s z y (x + 1) else rcX s z y (x + 1) := by
 conv => lhs; unfold rcX rcF
 rw [rng_cons h, List.map_cons, List.filter_cons]
 split <;> rfl
end Go.Solid
end
section
namespace Go.Solid
open Go.Draw
set_option maxRecDepth 100000
def lR (b : Sol) (t : Nat) : Cl := negC (loS (spunS b t))
def qT (a b : Sol) (t : Nat) : List (Mt × Sol) := ((List.range 24).drop t).flatMap fun t => rowZ a (spunS b t) t (lR b t) (hR b t)
def qZ (a b : Sol) (t : Nat) (z : Int) : List (Mt × Sol) := ((rngI z (hR b t).2.2).flatMap fun z => rowY a (spunS b t) t z (lR b t) (hR b t)) ++ qT a b (t + 1)
def qY (a b : Sol) (t : Nat) (z y : Int) : List (Mt × Sol) := ((rngI y (hR b t).2.1).flatMap fun y => rowX a (spunS b t) t z y (lR b t) (hR b t)) ++ qZ a b t (z + 1)
def qX (a b : Sol) (t : Nat) (z y x : Int) : List (Mt × Sol) := ((rngI x (hR b t).1).flatMap fun x => tryX a (spunS b t) t z y x) ++ qY a b t z (y + 1)
end Go.Solid
end
section
namespace Go.Solid
open Go.Draw
set_option maxRecDepth 100000
def lastC (p : Sol) : Cl := subC (7, 7, 7) (hiS p)
def tryP (a p : Sol) (z y x : Int) : List Sol := if subS (imgS (movC (x, y, z)) p) a then [imgS (movC (x, y, z)) p] else []
def rT (a : Sol) (L : List Sol) (i : Nat) : List Sol := (L.drop i).flatMap fun p => (rngI 0 (lastC p).2.2).flatMap fun z => (rngI 0 (lastC p).2.1).flatMap fun y => (rngI 0 (lastC p).1).flatMap fun x => tryP a p z y x
def rZ (a : Sol) (L : List Sol) (i : Nat) (p : Sol) (z : Int) : List Sol := ((rngI z (lastC p).2.2).flatMap fun z => (rngI 0 (lastC p).2.1).flatMap fun y => (rngI 0 (lastC p).1).flatMap fun x => tryP a p z y x) ++ rT a L (i + 1)
def rY (a : Sol) (L : List Sol) (i : Nat) (p : Sol) (z y : Int) : List Sol := ((rngI y (lastC p).2.1).flatMap fun y => (rngI 0 (lastC p).1).flatMap fun x => tryP a p z y x) ++ rZ a L i p (z + 1)
def rX (a : Sol) (L : List Sol) (i : Nat) (p : Sol) (z y x : Int) : List Sol := ((rngI x (lastC p).1).flatMap fun x => tryP a p z y x) ++ rY a L i p z (y + 1)
/-- what is put, in the end -/
theorem rT_map (a : Sol) (L : List Sol) : rT a L 0 = L.flatMap fun x => (rowZ a x 0 (0, 0, 0) (subC (7, 7, 7) (hiS x))).map fun y => y.2 := by
 unfold rT
 rw [List.drop_zero]
 refine flat_congr fun p _ => ?_
 unfold rowZ rowY rowX
 rw [List.map_flatMap]
 refine flat_congr fun z _ => ?_
 rw [List.map_flatMap]
 refine flat_congr fun y _ => ?_
 rw [List.map_flatMap]
 refine flat_congr fun x _ => ?_
 unfold tryX tryP
 split <;> rfl
theorem put_all {a b : Sol} : (rT a (imagesS b) 0).foldl putS [] = placesR a b := by
 unfold placesR sortD
 rw [rT_map]
/-- the images in their order, one by one -/
def imgF (s : Sol) (k : Nat) : List Sol := ((imgL s).take k).foldl putS []
theorem imgF_zero (s : Sol) : imgF s 0 = [] := rfl
theorem imgF_end (s : Sol) : imgF s 24 = imagesS s := by
 unfold imgF imagesS sortD
 rw [List.take_of_length_le (by unfold imgL; simp)]
theorem imgF_step (s : Sol) {k : Nat} (h : k < 24) : imgF s (k + 1) = putS (imgF s k) (imageS s k) := by
 unfold imgF
 have e : (imgL s)[k]? = some (imageS s k) := by unfold imgL; rw [List.getElem?_map, List.getElem?_range h]; rfl
 rw [List.take_add_one, e, List.foldl_append]
 rfl
theorem put_len (s : Sol) : ∀ l : List Sol, (putS l s).length ≤ l.length + 1
 | [] => by simp [putS]
 | x :: l => by
  unfold putS
  split
  ·simp
  ·split
   ·simp
   ·have := put_len s l; simp; omega
theorem imgF_len (s : Sol) : ∀ k, (imgF s k).length ≤ k
 | 0 => by simp [imgF_zero]
 | k + 1 => by
  have ih := imgF_len s k
  by_cases h : k < 24
  ·rw [imgF_step s h]
   have := put_len (imageS s k) (imgF s k)
   omega
  ·have e : imgF s (k + 1) = imgF s k := by
    unfold imgF
    rw [List.take_of_length_le (by unfold imgL; simp; omega), List.take_of_length_le (by unfold imgL; simp; omega)]
   rw [e]; omega
end Go.Solid
end
section
namespace Go.Solid
open Go.Draw
set_option maxRecDepth 100000
def PlR (RR acc rest : List Sol) : Prop := rest.foldl putS acc = RR ∧ acc.length + rest.length ≤ 100000 ∧ Asc acc
theorem rT_len (a b : Sol) : (rT a (imagesS b) 0).length ≤ 100000 := by
 have hl := imgF_len b 24
 rw [imgF_end] at hl
 unfold rT
 rw [List.drop_zero]
 refine Nat.le_trans (flat_len_le (n := 15 * (15 * (15 * 1))) fun p hp => ?_) (by omega)
 have key : (lastC p).1 ≤ 14 ∧ (lastC p).2.1 ≤ 14 ∧ (lastC p).2.2 ≤ 14 := by
  have hh : ∀ k, 0 ≤ co (hiS p) k := by
   by_cases h0 : p = 0
   ·subst h0
    intro k
    have : hiS (0 : Sol) = hiS 0 := rfl
    match k with
    | 0 => decide +kernel
    | 1 => decide +kernel
    | _ + 2 => show 0 ≤ (hiS (0 : Sol)).2.2; decide +kernel
   ·have := inG_iff.1 (hiS_in h0)
    intro k
    match k with
    | 0 => exact this.1.1
    | 1 => exact this.2.1.1
    | _ + 2 => exact this.2.2.1
  have h0 : 0 ≤ (hiS p).1 := hh 0
  have h1 : 0 ≤ (hiS p).2.1 := hh 1
  have h2 : 0 ≤ (hiS p).2.2 := hh 2
  unfold lastC subC
  simp only
  omega
 obtain ⟨k0, k1, k2⟩ := key
 refine flat_rng_le (by omega) fun z => flat_rng_le (by omega) fun y => flat_rng_le (by omega) fun x => ?_
 unfold tryP
 split <;> simp
theorem plr_start {a b : Sol} : PlR (placesR a b) [] (rT a (imagesS b) 0) := ⟨put_all, by have := rT_len a b; simpa using this, List.Pairwise.nil⟩
end Go.Solid
end
section
namespace Go.Proofs.YtkfimbonmnoglaaGreatDoor
open Go.RowKit Go.Rel Go.Draw Go.Solid Go.Sort Go.Shelf
set_option maxRecDepth 100000
theorem sortSol_none (p : Option Addr) (cap : Nat) (fv : Value) (W : World) : Calls Tryz.prog 143 #[.slice p 0 cap, fv] W fun e w' => e = .returned (.tuple #[]) ∧ w' = W := by
 have hcon := AnyF.slices_SortFunc_none (P := Tryz.prog) (ρ := Tryz.sortS_ren) Tryz.sortS p cap fv W
 exact hcon
end Go.Proofs.YtkfimbonmnoglaaGreatDoor
end
section
namespace Go.Proofs.YtkfimbonmnoglaaGreatDoor
open Go.ChangeShapes Go.WideShapes Go.ChangeAt Go.RowKit Go.Draw
set_option maxRecDepth 100000
theorem ownK : ownKnob Tryz.prog.godebug = none := by kernel_rfl
theorem laidO : laidOutB Tryz.prog = true := by kernel_rfl
theorem and_t {a b : Bool} (h : a = true) (k : b = true) : (a && b) = true := by rw [h, k]; rfl
theorem gMaps : mapsRowed Tryz.prog = true := by kernel_rfl
theorem gStops : (Tryz.prog.stops == []) = true := by kernel_rfl
theorem gKnobs : (Tryz.prog.stopKnobs == []) = true := by kernel_rfl
theorem gHeard : Tryz.prog.stopsHeard = true := by kernel_rfl
theorem gEnter : Tryz.prog.mayEnter = true := by kernel_rfl
theorem cMain : Tryz.pinned.checked.prog.mainIs = some (true, ("2d2b98d2e7a6d467bd98fd00f57c4e37e19420a44b0c74c4b8b93e866a403526" : String).toList) := by kernel_rfl
end Go.Proofs.YtkfimbonmnoglaaGreatDoor
end
section
namespace Go.Proofs.YtkfimbonmnoglaaGreatDoor
open Go.RowKit Go.Rel Go.Draw Go.Solid
set_option maxRecDepth 100000
theorem fitsMo_fit (a b : Sol) : (fitsMo a b).2 = fitS a b := by
 unfold fitsMo fitS
 by_cases hb : b = 0
 ·rw [if_pos hb]; simp [hb]
 ·rw [if_neg hb]
  cases e : (fitsL a b).head? with
  | none => show false = (decide (b = 0) || false); rw [decide_eq_false hb]; rfl
  | some y => show true = (decide (b = 0) || true); rw [Bool.or_true]
end Go.Proofs.YtkfimbonmnoglaaGreatDoor
end
section
namespace Go.Proofs.YtkfimbonmnoglaaGreatDoor
open Go.RowKit Go.Rel Go.Draw Go.Solid
set_option maxRecDepth 100000
attribute [local go_sem] Oper.semAt_some
/-- a list of solids in memory, opened -/
def SlO (W : World) (a : Option Addr) (l : List Sol) : Prop := l = [] ∨ ∃ b off, a = some ⟨b, off, none⟩ ∧ Cells W b off 8 (l.map solL)
theorem SlO.mono {W W' : World} {a : Option Addr} {l : List Sol} (h : SlO W a l) (hb : Below W.heap.size W W') : SlO W' a l := by
 rcases h with h | ⟨b, off, h1, h2⟩
 ·exact .inl h
 ·exact .inr ⟨b, off, h1, h2.mono hb h2.1⟩
theorem SlO.at {W : World} {a : Option Addr} {l : List Sol} (h : SlO W a l) {k : Nat} {x : Sol} (hx : l[k]? = some x) : ∃ b off, a = some ⟨b, off, none⟩ ∧ Cells W b off 8 (l.map solL) := by
 rcases h with rfl | h
 ·cases hx
 ·exact h
theorem SlS.opened {W : World} {v : Value} {l : List Sol} (h : SlS W v l) : ∃ a c, v = .slice a l.length c ∧ SlO W a l := by
 obtain ⟨a, c, hv, _, _, hc⟩ := h
 refine ⟨a, c, by rw [hv, List.length_map], ?_⟩
 rcases hc with hc | hc
 ·exact .inl (List.map_eq_nil_iff.1 hc)
 ·exact .inr hc
theorem Cells.row {W : World} {b off k : Nat} {xs : List (List Value)} (h : Cells W b off k xs) {g : Nat} (hne : b ≠ g) (cs : Array Value) : Cells (W.setRow g cs) b off k xs :=
 ⟨by rw [setRow_size]; exact h.1, fun i j u hu => (cell_row_other _ _ _ _ _ hne).trans (h.2 i j u hu)⟩
end Go.Proofs.YtkfimbonmnoglaaGreatDoor
end
