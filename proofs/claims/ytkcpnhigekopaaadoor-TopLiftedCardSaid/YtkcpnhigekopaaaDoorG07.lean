import Derived.Test.YtkcpnhigekopaaaDoorG06
/-
  Given contracts of functions of the program, and laws for them, one behind the other.
-/
set_option linter.unusedVariables false
set_option linter.unusedSimpArgs false
set_option linter.unusedSectionVars false
section
namespace Go.Solid
open Go.Draw
set_option maxRecDepth 100000
/-! how many cells; parts of solids; moved and turned solids -/
def countS (s : Sol) : Nat := (bitsS s).length
theorem bitsS_nodup (s : Sol) : (bitsS s).Nodup := List.nodup_range.filter _
theorem cellsS_nodup (s : Sol) : (cellsS s).Nodup := by
 unfold cellsS
 unfold List.Nodup
 rw [List.pairwise_map]
 exact (bitsS_nodup s).imp fun {a b} h e => h (by rw [← bitN_cellN a, e, bitN_cellN])
theorem countS_cells (s : Sol) : countS s = (cellsS s).length := by unfold countS cellsS; rw [List.length_map]
theorem count_img {f : Cl → Cl} {s : Sol} (h : stays f s = true) (hi : ∀ c d, f c = f d → c = d) : countS (imgS f s) = countS s := by
 rw [countS_cells, countS_cells]
 have hp : (cellsS (imgS f s)).Perm ((cellsS s).map f) := by
  refine (List.perm_ext_iff_of_nodup (cellsS_nodup _) ?_).2 fun d => ?_
  ·unfold List.Nodup
   rw [List.pairwise_map]
   exact (cellsS_nodup s).imp fun {a b} h e => h (hi _ _ e)
  ·rw [mem_img h, List.mem_map]
 rw [hp.length_eq, List.length_map]
/-- all cells of a are cells of b -/
def subS (a b : Sol) : Bool := a &&& b == a
theorem subS_iff {a b : Sol} : subS a b = true ↔ ∀ c, hasS a c = true → hasS b c = true := by
 unfold subS
 rw [beq_iff_eq]
 constructor
 ·intro h c hc
  have hg := has_in hc
  unfold hasS at hc ⊢
  rw [hg, Bool.true_and] at hc ⊢
  rw [← h, BitVec.getLsbD_and, Bool.and_eq_true] at hc
  exact hc.2
 ·intro h
  apply sol_has
  intro c hc
  have := h c
  unfold hasS at this ⊢
  rw [hc] at this ⊢
  simp only [Bool.true_and] at this ⊢
  rw [BitVec.getLsbD_and]
  cases h1 : a.getLsbD (bitN c) with
  | false => rfl
  | true => rw [this h1]; rfl
theorem subS_refl (a : Sol) : subS a a = true := subS_iff.2 fun _ h => h
theorem subS_trans {a b c : Sol} (h : subS a b = true) (k : subS b c = true) : subS a c = true := subS_iff.2 fun x hx => subS_iff.1 k x (subS_iff.1 h x hx)
theorem subS_antisymm {a b : Sol} (h : subS a b = true) (k : subS b a = true) : a = b := by
 apply sol_has
 intro c _
 rw [Bool.eq_iff_iff]
 exact ⟨subS_iff.1 h c, subS_iff.1 k c⟩
theorem sub_bits {a b : Sol} (h : subS a b = true) : ∀ n, n ∈ bitsS a → n ∈ bitsS b := fun n hn => by
 have h1 := subS_iff.1 h (cellN n)
 rw [hasS_cellN (bitsS_lt hn), hasS_cellN (bitsS_lt hn)] at h1
 exact mem_bitsS.2 (h1 (mem_bitsS.1 hn))
theorem count_le {a b : Sol} (h : subS a b = true) : countS a ≤ countS b := (bitsS_nodup a).length_le_of_subset fun n hn => sub_bits h n hn
theorem count_eq {a b : Sol} (h : subS a b = true) (k : countS b ≤ countS a) : a = b := by
 have key : ∀ n, n ∈ bitsS b → n ∈ bitsS a := fun n hn => Classical.byContradiction fun hno => by
  have h1 : (n :: bitsS a).Nodup := List.nodup_cons.2 ⟨hno, bitsS_nodup a⟩
  have h2 := h1.length_le_of_subset (l₂ := bitsS b) fun x hx => by
   rcases List.mem_cons.1 hx with rfl | hx
   ·exact hn
   ·exact sub_bits h x hx
  rw [List.length_cons] at h2
  unfold countS at k
  omega
 apply BitVec.eq_of_getLsbD_eq
 intro n _
 rw [Bool.eq_iff_iff, ← mem_bitsS, ← mem_bitsS]
 exact ⟨sub_bits h n, key n⟩
theorem count_zero {s : Sol} : countS s = 0 ↔ s = 0 := by
 rw [countS_cells, List.length_eq_zero_iff, cellsS_nil]
/-! moves and turns of solids -/
theorem mov_inj (d : Cl) : ∀ c e, movC d c = movC d e → c = e := fun c e h => by
 have key : ∀ k, co c k = co e k := fun k => by
  have := congrArg (fun x => co x k) h
  simp only [co_mov] at this
  omega
 exact co_ext (key 0) (key 1) (key 2)
theorem turn_inj {t : Nat} (ht : t < 24) : ∀ c e, turnC t c = turnC t e → c = e := fun c e h => by
 rw [← turn_inv ht c, h, turn_inv ht]
theorem mov_zero (c : Cl) : movC (0, 0, 0) c = c := by
 have key : ∀ k, co (movC (0, 0, 0) c) k = co c k := fun k => by rw [co_mov, co_zero]; omega
 exact co_ext (key 0) (key 1) (key 2)
theorem mov_mov (d e c : Cl) : movC e (movC d c) = movC (addC d e) c := by
 have key : ∀ k, co (movC e (movC d c)) k = co (movC (addC d e) c) k := fun k => by rw [co_mov, co_mov, co_mov, co_add]; omega
 exact co_ext (key 0) (key 1) (key 2)
theorem mov_back (d c : Cl) : movC (negC d) (movC d c) = c := by
 have key : ∀ k, co (movC (negC d) (movC d c)) k = co c k := fun k => by rw [co_mov, co_mov, co_neg]; omega
 exact co_ext (key 0) (key 1) (key 2)
theorem back_mov (d c : Cl) : movC d (movC (negC d) c) = c := by
 have key : ∀ k, co (movC d (movC (negC d) c)) k = co c k := fun k => by rw [co_mov, co_mov, co_neg]; omega
 exact co_ext (key 0) (key 1) (key 2)
theorem turn_mov (t : Nat) (d c : Cl) : turnC t (movC d c) = movC (movT t d) (turnC t c) := turn_add t c d
theorem spun_zero (s : Sol) : spunS s 0 = s := (imgS_id (f := turnC 0) fun c _ => turn_zero c).2
theorem spun_mul {t u : Nat} (ht : t < 24) (hu : u < 24) (s : Sol) : spunS (spunS s t) u = spunS s (mulT t u) := by
 unfold spunS
 rw [← (imgS_comp (spun_stays s t) (spun_stays _ u)).2]
 exact (imgS_congr fun c _ => turn_mul ht hu c).2
theorem spun_inv {t : Nat} (ht : t < 24) (s : Sol) : spunS (spunS s t) (invT t) = s := by
 unfold spunS
 rw [← (imgS_comp (spun_stays s t) (spun_stays _ (invT t))).2]
 exact (imgS_id fun c _ => turn_inv ht c).2
theorem spun_count {t : Nat} (ht : t < 24) (s : Sol) : countS (spunS s t) = countS s := count_img (spun_stays s t) (turn_inj ht)
theorem img_ne {f : Cl → Cl} {s : Sol} (h : stays f s = true) (hs : s ≠ 0) : imgS f s ≠ 0 := by
 obtain ⟨c, hc⟩ := has_some hs
 intro e
 have := (mem_img h).2 ⟨c, mem_cellsS.2 hc, rfl⟩
 rw [e, cellsS_zero] at this
 cases this
theorem img_zero (f : Cl → Cl) : imgS f 0 = 0 := by unfold imgS; rw [cellsS_zero]; rfl
theorem spun_ne {s : Sol} (hs : s ≠ 0) (t : Nat) : spunS s t ≠ 0 := img_ne (spun_stays s t) hs
/-- moved solids, moved to the corner -/
theorem lo_mov {s : Sol} {d : Cl} (h : stays (movC d) s = true) (hs : s ≠ 0) : loS (imgS (movC d) s) = addC (loS s) d := by
 have hn := img_ne h hs
 have key : ∀ k, co (loS (imgS (movC d) s)) k = co (addC (loS s) d) k := fun k => by
  rw [co_add]
  obtain ⟨c, hc, e⟩ := loS_at hs k
  obtain ⟨g, hg, e2⟩ := loS_at hn k
  obtain ⟨g', hg', rfl⟩ := (imgS_has h (has_in hg)).1 hg
  have h1 := loS_le (mem_cellsS.1 ((mem_img h).2 ⟨c, mem_cellsS.2 hc, rfl⟩)) k
  have h2 := loS_le hg' k
  rw [co_mov] at h1 e2
  omega
 exact co_ext (key 0) (key 1) (key 2)
theorem hi_mov {s : Sol} {d : Cl} (h : stays (movC d) s = true) (hs : s ≠ 0) : hiS (imgS (movC d) s) = addC (hiS s) d := by
 have hn := img_ne h hs
 have key : ∀ k, co (hiS (imgS (movC d) s)) k = co (addC (hiS s) d) k := fun k => by
  rw [co_add]
  obtain ⟨c, hc, e⟩ := hiS_at hs k
  obtain ⟨g, hg, e2⟩ := hiS_at hn k
  obtain ⟨g', hg', rfl⟩ := (imgS_has h (has_in hg)).1 hg
  have h1 := le_hiS (mem_cellsS.1 ((mem_img h).2 ⟨c, mem_cellsS.2 hc, rfl⟩)) k
  have h2 := le_hiS hg' k
  rw [co_mov] at h1 e2
  omega
 exact co_ext (key 0) (key 1) (key 2)
theorem corn_zero : cornS 0 = 0 := by unfold cornS; rw [if_pos rfl]
theorem corn_mov {s : Sol} {d : Cl} (h : stays (movC d) s = true) : cornS (imgS (movC d) s) = cornS s := by
 by_cases hs : s = 0
 ·subst hs; rw [img_zero]
 ·have hn := img_ne h hs
  unfold cornS
  rw [if_neg hs, if_neg hn]
  have h2 := corn_stays hn
  rw [← (imgS_comp h h2).2, lo_mov h hs]
  refine (imgS_congr fun c _ => ?_).2
  have key : ∀ k, co (movC (negC (addC (loS s) d)) (movC d c)) k = co (movC (negC (loS s)) c) k := fun k => by
   rw [co_mov, co_mov, co_neg, co_add, co_mov, co_neg]; omega
  exact co_ext (key 0) (key 1) (key 2)
/-- where a solid stands: it is one that is moved to the corner, moved back -/
theorem corn_back {s : Sol} (hs : s ≠ 0) : stays (movC (loS s)) (cornS s) = true ∧ imgS (movC (loS s)) (cornS s) = s := by
 have h := corn_stays hs
 unfold cornS
 rw [if_neg hs]
 have h2 : stays (movC (loS s)) (imgS (movC (negC (loS s))) s) = true := stays_iff.2 fun e he => by
  obtain ⟨c, hc, rfl⟩ := (imgS_has h (has_in he)).1 he
  rw [back_mov]; exact has_in hc
 exact ⟨h2, by rw [← (imgS_comp h h2).2]; exact (imgS_id fun c _ => back_mov _ c).2⟩
theorem corn_ne {s : Sol} (hs : s ≠ 0) : cornS s ≠ 0 := by
 unfold cornS
 rw [if_neg hs]
 exact img_ne (corn_stays hs) hs
/-- a turn of what is moved to the corner is, moved to the corner, the turn -/
theorem corn_turn {s : Sol} {t : Nat} : cornS (spunS (cornS s) t) = cornS (spunS s t) := by
 by_cases hs : s = 0
 ·subst hs; rw [corn_zero]
 ·have h := corn_stays hs
  have e1 : cornS s = imgS (movC (negC (loS s))) s := by unfold cornS; rw [if_neg hs]
  have e2 : spunS (cornS s) t = imgS (movC (movT t (negC (loS s)))) (spunS s t) ∧ stays (movC (movT t (negC (loS s)))) (spunS s t) = true := by
   have h3 : stays (movC (movT t (negC (loS s)))) (spunS s t) = true := stays_iff.2 fun e he => by
    obtain ⟨c, hc, rfl⟩ := (imgS_has (spun_stays s t) (has_in he)).1 he
    rw [← turn_mov, turn_in]
    exact stays_iff.1 h c hc
   refine ⟨?_, h3⟩
   unfold spunS at h3 ⊢
   rw [e1, ← (imgS_comp h (spun_stays _ t)).2, ← (imgS_comp (spun_stays s t) h3).2]
   exact (imgS_congr fun c _ => turn_mov t _ c).2
  rw [e2.1, corn_mov e2.2]
theorem image_mul {t u : Nat} (ht : t < 24) (hu : u < 24) (s : Sol) : imageS (imageS s t) u = imageS s (mulT t u) := by
 unfold imageS
 rw [corn_turn, spun_mul ht hu]
end Go.Solid
end
section
namespace Go.Solid
open Go.Draw
set_option maxRecDepth 100000
/-! how one solid stands inside another -/
def rngI (a b : Int) : List Int := (List.range (b - a + 1).toNat).map fun i : Nat => a + (i : Int)
theorem mem_rngI {a b i : Int} : i ∈ rngI a b ↔ a ≤ i ∧ i ≤ b := by
 unfold rngI
 rw [List.mem_map]
 constructor
 ·rintro ⟨k, hk, rfl⟩
  rw [List.mem_range] at hk; omega
 ·intro h
  exact ⟨(i - a).toNat, by rw [List.mem_range]; omega, by omega⟩
theorem rngI_append {a b c : Int} (h : a ≤ b + 1) (k : b ≤ c) : rngI a c = rngI a b ++ rngI (b + 1) c := by
 unfold rngI
 rw [show (c - a + 1).toNat = (b - a + 1).toNat + (c - (b + 1) + 1).toNat by omega, List.range_add, List.map_append, List.map_map]
 congr 1
 apply List.map_congr_left
 intro i _
 simp only [Function.comp]
 omega
theorem flat_none {α β : Type} {g : α → List β} : ∀ {l : List α}, (∀ i ∈ l, g i = []) → l.flatMap g = []
 | [], _ => rfl
 | a :: l, h => by
  rw [List.flatMap_cons, h a List.mem_cons_self, flat_none fun i hi => h i (List.mem_cons_of_mem _ hi)]; rfl
theorem flat_congr {α β : Type} {f g : α → List β} : ∀ {l : List α}, (∀ i ∈ l, f i = g i) → l.flatMap f = l.flatMap g
 | [], _ => rfl
 | a :: l, h => by
  rw [List.flatMap_cons, List.flatMap_cons, h a List.mem_cons_self, flat_congr fun i hi => h i (List.mem_cons_of_mem _ hi)]
/-- what gives nothing may be left out on both ends -/
theorem rng_narrow {β : Type} {g : Int → List β} {A B a b : Int} (hA : A ≤ a) (hB : b ≤ B) (h : ∀ i, A ≤ i → i ≤ B → g i ≠ [] → a ≤ i ∧ i ≤ b) : (rngI A B).flatMap g = (rngI a b).flatMap g := by
 by_cases hab : a ≤ b + 1
 ·have e1 : rngI A B = rngI A (a - 1) ++ (rngI a b ++ rngI (b + 1) B) := by
   rw [rngI_append (b := a - 1) (by omega) (by omega), show a - 1 + 1 = a by omega, rngI_append hab hB]
  rw [e1, List.flatMap_append, List.flatMap_append]
  have h1 : (rngI A (a - 1)).flatMap g = [] := flat_none fun i hi => by
   rw [mem_rngI] at hi
   refine Classical.byContradiction fun hn => ?_
   have := h i hi.1 (by omega) hn; omega
  have h2 : (rngI (b + 1) B).flatMap g = [] := flat_none fun i hi => by
   rw [mem_rngI] at hi
   refine Classical.byContradiction fun hn => ?_
   have := h i (by omega) hi.2 hn; omega
  rw [h1, h2, List.nil_append, List.append_nil]
 ·have h1 : (rngI A B).flatMap g = [] := flat_none fun i hi => by
   rw [mem_rngI] at hi
   refine Classical.byContradiction fun hn => ?_
   have := h i hi.1 hi.2 hn; omega
  have h2 : rngI a b = [] := by unfold rngI; rw [show (b - a + 1).toNat = 0 by omega]; rfl
  rw [h1, h2]; rfl
/-- a motion: the turn, and the move -/
abbrev Mt := Nat × Cl
def tryX (a p : Sol) (t : Nat) (z y x : Int) : List (Mt × Sol) := if subS (imgS (movC (x, y, z)) p) a then [((t, (x, y, z)), imgS (movC (x, y, z)) p)] else []
def rowX (a p : Sol) (t : Nat) (z y : Int) (A B : Cl) : List (Mt × Sol) := (rngI A.1 B.1).flatMap fun x => tryX a p t z y x
def rowY (a p : Sol) (t : Nat) (z : Int) (A B : Cl) : List (Mt × Sol) := (rngI A.2.1 B.2.1).flatMap fun y => rowX a p t z y A B
def rowZ (a p : Sol) (t : Nat) (A B : Cl) : List (Mt × Sol) := (rngI A.2.2 B.2.2).flatMap fun z => rowY a p t z A B
/-- the program looks in the room of the outer solid, the reference in the grid -/
def fitsL (a b : Sol) : List (Mt × Sol) := if a = 0 ∨ countS a < countS b then [] else (List.range 24).flatMap fun t => rowZ a (spunS b t) t (subC (loS a) (loS (spunS b t))) (subC (hiS a) (hiS (spunS b t)))
def fitsR (a b : Sol) : List (Mt × Sol) := if countS a < countS b then [] else (List.range 24).flatMap fun t => rowZ a (spunS b t) t (negC (loS (spunS b t))) (subC (7, 7, 7) (hiS (spunS b t)))
theorem mem_rowZ {a p : Sol} {t : Nat} {A B : Cl} {m : Mt} {q : Sol} : (m, q) ∈ rowZ a p t A B ↔ m.1 = t ∧ (A.1 ≤ m.2.1 ∧ m.2.1 ≤ B.1) ∧ (A.2.1 ≤ m.2.2.1 ∧ m.2.2.1 ≤ B.2.1) ∧ (A.2.2 ≤ m.2.2.2 ∧ m.2.2.2 ≤ B.2.2) ∧ q = imgS (movC m.2) p ∧ subS q a = true := by
 unfold rowZ rowY rowX
 simp only [List.mem_flatMap, mem_rngI]
 constructor
 ·rintro ⟨z, hz, y, hy, x, hx, h⟩
  unfold tryX at h
  split at h
  ·rename_i hs
   rw [List.mem_singleton, Prod.mk.injEq] at h
   obtain ⟨rfl, rfl⟩ := h
   exact ⟨rfl, hx, hy, hz, rfl, hs⟩
  ·cases h
 ·rintro ⟨rfl, hx, hy, hz, rfl, hs⟩
  refine ⟨m.2.2.2, hz, m.2.2.1, hy, m.2.1, hx, ?_⟩
  unfold tryX
  have e : ((m.2.1, m.2.2.1, m.2.2.2) : Cl) = m.2 := rfl
  rw [e, if_pos hs, List.mem_singleton]
/-- within the ranges of the grid nothing leaves the grid -/
theorem range_stays {p : Sol} {d : Cl} (h : ∀ k, - co (loS p) k ≤ co d k ∧ co d k ≤ 7 - co (hiS p) k) : stays (movC d) p = true := stays_iff.2 fun c hc => in_co fun k => by
 rw [co_mov]
 have h1 := loS_le hc k
 have h2 := le_hiS hc k
 have h3 := h k
 omega
/-- what stands inside a stands in the room of a -/
theorem room_of {a p : Sol} {d : Cl} (hp : p ≠ 0) (hs : stays (movC d) p = true) (h : subS (imgS (movC d) p) a = true) : a ≠ 0 ∧ ∀ k, co (loS a) k - co (loS p) k ≤ co d k ∧ co d k ≤ co (hiS a) k - co (hiS p) k := by
 refine ⟨fun e => ?_, fun k => ?_⟩
 ·subst e
  obtain ⟨c, hc⟩ := has_some (img_ne hs hp)
  have := subS_iff.1 h c hc
  unfold hasS at this
  simp at this
 ·obtain ⟨c, hc, e1⟩ := loS_at hp k
  obtain ⟨c', hc', e2⟩ := hiS_at hp k
  have h1 := loS_le (subS_iff.1 h _ (mem_cellsS.1 ((mem_img hs).2 ⟨c, mem_cellsS.2 hc, rfl⟩))) k
  have h2 := le_hiS (subS_iff.1 h _ (mem_cellsS.1 ((mem_img hs).2 ⟨c', mem_cellsS.2 hc', rfl⟩))) k
  rw [co_mov] at h1 h2
  omega
theorem rowZ_room {a p : Sol} (t : Nat) (ha : a ≠ 0) (hp : p ≠ 0) : rowZ a p t (negC (loS p)) (subC (7, 7, 7) (hiS p)) = rowZ a p t (subC (loS a) (loS p)) (subC (hiS a) (hiS p)) := by
 have hla := inG_iff.1 (loS_in ha)
 have hha := inG_iff.1 (hiS_in ha)
 have key : ∀ x y z : Int, (- (loS p).1 ≤ x ∧ x ≤ 7 - (hiS p).1) → (- (loS p).2.1 ≤ y ∧ y ≤ 7 - (hiS p).2.1) → (- (loS p).2.2 ≤ z ∧ z ≤ 7 - (hiS p).2.2) → tryX a p t z y x ≠ [] → ((loS a).1 - (loS p).1 ≤ x ∧ x ≤ (hiS a).1 - (hiS p).1) ∧ ((loS a).2.1 - (loS p).2.1 ≤ y ∧ y ≤ (hiS a).2.1 - (hiS p).2.1) ∧ ((loS a).2.2 - (loS p).2.2 ≤ z ∧ z ≤ (hiS a).2.2 - (hiS p).2.2) := by
  intro x y z hx hy hz hn
  unfold tryX at hn
  split at hn
  ·rename_i hs
   have hst : stays (movC (x, y, z)) p = true := range_stays fun k => by
    match k with
    | 0 => exact hx
    | 1 => exact hy
    | _ + 2 => exact hz
   have := (room_of hp hst hs).2
   exact ⟨this 0, this 1, this 2⟩
  ·exact absurd rfl hn
 have hX : ∀ y z : Int, (- (loS p).2.1 ≤ y ∧ y ≤ 7 - (hiS p).2.1) → (- (loS p).2.2 ≤ z ∧ z ≤ 7 - (hiS p).2.2) → rowX a p t z y (negC (loS p)) (subC (7, 7, 7) (hiS p)) = rowX a p t z y (subC (loS a) (loS p)) (subC (hiS a) (hiS p)) := by
  intro y z hy hz
  unfold rowX
  refine rng_narrow ?_ ?_ fun x h1 h2 hn => (key x y z ⟨h1, h2⟩ hy hz hn).1
  ·show - (loS p).1 ≤ (loS a).1 - (loS p).1; omega
  ·show (hiS a).1 - (hiS p).1 ≤ 7 - (hiS p).1; omega
 have some_of : ∀ {α β : Type} {g : α → List β} {l : List α}, l.flatMap g ≠ [] → ∃ i ∈ l, g i ≠ [] := by
  intro α β g l h
  refine Classical.byContradiction fun hno => h (flat_none fun i hi => Classical.byContradiction fun hg => hno ⟨i, hi, hg⟩)
 have hY : ∀ z : Int, (- (loS p).2.2 ≤ z ∧ z ≤ 7 - (hiS p).2.2) → rowY a p t z (negC (loS p)) (subC (7, 7, 7) (hiS p)) = rowY a p t z (subC (loS a) (loS p)) (subC (hiS a) (hiS p)) := by
  intro z hz
  unfold rowY
  refine (flat_congr (g := fun y => rowX a p t z y (subC (loS a) (loS p)) (subC (hiS a) (hiS p))) fun y hy => hX y z (mem_rngI.1 hy) hz).trans ?_
  refine rng_narrow ?_ ?_ fun y h1 h2 hn => ?_
  ·show - (loS p).2.1 ≤ (loS a).2.1 - (loS p).2.1; omega
  ·show (hiS a).2.1 - (hiS p).2.1 ≤ 7 - (hiS p).2.1; omega
  ·rw [← hX y z ⟨h1, h2⟩ hz] at hn
   obtain ⟨x, hx, hg⟩ := some_of hn
   exact (key x y z (mem_rngI.1 hx) ⟨h1, h2⟩ hz hg).2.1
 unfold rowZ
 refine (flat_congr (g := fun z => rowY a p t z (subC (loS a) (loS p)) (subC (hiS a) (hiS p))) fun z hz => hY z (mem_rngI.1 hz)).trans ?_
 refine rng_narrow ?_ ?_ fun z h1 h2 hn => ?_
 ·show - (loS p).2.2 ≤ (loS a).2.2 - (loS p).2.2; omega
 ·show (hiS a).2.2 - (hiS p).2.2 ≤ 7 - (hiS p).2.2; omega
 ·rw [← hY z ⟨h1, h2⟩] at hn
  obtain ⟨y, hy, hg⟩ := some_of hn
  obtain ⟨x, hx, hg2⟩ := some_of hg
  exact (key x y z (mem_rngI.1 hx) (mem_rngI.1 hy) ⟨h1, h2⟩ hg2).2.2
/-- both look alike -/
theorem fits_eq {a b : Sol} (hb : b ≠ 0) : fitsR a b = fitsL a b := by
 unfold fitsR fitsL
 by_cases hc : countS a < countS b
 ·rw [if_pos hc, if_pos (.inr hc)]
 ·have ha : a ≠ 0 := fun e => by
   subst e
   have h0 : countS b ≠ 0 := fun h => hb (count_zero.1 h)
   rw [count_zero.2 rfl] at hc
   omega
  rw [if_neg hc, if_neg (fun h => h.elim ha hc)]
  exact flat_congr fun t _ => rowZ_room t ha (spun_ne hb t)
/-- a motion fits b into a -/
def FitsM (a b : Sol) (m : Mt) : Prop := m.1 < 24 ∧ stays (movC m.2) (spunS b m.1) = true ∧ subS (imgS (movC m.2) (spunS b m.1)) a = true
theorem mem_fits {a b : Sol} (hb : b ≠ 0) {m : Mt} {q : Sol} : (m, q) ∈ fitsL a b ↔ FitsM a b m ∧ q = imgS (movC m.2) (spunS b m.1) := by
 unfold fitsL FitsM
 constructor
 ·intro h
  split at h
  ·cases h
  ·rename_i hc
   have ha : a ≠ 0 := fun e => hc (.inl e)
   rw [List.mem_flatMap] at h
   obtain ⟨t, ht, h⟩ := h
   obtain ⟨rfl, hx, hy, hz, rfl, hs⟩ := mem_rowZ.1 h
   have hla := inG_iff.1 (loS_in ha)
   have hha := inG_iff.1 (hiS_in ha)
   refine ⟨⟨List.mem_range.1 ht, range_stays fun k => ?_, hs⟩, rfl⟩
   match k with
   | 0 => exact ⟨Int.le_trans (by show _ ≤ (loS a).1 - (loS (spunS b m.1)).1; show - (loS (spunS b m.1)).1 ≤ _; omega) hx.1, Int.le_trans hx.2 (by show (hiS a).1 - (hiS (spunS b m.1)).1 ≤ 7 - (hiS (spunS b m.1)).1; omega)⟩
   | 1 => exact ⟨Int.le_trans (by show _ ≤ (loS a).2.1 - (loS (spunS b m.1)).2.1; show - (loS (spunS b m.1)).2.1 ≤ _; omega) hy.1, Int.le_trans hy.2 (by show (hiS a).2.1 - (hiS (spunS b m.1)).2.1 ≤ 7 - (hiS (spunS b m.1)).2.1; omega)⟩
   | _ + 2 => exact ⟨Int.le_trans (by show _ ≤ (loS a).2.2 - (loS (spunS b m.1)).2.2; show - (loS (spunS b m.1)).2.2 ≤ _; omega) hz.1, Int.le_trans hz.2 (by show (hiS a).2.2 - (hiS (spunS b m.1)).2.2 ≤ 7 - (hiS (spunS b m.1)).2.2; omega)⟩
 ·rintro ⟨⟨ht, hst, hs⟩, rfl⟩
  have hp := spun_ne hb m.1
  obtain ⟨ha, hr⟩ := room_of hp hst hs
  have hcount : countS b ≤ countS a := by
   have h1 := count_le hs
   rw [count_img hst (mov_inj _), spun_count ht] at h1
   exact h1
  rw [if_neg (fun h => h.elim ha (by omega)), List.mem_flatMap]
  exact ⟨m.1, List.mem_range.2 ht, mem_rowZ.2 ⟨rfl, hr 0, hr 1, hr 2, rfl, hs⟩⟩
def fitsB (a b : Sol) : Prop := b = 0 ∨ ∃ m, FitsM a b m
theorem fits_head {a b : Sol} (hb : b ≠ 0) : (fitsL a b).head?.isSome = true ↔ ∃ m, FitsM a b m := by
 constructor
 ·intro h
  cases hl : fitsL a b with
  | nil => rw [hl] at h; cases h
  | cons x l =>
   obtain ⟨m, q⟩ := x
   exact ⟨m, ((mem_fits hb).1 (by rw [hl]; exact List.mem_cons_self)).1⟩
 ·rintro ⟨m, h⟩
  have h2 := (mem_fits hb).2 ⟨h, rfl⟩
  cases hl : fitsL a b with
  | nil => rw [hl] at h2; cases h2
  | cons x l => rfl
/-! theorem T2, the order -/
theorem fits_refl (a : Sol) : FitsM a a (0, (0, 0, 0)) := by
 have h := imgS_id (f := movC (0, 0, 0)) (s := spunS a 0) fun c _ => mov_zero c
 refine ⟨by decide, h.1, ?_⟩
 show subS (imgS (movC (0, 0, 0)) (spunS a 0)) a = true
 rw [h.2, spun_zero]; exact subS_refl a
theorem img_sub {f : Cl → Cl} {p q : Sol} (h : subS p q = true) (hq : stays f q = true) : stays f p = true ∧ subS (imgS f p) (imgS f q) = true := by
 have hp : stays f p = true := stays_iff.2 fun c hc => stays_iff.1 hq c (subS_iff.1 h c hc)
 refine ⟨hp, subS_iff.2 fun e he => ?_⟩
 obtain ⟨c, hc, rfl⟩ := (imgS_has hp (has_in he)).1 he
 exact mem_cellsS.1 ((mem_img hq).2 ⟨c, mem_cellsS.2 (subS_iff.1 h c hc), rfl⟩)
/-- first m, then n -/
theorem motion_comp {s : Sol} {m n : Mt} (hm : m.1 < 24) (hn : n.1 < 24) (h1 : stays (movC m.2) (spunS s m.1) = true) (h2 : stays (movC n.2) (spunS (imgS (movC m.2) (spunS s m.1)) n.1) = true) :
  stays (movC (addC (movT n.1 m.2) n.2)) (spunS s (mulT m.1 n.1)) = true ∧ imgS (movC (addC (movT n.1 m.2) n.2)) (spunS s (mulT m.1 n.1)) = imgS (movC n.2) (spunS (imgS (movC m.2) (spunS s m.1)) n.1) := by
 have e1 : spunS (imgS (movC m.2) (spunS s m.1)) n.1 = imgS (movC (movT n.1 m.2)) (spunS s (mulT m.1 n.1)) ∧ stays (movC (movT n.1 m.2)) (spunS s (mulT m.1 n.1)) = true := by
  rw [← spun_mul hm hn]
  have h3 : stays (movC (movT n.1 m.2)) (spunS (spunS s m.1) n.1) = true := stays_iff.2 fun e he => by
   obtain ⟨c, hc, rfl⟩ := (imgS_has (spun_stays _ n.1) (has_in he)).1 he
   rw [← turn_mov, turn_in]
   exact stays_iff.1 h1 c hc
  refine ⟨?_, h3⟩
  show imgS (turnC n.1) (imgS (movC m.2) (spunS s m.1)) = imgS _ (imgS (turnC n.1) (spunS s m.1))
  rw [← (imgS_comp h1 (spun_stays _ n.1)).2, ← (imgS_comp (spun_stays _ n.1) h3).2]
  exact (imgS_congr fun c _ => turn_mov n.1 m.2 c).2
 rw [e1.1] at h2 ⊢
 have h4 := imgS_comp e1.2 h2
 have h5 := imgS_congr (s := spunS s (mulT m.1 n.1)) (f := fun c => movC n.2 (movC (movT n.1 m.2) c)) (g := movC (addC (movT n.1 m.2) n.2)) fun c _ => mov_mov _ _ c
 rw [← h5.1, ← h5.2]
 exact h4
theorem fits_trans {a b c : Sol} {m n : Mt} (hm : FitsM b c m) (hn : FitsM a b n) : FitsM a c (mulT m.1 n.1, addC (movT n.1 m.2) n.2) := by
 obtain ⟨h1, h2, h3⟩ := hm
 obtain ⟨k1, k2, k3⟩ := hn
 have e1 := img_sub h3 (spun_stays b n.1)
 have e2 : stays (movC n.2) (spunS (imgS (movC m.2) (spunS c m.1)) n.1) = true ∧ subS (imgS (movC n.2) (spunS (imgS (movC m.2) (spunS c m.1)) n.1)) (imgS (movC n.2) (spunS b n.1)) = true := img_sub e1.2 k2
 have e3 := motion_comp h1 k1 h2 e2.1
 refine ⟨mul_lt h1 k1, e3.1, ?_⟩
 show subS (imgS (movC (addC (movT n.1 m.2) n.2)) (spunS c (mulT m.1 n.1))) a = true
 rw [e3.2]
 exact subS_trans e2.2 k3
theorem fits_count {a b : Sol} {m : Mt} (h : FitsM a b m) : countS b ≤ countS a := by
 obtain ⟨h1, h2, h3⟩ := h
 have := count_le h3
 rwa [count_img h2 (mov_inj _), spun_count h1] at this
theorem fits_less {a b b' : Sol} {m : Mt} (h : FitsM a b m) (hb : subS b' b = true) : FitsM a b' m := by
 obtain ⟨h1, h2, h3⟩ := h
 have e1 := img_sub hb (spun_stays b m.1)
 have e2 : stays (movC m.2) (spunS b' m.1) = true ∧ subS (imgS (movC m.2) (spunS b' m.1)) (imgS (movC m.2) (spunS b m.1)) = true := img_sub e1.2 h2
 exact ⟨h1, e2.1, subS_trans e2.2 h3⟩
theorem fits_wide {a a' b : Sol} {m : Mt} (h : FitsM a b m) (ha : subS a a' = true) : FitsM a' b m := ⟨h.1, h.2.1, subS_trans h.2.2 ha⟩
end Go.Solid
end
section
namespace Go.Solid
open Go.Draw
set_option maxRecDepth 100000
/-! solids in order; the images of a solid -/
def digs (s : Sol) : List Nat := [(plv s 0).toNat, (plv s 1).toNat, (plv s 2).toNat, (plv s 3).toNat, (plv s 4).toNat, (plv s 5).toNat, (plv s 6).toNat, (plv s 7).toNat]
/-- -1, 0, 1: as lists of numbers are compared -/
def cmpN : List Nat → List Nat → Int
 | [], [] => 0
 | [], _ :: _ => -1
 | _ :: _, [] => 1
 | a :: l, b :: m => if a < b then -1 else if b < a then 1 else cmpN l m
def valN : List Nat → Nat
 | [] => 0
 | a :: l => a * 18446744073709551616 ^ l.length + valN l
theorem valN_lt : ∀ l : List Nat, (∀ a ∈ l, a < 18446744073709551616) → valN l < 18446744073709551616 ^ l.length
 | [], _ => by simp [valN]
 | a :: l, h => by
  have h1 := valN_lt l fun x hx => h x (List.mem_cons_of_mem _ hx)
  have h2 := h a List.mem_cons_self
  show a * 18446744073709551616 ^ l.length + valN l < 18446744073709551616 ^ (l.length + 1)
  rw [Nat.pow_succ, Nat.mul_comm (18446744073709551616 ^ l.length)]
  calc a * 18446744073709551616 ^ l.length + valN l < a * 18446744073709551616 ^ l.length + 18446744073709551616 ^ l.length := by omega
   _ = (a + 1) * 18446744073709551616 ^ l.length := by rw [Nat.add_mul, Nat.one_mul]
   _ ≤ 18446744073709551616 * 18446744073709551616 ^ l.length := Nat.mul_le_mul_right _ h2
theorem cmpN_val : ∀ l m : List Nat, l.length = m.length → (∀ a ∈ l, a < 18446744073709551616) → (∀ a ∈ m, a < 18446744073709551616) → cmpN l m = if valN l < valN m then -1 else if valN m < valN l then 1 else 0
 | [], [], _, _, _ => by simp [cmpN, valN]
 | a :: l, b :: m, hl, h1, h2 => by
  have hl' : l.length = m.length := by simpa using hl
  have ih := cmpN_val l m hl' (fun x hx => h1 x (List.mem_cons_of_mem _ hx)) (fun x hx => h2 x (List.mem_cons_of_mem _ hx))
  have v1 := valN_lt l fun x hx => h1 x (List.mem_cons_of_mem _ hx)
  have v2 := valN_lt m fun x hx => h2 x (List.mem_cons_of_mem _ hx)
  unfold cmpN valN
  rw [hl'] at v1 ⊢
  generalize 18446744073709551616 ^ m.length = P at v1 v2 ⊢
  have key : ∀ x y p q : Nat, p < P → q < P → x < y → x * P + p < y * P + q := fun x y p q hp hq hxy => by
   have : (x + 1) * P ≤ y * P := Nat.mul_le_mul_right _ hxy
   rw [Nat.add_mul, Nat.one_mul] at this
   omega
  by_cases e1 : a < b
  ·rw [if_pos e1, if_pos (key _ _ _ _ v1 v2 e1)]
  ·rw [if_neg e1]
   by_cases e2 : b < a
   ·have := key _ _ _ _ v2 v1 e2
    rw [if_pos e2, if_neg (by omega), if_pos this]
   ·have : a = b := by omega
    subst this
    rw [if_neg e2, ih]
    simp only [Nat.add_lt_add_iff_left]
def rank (s : Sol) : Nat := valN (digs s)
theorem digs_lt (s : Sol) : ∀ a ∈ digs s, a < 18446744073709551616 := by
 intro a h
 unfold digs at h
 simp only [List.mem_cons, List.not_mem_nil, or_false] at h
 rcases h with rfl | rfl | rfl | rfl | rfl | rfl | rfl | rfl <;> exact BitVec.isLt _
theorem cmpS_rank (a b : Sol) : cmpN (digs a) (digs b) = if rank a < rank b then -1 else if rank b < rank a then 1 else 0 := cmpN_val _ _ rfl (digs_lt a) (digs_lt b)
theorem cmpN_zero : ∀ l m : List Nat, cmpN l m = 0 → l = m
 | [], [], _ => rfl
 | [], _ :: _, h => by cases h
 | _ :: _, [], h => by cases h
 | a :: l, b :: m, h => by
  unfold cmpN at h
  split at h
  ·cases h
  ·split at h
   ·cases h
   ·rw [cmpN_zero l m h]; congr 1; omega
theorem rank_inj {a b : Sol} (h : rank a = rank b) : a = b := by
 have h1 := cmpS_rank a b
 rw [h, if_neg (Nat.lt_irrefl _), if_neg (Nat.lt_irrefl _)] at h1
 have h2 := cmpN_zero _ _ h1
 unfold digs at h2
 simp only [List.cons.injEq, BitVec.toNat_inj, and_true] at h2
 obtain ⟨h0, h1, h2, h3, h4, h5, h6, h7⟩ := h2
 apply sol_ext
 intro k hk
 obtain rfl | rfl | rfl | rfl | rfl | rfl | rfl | rfl : k = 0 ∨ k = 1 ∨ k = 2 ∨ k = 3 ∨ k = 4 ∨ k = 5 ∨ k = 6 ∨ k = 7 := by omega
 all_goals assumption
/-- ascending, each once -/
def Asc (l : List Sol) : Prop := l.Pairwise fun a b => rank a < rank b
theorem asc_unique : ∀ {l m : List Sol}, Asc l → Asc m → (∀ x, x ∈ l ↔ x ∈ m) → l = m
 | [], [], _, _, _ => rfl
 | [], b :: m, _, _, h => by have := (h b).2 List.mem_cons_self; cases this
 | a :: l, [], _, _, h => by have := (h a).1 List.mem_cons_self; cases this
 | a :: l, b :: m, h1, h2, h => by
  obtain ⟨a1, a2⟩ := List.pairwise_cons.1 h1
  obtain ⟨b1, b2⟩ := List.pairwise_cons.1 h2
  have e : a = b := by
   rcases List.mem_cons.1 ((h a).1 List.mem_cons_self) with e | e
   ·exact e
   ·rcases List.mem_cons.1 ((h b).2 List.mem_cons_self) with e' | e'
    ·exact e'.symm
    ·have := a1 b e'; have := b1 a e; omega
  subst e
  rw [asc_unique a2 b2 fun x => ?_]
  have hx := h x
  constructor
  ·intro hl
   rcases List.mem_cons.1 (hx.1 (List.mem_cons_of_mem _ hl)) with e | e
   ·subst e; have := a1 x hl; omega
   ·exact e
  ·intro hl
   rcases List.mem_cons.1 (hx.2 (List.mem_cons_of_mem _ hl)) with e | e
   ·subst e; have := b1 x hl; omega
   ·exact e
def putS : List Sol → Sol → List Sol
 | [], s => [s]
 | x :: l, s => if rank s < rank x then s :: x :: l else if x = s then x :: l else x :: putS l s
theorem mem_put {s y : Sol} : ∀ {l : List Sol}, y ∈ putS l s ↔ y = s ∨ y ∈ l
 | [] => by simp [putS]
 | x :: l => by
  unfold putS
  split
  ·simp
  ·split
   ·rename_i h; subst h; simp
   ·rw [List.mem_cons, mem_put (l := l), List.mem_cons]
    constructor
    ·rintro (h | h | h)
     ·exact .inr (.inl h)
     ·exact .inl h
     ·exact .inr (.inr h)
    ·rintro (h | h | h)
     ·exact .inr (.inl h)
     ·exact .inl h
     ·exact .inr (.inr h)
theorem asc_put {s : Sol} : ∀ {l : List Sol}, Asc l → Asc (putS l s)
 | [], _ => by unfold putS Asc; exact List.pairwise_singleton _ _
 | x :: l, h => by
  obtain ⟨h1, h2⟩ := List.pairwise_cons.1 h
  unfold putS
  split
  ·rename_i hs
   refine List.pairwise_cons.2 ⟨fun y hy => ?_, h⟩
   rcases List.mem_cons.1 hy with rfl | hy
   ·exact hs
   ·have := h1 y hy; omega
  ·split
   ·exact h
   ·rename_i hs hx
    refine List.pairwise_cons.2 ⟨fun y hy => ?_, asc_put h2⟩
    rcases mem_put.1 hy with rfl | hy
    ·have : rank x ≠ rank y := fun e => hx (rank_inj e)
     omega
    ·exact h1 y hy
def sortD (l : List Sol) : List Sol := l.foldl putS []
theorem sortD_spec (l : List Sol) : Asc (sortD l) ∧ ∀ x, x ∈ sortD l ↔ x ∈ l := by
 have key : ∀ (l acc : List Sol), Asc acc → Asc (l.foldl putS acc) ∧ ∀ x, x ∈ l.foldl putS acc ↔ x ∈ acc ∨ x ∈ l := by
  intro l
  induction l with
  | nil => intro acc h; exact ⟨h, fun x => by simp⟩
  | cons y l ih =>
   intro acc h
   obtain ⟨h1, h2⟩ := ih (putS acc y) (asc_put h)
   refine ⟨h1, fun x => ?_⟩
   rw [List.foldl_cons, h2, mem_put, List.mem_cons]
   constructor
   ·rintro ((h | h) | h)
    ·exact .inr (.inl h)
    ·exact .inl h
    ·exact .inr (.inr h)
   ·rintro (h | h | h)
    ·exact .inl (.inr h)
    ·exact .inl (.inl h)
    ·exact .inr h
 obtain ⟨h1, h2⟩ := key l [] List.Pairwise.nil
 exact ⟨h1, fun x => by rw [show sortD l = l.foldl putS [] from rfl, h2]; simp⟩
theorem sortD_of {l m : List Sol} (h : Asc m) (hm : ∀ x, x ∈ m ↔ x ∈ l) : m = sortD l := asc_unique h (sortD_spec l).1 fun x => by rw [hm, (sortD_spec l).2]
/-! the images -/
def imgL (s : Sol) : List Sol := (List.range 24).map (imageS s)
def imagesS (s : Sol) : List Sol := sortD (imgL s)
theorem mem_images {s x : Sol} : x ∈ imagesS s ↔ ∃ t, t < 24 ∧ imageS s t = x := by
 unfold imagesS imgL
 rw [(sortD_spec _).2, List.mem_map]
 simp only [List.mem_range]
def canonS (s : Sol) : Sol := (imagesS s).headD 0
theorem images_ne (s : Sol) : ∃ l, imagesS s = canonS s :: l := by
 have h : imageS s 0 ∈ imagesS s := mem_images.2 ⟨0, by decide, rfl⟩
 unfold canonS
 cases hl : imagesS s with
 | nil => rw [hl] at h; cases h
 | cons x l => exact ⟨l, rfl⟩
theorem canon_mem (s : Sol) : canonS s ∈ imagesS s := by
 obtain ⟨l, h⟩ := images_ne s
 rw [h]; exact List.mem_cons_self
theorem canon_le {s x : Sol} (h : x ∈ imagesS s) : rank (canonS s) ≤ rank x := by
 obtain ⟨l, hl⟩ := images_ne s
 have ha := (sortD_spec (imgL s)).1
 have e : sortD (imgL s) = imagesS s := rfl
 rw [e, hl] at ha
 rw [hl] at h
 rcases List.mem_cons.1 h with e1 | h1
 ·rw [e1]
  exact Nat.le_refl _
 ·exact Nat.le_of_lt ((List.pairwise_cons.1 ha).1 x h1)
/-- whoever is an image and is not greater than any is the canon -/
theorem canon_of {s x : Sol} (h : ∃ t, t < 24 ∧ imageS s t = x) (hx : ∀ t, t < 24 → rank x ≤ rank (imageS s t)) : x = canonS s := by
 apply rank_inj
 obtain ⟨t, ht, e⟩ := mem_images.1 (canon_mem s)
 have h1 := canon_le (mem_images.2 h)
 have h2 := hx t ht
 rw [e] at h2
 omega
/-- an image has the same images -/
theorem images_image {s : Sol} {t : Nat} (ht : t < 24) : imagesS (imageS s t) = imagesS s := by
 refine asc_unique (sortD_spec _).1 (sortD_spec _).1 fun x => ?_
 show x ∈ imagesS _ ↔ x ∈ imagesS _
 rw [mem_images, mem_images]
 constructor
 ·rintro ⟨u, hu, rfl⟩
  exact ⟨mulT t u, mul_lt ht hu, (image_mul ht hu s).symm⟩
 ·rintro ⟨u, hu, rfl⟩
  refine ⟨mulT (invT t) u, mul_lt (inv_lt ht) hu, ?_⟩
  rw [image_mul ht (mul_lt (inv_lt ht) hu)]
  have e : ∀ c, turnC (mulT t (mulT (invT t) u)) c = turnC u c := fun c => by
   rw [← turn_mul ht (mul_lt (inv_lt ht) hu), ← turn_mul (inv_lt ht) hu, turn_inv ht]
  unfold imageS spunS
  rw [(imgS_congr fun c _ => e c).2]
theorem canon_image {s : Sol} {t : Nat} (ht : t < 24) : canonS (imageS s t) = canonS s := by unfold canonS; rw [images_image ht]
theorem corn_count (s : Sol) : countS (cornS s) = countS s := by
 by_cases hs : s = 0
 ·subst hs; rw [corn_zero]
 ·unfold cornS
  rw [if_neg hs]
  exact count_img (corn_stays hs) (mov_inj _)
theorem image_count {t : Nat} (ht : t < 24) (s : Sol) : countS (imageS s t) = countS s := by unfold imageS; rw [corn_count, spun_count ht]
theorem canon_count (s : Sol) : countS (canonS s) = countS s := by
 obtain ⟨t, ht, e⟩ := mem_images.1 (canon_mem s)
 rw [← e, image_count ht]
/-- congruent: one canon -/
theorem canon_congr {a b : Sol} : canonS a = canonS b ↔ ∃ t, t < 24 ∧ imageS b t = imageS a 0 := by
 constructor
 ·intro h
  obtain ⟨t, ht, e1⟩ := mem_images.1 (canon_mem a)
  obtain ⟨u, hu, e2⟩ := mem_images.1 (canon_mem b)
  have h1 : imageS a 0 ∈ imagesS b := by
   have : imagesS a = imagesS b := by rw [← images_image (s := a) ht, e1, h, ← e2, images_image hu]
   rw [← this]; exact mem_images.2 ⟨0, by decide, rfl⟩
  exact mem_images.1 h1
 ·rintro ⟨t, ht, e⟩
  rw [← canon_image (s := b) ht, e, canon_image (by decide)]
end Go.Solid
end
