import Derived.Test.YtkfimbonmnoglaaGreatDoorB27
import Derived.Test.YtkfimbonmnoglaaGreatDoorCards
import Derived.Test.YtkfimbonmnoglaaGreatDoorTie
import Derived.Deep.DeepHandedRow
import Derived.Lib.LaidTab
import Derived.LaidSub
import Derived.Carry
import Derived.ProofKit
import Derived.Deep.Cut
/-
  Given contracts of functions of the program, and laws for them, one behind the other.
-/
set_option linter.unusedVariables false
set_option linter.unusedSimpArgs false
set_option linter.unusedSectionVars false
section
namespace Go.Draw
set_option maxRecDepth 10000
theorem turn_zero (mr : Bool) : turnS mr 0 = 0 := by
 apply BitVec.eq_of_getLsbD_eq
 intro n hn
 rw [turn_bit _ _ _ hn]; simp
end Go.Draw
end
section
namespace Go.Solid
open Go.Draw
set_option maxRecDepth 100000
theorem imgS_comp {f g : Cl → Cl} {s : Sol} (hf : stays f s = true) (hg : stays g (imgS f s) = true) : stays (fun c => g (f c)) s = true ∧ imgS (fun c => g (f c)) s = imgS g (imgS f s) := by
 have hc : stays (fun c => g (f c)) s = true := by
  rw [stays_iff] at hg ⊢
  intro c hcs
  exact hg (f c) ((imgS_has hf (stays_iff.1 hf c hcs)).2 ⟨c, hcs, rfl⟩)
 refine ⟨hc, sol_has fun d hd => ?_⟩
 rw [Bool.eq_iff_iff, imgS_has hc hd, imgS_has hg hd]
 constructor
 ·rintro ⟨c, h1, rfl⟩
  exact ⟨f c, (imgS_has hf (stays_iff.1 hf c h1)).2 ⟨c, h1, rfl⟩, rfl⟩
 ·rintro ⟨e, h1, rfl⟩
  have he : inG e = true := by unfold hasS at h1; rw [Bool.and_eq_true] at h1; exact h1.1
  obtain ⟨c, h2, rfl⟩ := (imgS_has hf he).1 h1
  exact ⟨c, h2, rfl⟩
theorem imgS_id {f : Cl → Cl} {s : Sol} (h : ∀ c, hasS s c = true → f c = c) : stays f s = true ∧ imgS f s = s := by
 have hs : stays f s = true := stays_iff.2 fun c hc => by
  rw [h c hc]; unfold hasS at hc; rw [Bool.and_eq_true] at hc; exact hc.1
 refine ⟨hs, sol_has fun d hd => ?_⟩
 rw [Bool.eq_iff_iff, imgS_has hs hd]
 constructor
 ·rintro ⟨c, h1, rfl⟩
  rw [h c h1]; exact h1
 ·intro h1
  exact ⟨d, h1, h d h1⟩
theorem imgS_congr {f g : Cl → Cl} {s : Sol} (h : ∀ c, hasS s c = true → f c = g c) : stays f s = stays g s ∧ imgS f s = imgS g s := by
 constructor
 ·unfold stays
  rw [Bool.eq_iff_iff, List.all_eq_true, List.all_eq_true]
  exact ⟨fun H c hc => by rw [← h c (mem_cellsS.1 hc)]; exact H c hc, fun H c hc => by rw [h c (mem_cellsS.1 hc)]; exact H c hc⟩
 ·unfold imgS
  congr 1
  exact List.map_congr_left fun c hc => by rw [h c (mem_cellsS.1 hc)]
end Go.Solid
end
section
namespace Go.Solid
open Go.Draw
set_option maxRecDepth 100000
theorem turn_zero (c : Cl) : turnC 0 c = c := rfl
theorem turn_inv {t : Nat} (ht : t < 24) (c : Cl) : turnC (invT t) (turnC t c) = c := by
 have := inv_all
 simp only [List.all_eq_true, List.mem_range, Bool.and_eq_true, beq_iff_eq] at this
 rw [turn_mul ht (inv_lt ht), (this t ht).1.2]; rfl
theorem told_lin : ((List.range 24).all fun t => (List.range 24).all fun u => ((movT t (1, 0, 0) == movT u (1, 0, 0)) && (movT t (0, 1, 0) == movT u (0, 1, 0)) && (movT t (0, 0, 1) == movT u (0, 0, 1))) == (t == u)) = true := by decide +kernel
end Go.Solid
end
section
namespace Go.Solid
open Go.Draw
set_option maxRecDepth 100000
theorem mov_mov (d e c : Cl) : movC e (movC d c) = movC (addC d e) c := by
 have key : ∀ k, co (movC e (movC d c)) k = co (movC (addC d e) c) k := fun k => by rw [co_mov, co_mov, co_mov, co_add]; omega
 exact co_ext (key 0) (key 1) (key 2)
theorem mov_back (d c : Cl) : movC (negC d) (movC d c) = c := by
 have key : ∀ k, co (movC (negC d) (movC d c)) k = co c k := fun k => by rw [co_mov, co_mov, co_neg]; omega
 exact co_ext (key 0) (key 1) (key 2)
theorem turn_mov (t : Nat) (d c : Cl) : turnC t (movC d c) = movC (movT t d) (turnC t c) := turn_add t c d
theorem spun_mul {t u : Nat} (ht : t < 24) (hu : u < 24) (s : Sol) : spunS (spunS s t) u = spunS s (mulT t u) := by
 unfold spunS
 rw [← (imgS_comp (spun_stays s t) (spun_stays _ u)).2]
 exact (imgS_congr fun c _ => turn_mul ht hu c).2
theorem img_zero (f : Cl → Cl) : imgS f 0 = 0 := by unfold imgS; rw [cellsS_zero]; rfl
end Go.Solid
end
section
namespace Go.Solid
open Go.Draw
set_option maxRecDepth 100000
/-- first m, then n -/
theorem motion_comp {s : Sol} {m n : Mt} (hm : m.1 < 24) (hn : n.1 < 24) (h1 : stays (movC m.2) (spunS s m.1) = true) (h2 : stays (movC n.2) (spunS (imgS (movC m.2) (spunS s m.1)) n.1) = true) :
  stays (movC (addC (movT n.1 m.2) n.2)) (spunS s (mulT m.1 n.1)) = true ∧ imgS (movC (addC (movT n.1 m.2) n.2)) (spunS s (mulT m.1 n.1)) = imgS (movC n.2) (spunS (imgS (movC m.2) (spunS s m.1)) n.1) := by
 have e1 : spunS (imgS (movC m.2) (spunS s m.1)) n.1 = imgS (movC (movT n.1 m.2)) (spunS s (mulT m.1 n.1)) ∧ stays (movC (movT n.1 m.2)) (spunS s (mulT m.1 n.1)) = true := by
  rw [← spun_mul hm hn]
  have h3 : stays (movC (movT n.1 m.2)) (spunS (spunS s m.1) n.1) = true := stays_iff.2 fun e he => by
   obtain ⟨c, hc, rfl⟩ := (imgS_has (spun_stays _ n.1) (has_in he)).1 he
   rw [← turn_mov, turn_in]
   exact stays_iff.1 h1 c hc
  refine ⟨?_, h3⟩
  show imgS (turnC n.1) (imgS (movC m.2) (spunS s m.1)) = imgS _ (imgS (turnC n.1) (spunS s m.1))
  rw [← (imgS_comp h1 (spun_stays _ n.1)).2, ← (imgS_comp (spun_stays _ n.1) h3).2]
  exact (imgS_congr fun c _ => turn_mov n.1 m.2 c).2
 rw [e1.1] at h2 ⊢
 have h4 := imgS_comp e1.2 h2
 have h5 := imgS_congr (s := spunS s (mulT m.1 n.1)) (f := fun c => movC n.2 (movC (movT n.1 m.2) c)) (g := movC (addC (movT n.1 m.2) n.2)) fun c _ => mov_mov _ _ c
 rw [← h5.1, ← h5.2]
 exact h4
end Go.Solid
end
section
namespace Go.Solid
open Go.Draw
set_option maxRecDepth 100000
theorem turn_told {t u : Nat} (ht : t < 24) (hu : u < 24) (h : ∀ c, turnC t c = turnC u c) : t = u := by
 have := told_all
 simp only [List.all_eq_true, List.mem_range] at this
 have := this t ht u hu
 rw [h, h, h] at this
 simpa using this
theorem mul_inv_left {w t : Nat} (hw : w < 24) (ht : t < 24) : mulT t (mulT (invT t) w) = w :=
 turn_told (mul_lt ht (mul_lt (inv_lt ht) hw)) hw fun c => by
  rw [← turn_mul ht (mul_lt (inv_lt ht) hw), ← turn_mul (inv_lt ht) hw, turn_inv ht]
end Go.Solid
end
section
namespace Go.Solid
open Go.Draw
set_option maxRecDepth 100000
/-- what moves within the grid is short -/
theorem stays_short {s : Sol} {d : Cl} (hs : s ≠ 0) (h : stays (movC d) s = true) : shortB d = true := by
 obtain ⟨c, hc⟩ := has_some hs
 have h1 := co_in (has_in hc)
 have h2 := co_in (stays_iff.1 h c hc)
 refine shortB_iff.2 fun k => ?_
 have := h1 k; have := h2 k
 rw [co_mov] at this
 omega
theorem movedM_ok {s p : Sol} {d : Cl} : movedM s d = (p, 0) ↔ (s = 0 ∧ p = 0) ∨ (s ≠ 0 ∧ stays (movC d) s = true ∧ p = imgS (movC d) s) := by
 unfold movedM
 by_cases hs : s = 0
 ·rw [if_pos hs]
  simp only [Prod.mk.injEq, and_true]
  exact ⟨fun h => .inl ⟨hs, h.symm⟩, fun h => h.elim (fun h => h.2.symm) fun h => absurd hs h.1⟩
 ·rw [if_neg hs]
  constructor
  ·intro h
   right
   by_cases h1 : shortB d = true
   ·rw [if_pos h1] at h
    by_cases h2 : stays (movC d) s = true
    ·rw [if_pos h2] at h
     exact ⟨hs, h2, (congrArg Prod.fst h).symm⟩
    ·rw [if_neg h2] at h
     have := congrArg Prod.snd h
     simp at this
   ·rw [if_neg h1] at h
    have := congrArg Prod.snd h
    simp at this
  ·rintro (h | ⟨_, h2, rfl⟩)
   ·exact absurd h.1 hs
   ·rw [if_pos (stays_short hs h2), if_pos h2]
theorem placedM_ok {s p : Sol} {t : Int} {d : Cl} : placedM s t d = (p, 0) ↔ rightB t d = true ∧ movedM (spunS s t.toNat) d = (p, 0) := by
 unfold placedM
 by_cases h : rightB t d = true
 ·rw [if_pos h]; exact ⟨fun k => ⟨h, k⟩, fun k => k.2⟩
 ·rw [if_neg h]
  constructor
  ·intro k; have := congrArg Prod.snd k; simp at this
  ·intro k; exact absurd k.1 h
theorem spun_nil (t : Nat) : spunS 0 t = 0 := img_zero _
theorem spun_zero_iff {s : Sol} {t : Nat} : spunS s t = 0 ↔ s = 0 := ⟨fun h => Classical.byContradiction fun hs => spun_ne hs t h, fun h => by rw [h, spun_nil]⟩
theorem neg_short {d : Cl} (h : shortB d = true) : shortB (negC d) = true := by
 rw [shortB_iff] at h ⊢
 intro k
 have := h k
 rw [co_neg]; omega
/-- what is placed is taken back -/
theorem back_law {s p : Sol} {m : Mo} (h : placedM s m.1 m.2 = (p, 0)) : placedM p (backM m).1.1 (backM m).1.2 = (s, 0) := by
 obtain ⟨h1, h2⟩ := placedM_ok.1 h
 obtain ⟨ht, hd⟩ := rightB_iff.1 h1
 obtain ⟨t, d⟩ := m
 simp only at h h1 h2 ht hd
 have hT : t.toNat < 24 := by omega
 have hI := inv_lt hT
 have eB : (backM (t, d)).1 = (((invT t.toNat : Nat) : Int), negC (movT (invT t.toNat) d)) := by unfold backM; simp only; rw [if_pos h1]
 rw [eB]
 refine placedM_ok.2 ⟨rightB_iff.2 ⟨⟨by simp only; omega, by simp only; omega⟩, neg_short (movT_short _ hd)⟩, ?_⟩
 show movedM (spunS p (((invT t.toNat : Nat) : Int)).toNat) (negC (movT (invT t.toNat) d)) = (s, 0)
 rw [Int.toNat_natCast]
 rcases movedM_ok.1 h2 with ⟨h3, rfl⟩ | ⟨h3, h4, rfl⟩
 ·rw [spun_zero_iff.1 h3, spun_nil]
  exact movedM_ok.2 (.inl ⟨rfl, rfl⟩)
 ·have hs : s ≠ 0 := fun e => h3 (by rw [e, spun_nil])
  -- the turned moved solid is the solid, moved
  have key : ∀ c, movC (negC (movT (invT t.toNat) d)) (turnC (invT t.toNat) (movC d (turnC t.toNat c))) = c := fun c => by
   rw [turn_mov, mov_back, turn_inv hT]
  have c1 := imgS_comp (f := turnC t.toNat) (g := movC d) (spun_stays s _) h4
  have hst : stays (fun c => movC d (turnC t.toNat c)) s = true := c1.1
  have c2 := imgS_comp (f := fun c => movC d (turnC t.toNat c)) (g := turnC (invT t.toNat)) hst (by
   rw [c1.2]; exact spun_stays _ _)
  have id := imgS_id (s := s) (f := fun c => movC (negC (movT (invT t.toNat) d)) (turnC (invT t.toNat) (movC d (turnC t.toNat c)))) fun c _ => key c
  have e5 : imgS (fun c => turnC (invT t.toNat) (movC d (turnC t.toNat c))) s = spunS (imgS (movC d) (spunS s t.toNat)) (invT t.toNat) := by
   rw [c2.2, c1.2]; rfl
  refine movedM_ok.2 (.inr ⟨spun_ne (img_ne h4 h3) _, ?_, ?_⟩)
  ·rw [← e5, stays_iff]
   intro e he
   obtain ⟨c, hc, rfl⟩ := (imgS_has c2.1 (has_in he)).1 he
   rw [key]; exact has_in hc
  ·rw [← e5]
   have c3 := imgS_comp (f := fun c => turnC (invT t.toNat) (movC d (turnC t.toNat c))) (g := movC (negC (movT (invT t.toNat) d))) c2.1 (by
    rw [stays_iff]
    intro e he
    obtain ⟨c, hc, rfl⟩ := (imgS_has c2.1 (has_in he)).1 he
    rw [key]; exact has_in hc)
   rw [← c3.2, id.2]
/-- what two motions place, one behind the other -/
theorem then_law {s p q : Sol} {m n : Mo} (h : placedM s m.1 m.2 = (p, 0)) (k : placedM p n.1 n.2 = (q, 0)) (he : (thenM m n).2 = 0) : placedM s (thenM m n).1.1 (thenM m n).1.2 = (q, 0) := by
 obtain ⟨h1, h2⟩ := placedM_ok.1 h
 obtain ⟨k1, k2⟩ := placedM_ok.1 k
 obtain ⟨ht, hd⟩ := rightB_iff.1 h1
 obtain ⟨kt, kd⟩ := rightB_iff.1 k1
 have hT : m.1.toNat < 24 := by omega
 have kT : n.1.toNat < 24 := by omega
 unfold thenM at he ⊢
 rw [if_pos (by rw [h1, k1]; rfl)] at he ⊢
 by_cases hr : rightB ((mulT m.1.toNat n.1.toNat : Nat) : Int) (addC (movT n.1.toNat m.2) n.2) = true
 ·rw [if_pos hr]
  refine placedM_ok.2 ⟨hr, ?_⟩
  simp only [Int.toNat_natCast]
  rcases movedM_ok.1 h2 with ⟨h3, rfl⟩ | ⟨h3, h4, rfl⟩
  ·have hs := spun_zero_iff.1 h3
   rw [spun_nil] at k2
   rcases movedM_ok.1 k2 with ⟨_, rfl⟩ | ⟨h5, _⟩
   ·rw [hs, spun_nil]
    exact movedM_ok.2 (.inl ⟨rfl, rfl⟩)
   ·exact absurd rfl h5
  ·have hs : s ≠ 0 := fun e => h3 (by rw [e, spun_nil])
   rcases movedM_ok.1 k2 with ⟨h5, _⟩ | ⟨_, h6, rfl⟩
   ·exact absurd h5 (spun_ne (img_ne h4 h3) _)
   ·have := motion_comp (m := (m.1.toNat, m.2)) (n := (n.1.toNat, n.2)) hT kT h4 h6
    exact movedM_ok.2 (.inr ⟨spun_ne hs _, this.1, this.2.symm⟩)
 ·rw [if_neg hr] at he
  simp at he
theorem find_range {p : Nat → Bool} {k : Nat} (hk : k < 24) (h : p k = true) (hu : ∀ t, t < 24 → p t = true → t = k) : (List.range 24).find? p = some k := by
 cases hf : (List.range 24).find? p with
 | none =>
  have := List.find?_eq_none.1 hf k (List.mem_range.2 hk)
  exact absurd h this
 | some t =>
  have h1 := List.find?_some hf
  have h2 := List.mem_range.1 (List.mem_of_find?_eq_some hf)
  rw [hu t h2 h1]
def carC (m : Mo) (c : Cl) : Cl := movC m.2 (turnC m.1.toNat c)
/-- the reference's search, by four cells -/
def ofB (f0 f1 f2 f3 t0 t1 t2 t3 : Cl) (t : Nat) : Bool := movC (subC t0 (turnC t f0)) (turnC t f1) == t1 && movC (subC t0 (turnC t f0)) (turnC t f2) == t2 && movC (subC t0 (turnC t f0)) (turnC t f3) == t3
theorem add_sub' (b c : Cl) : addC b (subC c b) = c := by
 unfold addC subC
 exact Prod.ext (by simp only; omega) (Prod.ext (by simp only; omega) (by simp only; omega))
theorem movC_apart (t : Nat) (a b c : Cl) : movC (subC a (turnC t b)) (turnC t c) = addC a (movT t (subC c b)) := by
 have h := turn_add t b (subC c b)
 rw [add_sub'] at h
 rw [h]
 unfold movC addC subC
 exact Prod.ext (by simp only; omega) (Prod.ext (by simp only; omega) (by simp only; omega))
theorem addC_inj {a b c : Cl} (h : addC a b = addC a c) : b = c := by
 have h1 : a.1 + b.1 = a.1 + c.1 := congrArg Prod.fst h
 have h2 : a.2.1 + b.2.1 = a.2.1 + c.2.1 := congrArg (fun x : Cl => x.2.1) h
 have h3 : a.2.2 + b.2.2 = a.2.2 + c.2.2 := congrArg (fun x : Cl => x.2.2) h
 exact Prod.ext (by omega) (Prod.ext (by omega) (by omega))
/-- whatever carries the corners is told by its turn -/
theorem of_told {t : Nat} {k : Nat} (ht : t < 24) (hk : k < 24) {f0 f1 f2 f3 a : Cl} {g : Nat → Nat} (hg : ∀ u, u < 24 → g u < 24) (h1 : ∀ u, movT u (subC f1 f0) = movT (g u) (1, 0, 0)) (h2 : ∀ u, movT u (subC f2 f0) = movT (g u) (0, 1, 0)) (h3 : ∀ u, movT u (subC f3 f0) = movT (g u) (0, 0, 1)) :
  ofB f0 f1 f2 f3 a (addC a (movT k (1, 0, 0))) (addC a (movT k (0, 1, 0))) (addC a (movT k (0, 0, 1))) t = (g t == k) := by
 unfold ofB
 rw [movC_apart, movC_apart, movC_apart, h1, h2, h3]
 have hl := List.all_eq_true.1 (List.all_eq_true.1 told_lin (g t) (List.mem_range.2 (hg t ht))) k (List.mem_range.2 hk)
 rw [beq_iff_eq] at hl
 have e : ∀ x y : Cl, (addC a x == addC a y) = (x == y) := fun x y => by
  rw [Bool.eq_iff_iff, beq_iff_eq, beq_iff_eq]
  exact ⟨addC_inj, fun h => by rw [h]⟩
 rw [e, e, e, hl]
theorem movT_mul {t u : Nat} (ht : t < 24) (hu : u < 24) (d : Cl) : movT u (movT t d) = movT (mulT t u) d := by
 have h : ∀ v, movT v d = subC (turnC v d) (turnC v (0, 0, 0)) := fun v => (origin_eq v d).symm
 rw [h (mulT t u), ← turn_mul ht hu, ← turn_mul ht hu, h t]
 have h2 := turn_add u (turnC t (0, 0, 0)) (subC (turnC t d) (turnC t (0, 0, 0)))
 rw [add_sub'] at h2
 rw [h2, subC_addC]
theorem subC_zero (c : Cl) : subC c (0, 0, 0) = c := by unfold subC; simp
theorem then_ref {m n : Mo} (hm : rightB m.1 m.2 = true) (hn : rightB n.1 n.2 = true) :
  (List.range 24).find? (ofB (0, 0, 0) (1, 0, 0) (0, 1, 0) (0, 0, 1) (carC n (carC m (0, 0, 0))) (carC n (carC m (1, 0, 0))) (carC n (carC m (0, 1, 0))) (carC n (carC m (0, 0, 1)))) = some (mulT m.1.toNat n.1.toNat) ∧
  subC (carC n (carC m (0, 0, 0))) (turnC (mulT m.1.toNat n.1.toNat) (0, 0, 0)) = addC (movT n.1.toNat m.2) n.2 := by
 have hT : m.1.toNat < 24 := by have := (rightB_iff.1 hm).1; omega
 have kT : n.1.toNat < 24 := by have := (rightB_iff.1 hn).1; omega
 have hM := mul_lt hT kT
 have e : ∀ c, carC n (carC m c) = movC (addC (movT n.1.toNat m.2) n.2) (turnC (mulT m.1.toNat n.1.toNat) c) := fun c => by
  unfold carC
  rw [turn_mov, mov_mov, turn_mul hT kT]
 have e0 : ∀ c, carC n (carC m c) = addC (carC n (carC m (0, 0, 0))) (movT (mulT m.1.toNat n.1.toNat) c) := fun c => by
  rw [e, e, ← origin_eq _ c]
  unfold movC addC subC
  exact Prod.ext (by simp only; omega) (Prod.ext (by simp only; omega) (by simp only; omega))
 constructor
 ·rw [e0 (1, 0, 0), e0 (0, 1, 0), e0 (0, 0, 1)]
  have key : ∀ t, t < 24 → ofB (0, 0, 0) (1, 0, 0) (0, 1, 0) (0, 0, 1) (carC n (carC m (0, 0, 0))) (addC (carC n (carC m (0, 0, 0))) (movT (mulT m.1.toNat n.1.toNat) (1, 0, 0))) (addC (carC n (carC m (0, 0, 0))) (movT (mulT m.1.toNat n.1.toNat) (0, 1, 0))) (addC (carC n (carC m (0, 0, 0))) (movT (mulT m.1.toNat n.1.toNat) (0, 0, 1))) t = (t == mulT m.1.toNat n.1.toNat) := fun t ht =>
   of_told (g := fun u => u) ht hM (fun _ h => h) (fun u => by rw [subC_zero]) (fun u => by rw [subC_zero]) (fun u => by rw [subC_zero])
  exact find_range hM (by rw [key _ hM]; exact beq_self_eq_true _) fun t ht h => by rw [key t ht] at h; exact eq_of_beq h
 ·rw [e]
  unfold movC addC subC
  exact Prod.ext (by simp only; omega) (Prod.ext (by simp only; omega) (by simp only; omega))
theorem mul_inv_iff {t u : Nat} (ht : t < 24) (hu : u < 24) : mulT t u = 0 ↔ u = invT t := by
 constructor
 ·intro h
  have h2 : mulT (invT t) (mulT t u) = u := by
   have := mul_inv_left hu (inv_lt ht)
   have e : invT (invT t) = t := by
    have h3 := turn_told (t := invT (invT t)) (u := t) (inv_lt (inv_lt ht)) ht fun c => by
     have h4 := turn_inv (inv_lt ht) (turnC t c)
     rw [turn_inv ht] at h4
     exact h4
    exact h3
   rw [e] at this; exact this
  rw [h] at h2
  have h5 : mulT (invT t) 0 = invT t := turn_told (mul_lt (inv_lt ht) (by omega)) (inv_lt ht) fun c => by
   rw [← turn_mul (inv_lt ht) (by omega), turn_zero]
  rw [h5] at h2; exact h2.symm
 ·rintro rfl
  exact turn_told (mul_lt ht (inv_lt ht)) (by omega) fun c => by rw [← turn_mul ht (inv_lt ht), turn_inv ht, turn_zero]
theorem back_ref {m : Mo} (hm : rightB m.1 m.2 = true) :
  (List.range 24).find? (ofB (carC m (0, 0, 0)) (carC m (1, 0, 0)) (carC m (0, 1, 0)) (carC m (0, 0, 1)) (0, 0, 0) (1, 0, 0) (0, 1, 0) (0, 0, 1)) = some (invT m.1.toNat) ∧
  subC (0, 0, 0) (turnC (invT m.1.toNat) (carC m (0, 0, 0))) = negC (movT (invT m.1.toNat) m.2) := by
 have hT : m.1.toNat < 24 := by have := (rightB_iff.1 hm).1; omega
 have hI := inv_lt hT
 have e0 : ∀ c, subC (carC m c) (carC m (0, 0, 0)) = movT m.1.toNat c := fun c => by
  unfold carC
  rw [← origin_eq]
  unfold movC addC subC
  exact Prod.ext (by simp only; omega) (Prod.ext (by simp only; omega) (by simp only; omega))
 have z : ∀ c : Cl, addC (0, 0, 0) (movT 0 c) = c := fun c => by
  rw [← origin_eq, turn_zero, turn_zero]
  unfold addC subC; simp
 constructor
 ·have key : ∀ t, t < 24 → ofB (carC m (0, 0, 0)) (carC m (1, 0, 0)) (carC m (0, 1, 0)) (carC m (0, 0, 1)) (0, 0, 0) (1, 0, 0) (0, 1, 0) (0, 0, 1) t = (mulT m.1.toNat t == 0) := fun t ht => by
   have h1 : ofB (carC m (0, 0, 0)) (carC m (1, 0, 0)) (carC m (0, 1, 0)) (carC m (0, 0, 1)) (0, 0, 0) (addC (0, 0, 0) (movT 0 (1, 0, 0))) (addC (0, 0, 0) (movT 0 (0, 1, 0))) (addC (0, 0, 0) (movT 0 (0, 0, 1))) t = (mulT m.1.toNat t == 0) := by
    unfold ofB
    rw [movC_apart, movC_apart, movC_apart, e0, e0, e0, movT_mul hT ht, movT_mul hT ht, movT_mul hT ht]
    have hl := List.all_eq_true.1 (List.all_eq_true.1 told_lin (mulT m.1.toNat t) (List.mem_range.2 (mul_lt hT ht))) 0 (List.mem_range.2 (by omega))
    rw [beq_iff_eq] at hl
    have e : ∀ x y : Cl, (addC (0, 0, 0) x == addC (0, 0, 0) y) = (x == y) := fun x y => by
     rw [Bool.eq_iff_iff, beq_iff_eq, beq_iff_eq]
     exact ⟨addC_inj, fun h => by rw [h]⟩
    rw [e, e, e, hl]
   rw [z, z, z] at h1
   exact h1
  exact find_range hI (by rw [key _ hI, beq_iff_eq]; exact (mul_inv_iff hT hI).2 rfl) fun t ht h => by
   rw [key t ht, beq_iff_eq] at h; exact (mul_inv_iff hT ht).1 h
 ·unfold carC
  rw [turn_mov, turn_inv hT]
  unfold movC addC subC negC
  exact Prod.ext (by simp only; omega) (Prod.ext (by simp only; omega) (by simp only; omega))
end Go.Solid
end
section
namespace Go.Solid
open Go.Draw
set_option maxRecDepth 100000
def rcF (s : Sol) (z y x : Int) : List Cl := ((rngI x 7).map fun x => ((x, y, z) : Cl)).filter (hasS s)
def rcG (s : Sol) (z y : Int) : List Cl := (rngI y 7).flatMap fun y => rcF s z y 0
def rcH (s : Sol) (z : Int) : List Cl := (rngI z 7).flatMap fun z => rcG s z 0
def rcY (s : Sol) (z y : Int) : List Cl := rcG s z y ++ rcH s (z + 1)
def rcX (s : Sol) (z y x : Int) : List Cl := rcF s z y x ++ rcY s z (y + 1)
end Go.Solid
end
section
namespace Go.Proofs.YtkfimbonmnoglaaGreatDoor
open Go.ChangeShapes Go.WideShapes Go.ChangeAt Go.RowKit Go.Draw
set_option maxRecDepth 100000
theorem ownK : ownKnob Tryz.prog.godebug = none := by kernel_rfl
theorem laidO : laidOutB Tryz.prog = true := by kernel_rfl
theorem and_t {a b : Bool} (h : a = true) (k : b = true) : (a && b) = true := by rw [h, k]; rfl
theorem gMaps : mapsRowed Tryz.prog = true := by kernel_rfl
theorem gStops : (Tryz.prog.stops == []) = true := by kernel_rfl
theorem gKnobs : (Tryz.prog.stopKnobs == []) = true := by kernel_rfl
theorem gHeard : Tryz.prog.stopsHeard = true := by kernel_rfl
theorem gEnter : Tryz.prog.mayEnter = true := by kernel_rfl
theorem cMain : Tryz.pinned.checked.prog.mainIs = some (true, ("2d2b98d2e7a6d467bd98fd00f57c4e37e19420a44b0c74c4b8b93e866a403526" : String).toList) := by kernel_rfl
end Go.Proofs.YtkfimbonmnoglaaGreatDoor
end
section
namespace Go.Proofs.YtkfimbonmnoglaaGreatDoor
open Go.RowKit Go.Rel Go.Draw Go.Solid
set_option maxRecDepth 100000
attribute [local go_sem] Oper.semAt_some
/-- a list of solids in memory, opened -/
def SlO (W : World) (a : Option Addr) (l : List Sol) : Prop := l = [] ∨ ∃ b off, a = some ⟨b, off, none⟩ ∧ Cells W b off 8 (l.map solL)
theorem SlO.mono {W W' : World} {a : Option Addr} {l : List Sol} (h : SlO W a l) (hb : Below W.heap.size W W') : SlO W' a l := by
 rcases h with h | ⟨b, off, h1, h2⟩
 ·exact .inl h
 ·exact .inr ⟨b, off, h1, h2.mono hb h2.1⟩
theorem SlO.at {W : World} {a : Option Addr} {l : List Sol} (h : SlO W a l) {k : Nat} {x : Sol} (hx : l[k]? = some x) : ∃ b off, a = some ⟨b, off, none⟩ ∧ Cells W b off 8 (l.map solL) := by
 rcases h with rfl | h
 ·cases hx
 ·exact h
theorem SlS.opened {W : World} {v : Value} {l : List Sol} (h : SlS W v l) : ∃ a c, v = .slice a l.length c ∧ SlO W a l := by
 obtain ⟨a, c, hv, _, _, hc⟩ := h
 refine ⟨a, c, by rw [hv, List.length_map], ?_⟩
 rcases hc with hc | hc
 ·exact .inl (List.map_eq_nil_iff.1 hc)
 ·exact .inr hc
theorem Cells.row {W : World} {b off k : Nat} {xs : List (List Value)} (h : Cells W b off k xs) {g : Nat} (hne : b ≠ g) (cs : Array Value) : Cells (W.setRow g cs) b off k xs :=
 ⟨by rw [setRow_size]; exact h.1, fun i j u hu => (cell_row_other _ _ _ _ _ hne).trans (h.2 i j u hu)⟩
end Go.Proofs.YtkfimbonmnoglaaGreatDoor
end
section
namespace Go.Proofs.YtkfimbonmnoglaaGreatDoor
open Go.RowKit Go.Rel Go.Draw Go.Solid
set_option maxRecDepth 100000
def withS (s : Sol) (c : Cl) : Sol := s ||| Go.Solid.one (bitN c)
end Go.Proofs.YtkfimbonmnoglaaGreatDoor
end
section
namespace Go.Proofs.YtkfimbonmnoglaaGreatDoor
open Go.RowKit Go.Rel Go.Draw Go.Solid
set_option maxRecDepth 100000
theorem refShort_spec (n : Int) (w : World) : Calls Tryz.prog 132 #[.int .i64 n] w fun e w' => e = .returned (.bool (inB n (-7) 7)) ∧ w' = w := by
 obtain ⟨R, hR⟩ : ∃ R, R = inB n (-7) 7 := ⟨_, rfl⟩
 rw [← hR]
 have h : inB n (-7) 7 = (decide (-7 ≤ n) && decide (n ≤ 7)) := rfl
 rw [h] at hR
 clear h
 have HR := Lib.hid hR
 clear hR
 go_enter Tryz.func132, Tryz.ntmps132
 go_wp2_with fail
 all_goals (go_ret; exact ⟨ret_bool (by rw [HR.out]; first | (simp [*]; done) | (simp [*]; omega)), rfl⟩)
set_option maxHeartbeats 4000000 in
theorem refMotion_spec (t : Int) (d : Cl) (w : World) : Calls Tryz.prog 93 #[motV t d] w fun e w' => e = .returned (.bool (rightB t d)) ∧ Below w.heap.size w w' := by
 have H1 := Lib.hid fun W => refShort_spec d.1 W
 have H2 := Lib.hid fun W => refShort_spec d.2.1 W
 have H3 := Lib.hid fun W => refShort_spec d.2.2 W
 obtain ⟨R, hR⟩ : ∃ R, R = rightB t d := ⟨_, rfl⟩
 rw [← hR]
 have h : rightB t d = ((decide (0 ≤ t) && decide (t ≤ 23)) && (inB d.1 (-7) 7 && inB d.2.1 (-7) 7 && inB d.2.2 (-7) 7)) := rfl
 rw [h] at hR
 clear h
 obtain ⟨a, ha⟩ : ∃ R, R = inB d.1 (-7) 7 := ⟨_, rfl⟩
 obtain ⟨b, hb⟩ : ∃ R, R = inB d.2.1 (-7) 7 := ⟨_, rfl⟩
 obtain ⟨c, hc⟩ : ∃ R, R = inB d.2.2 (-7) 7 := ⟨_, rfl⟩
 rw [← ha] at H1 hR; rw [← hb] at H2 hR; rw [← hc] at H3 hR
 obtain ⟨x, y, z⟩ := d
 clear ha hb hc
 have hb0 : Below w.heap.size w (w.alloc (.cells #[.int .i64 t, .int .i64 x, .int .i64 y, .int .i64 z] 23)) := (by repeat (first | with_reducible exact bel_refl _ | with_reducible assumption | with_reducible refine bel_drewN ?_ _ | with_reducible refine bel_drew ?_ | with_reducible refine bel_alloc ?_ _ | with_reducible refine bel_row ?_ ?_ _ | with_reducible refine bel_set ?_ ?_ _ | refine bel_trans ?_ (by with_reducible assumption) | (simp; done) | (simp; omega)))
 have HB := Lib.hid hb0
 clear hb0
 by_cases h0 : 0 ≤ t
 ·by_cases h23 : t ≤ 23
  ·have HR : Hid (R = (a && b && c)) := Lib.hid (by rw [hR]; simp [h0, h23])
   clear hR
   cases a
   ·go_enter Tryz.func93, Tryz.ntmps93
    go_wp2_with fail
    refine (H1.out _).mono ?_
    rintro e w2 ⟨rfl, rfl⟩
    go_wp2_with fail
    go_ret
    exact ⟨ret_bool (by rw [HR.out]; rfl), HB.out⟩
   ·cases b
    ·go_enter Tryz.func93, Tryz.ntmps93
     go_wp2_with fail
     refine (H1.out _).mono ?_
     rintro e w2 ⟨rfl, rfl⟩
     go_wp2_with fail
     refine (H2.out _).mono ?_
     rintro e w2 ⟨rfl, rfl⟩
     go_wp2_with fail
     go_ret
     exact ⟨ret_bool (by rw [HR.out]; rfl), HB.out⟩
    ·go_enter Tryz.func93, Tryz.ntmps93
     go_wp2_with fail
     refine (H1.out _).mono ?_
     rintro e w2 ⟨rfl, rfl⟩
     go_wp2_with fail
     refine (H2.out _).mono ?_
     rintro e w2 ⟨rfl, rfl⟩
     go_wp2_with fail
     refine (H3.out _).mono ?_
     rintro e w2 ⟨rfl, rfl⟩
     go_wp2_with fail
     go_ret
     exact ⟨ret_bool (by rw [HR.out]; simp), HB.out⟩
  ·have HR : Hid (R = false) := Lib.hid (by rw [hR]; simp [h23])
   clear hR
   go_enter Tryz.func93, Tryz.ntmps93
   go_wp2_with fail
   go_ret
   exact ⟨ret_bool (by rw [HR.out]), HB.out⟩
 ·have HR : Hid (R = false) := Lib.hid (by rw [hR]; simp [h0])
  clear hR
  go_enter Tryz.func93, Tryz.ntmps93
  go_wp2_with fail
  go_ret
  exact ⟨ret_bool (by rw [HR.out]), HB.out⟩
theorem w64 {n : Int} (h : -1000000 ≤ n ∧ n ≤ 1000000) : IntKind.i64.wrap n = n := IntWalk.i64_in _ ⟨by omega, by omega⟩
theorem refMoved_spec (c d : Cl) (h0 : -1000000 ≤ c.1 + d.1 ∧ c.1 + d.1 ≤ 1000000) (h1 : -1000000 ≤ c.2.1 + d.2.1 ∧ c.2.1 + d.2.1 ≤ 1000000) (h2 : -1000000 ≤ c.2.2 + d.2.2 ∧ c.2.2 + d.2.2 ≤ 1000000) (w : World) :
  Calls Tryz.prog 113 #[clV c, .int .i64 d.1, .int .i64 d.2.1, .int .i64 d.2.2] w fun e w' => e = .returned (clV (addC c d)) ∧ Below w.heap.size w w' := by
 have x0 := w64 h0; have x1 := w64 h1; have x2 := w64 h2
 clear h0 h1 h2
 have hd : addC c d = (c.1 + d.1, c.2.1 + d.2.1, c.2.2 + d.2.2) := rfl
 rw [hd]
 clear hd
 obtain ⟨x, y, z⟩ := c
 obtain ⟨a, b, e⟩ := d
 simp only at x0 x1 x2
 go_enter Tryz.func113, Tryz.ntmps113
 go_upto_region 1 with fail
 obtain ⟨W0, hW0⟩ : ∃ W0, W0 = (w.alloc (.cells #[.int .i64 x, .int .i64 y, .int .i64 z] 60)).alloc (.cells #[.int .i64 0, .int .i64 0, .int .i64 0] 60) := ⟨_, rfl⟩
 have b1 : Blk W0 w.heap.size #[.int .i64 x, .int .i64 y, .int .i64 z] 60 := by rw [hW0]; exact (by repeat (first | with_reducible assumption | (refine Blk.at _ _ ?_; (simp; done)) | with_reducible refine Blk.alloc ?_ _ | with_reducible refine Blk.drew ?_ | with_reducible refine Blk.rowS ?_ _ | with_reducible refine Blk.rowO ?_ _ (by simp)))
 have B1 : Blk W0 (w.heap.size + 1) #[.int .i64 0, .int .i64 0, .int .i64 0] 60 := by rw [hW0]; exact Blk.at _ _ (by simp)
 have hbw : Below w.heap.size w W0 := by rw [hW0]; exact (by repeat (first | with_reducible exact bel_refl _ | with_reducible assumption | with_reducible refine bel_drewN ?_ _ | with_reducible refine bel_drew ?_ | with_reducible refine bel_alloc ?_ _ | with_reducible refine bel_row ?_ ?_ _ | with_reducible refine bel_set ?_ ?_ _ | refine bel_trans ?_ (by with_reducible assumption) | (simp; done) | (simp; omega)))
 rw [← hW0]
 clear hW0
 have c0 := (b1.rowO (g := w.heap.size + 1) #[.int .i64 0, .int .i64 0, .int .i64 0] (by omega)).cell
 have l0 := b1.lt
 have r1 := B1.row; have l1 := B1.lt
 have cF := (B1.rowS #[.int .i64 (x + a), .int .i64 (y + b), .int .i64 (z + e)]).cell
 have hb5 := bel_row hbw (g := w.heap.size + 1) (by omega) #[.int .i64 (x + a), .int .i64 (y + b), .int .i64 (z + e)]
 have c00 := b1.cell
 rw [← B1.rw]
 clear B1 b1 hbw
 go_wp2_with fail
 exact bodyPost_ret (v := clV (x + a, y + b, z + e)) (by simp [results, Tryz.results113, go_sem, cF]) rfl ⟨rfl, hb5⟩
theorem refRoll0 (x y z : Int) (hx : -7 ≤ x ∧ x ≤ 14) (hy : -7 ≤ y ∧ y ≤ 14) (hz : -7 ≤ z ∧ z ≤ 14) (w : World) : Calls Tryz.prog 157 #[clV (x, y, z), .int .i64 0] w fun e w' => e = .returned (clV (x, y, z)) ∧ Below w.heap.size w w' := by
 have x0 : IntKind.i64.wrap (7 - x) = 7 - x := w64 ⟨by omega, by omega⟩
 have x1 : IntKind.i64.wrap (7 - y) = 7 - y := w64 ⟨by omega, by omega⟩
 have x2 : IntKind.i64.wrap (7 - z) = 7 - z := w64 ⟨by omega, by omega⟩
 clear hx hy hz
 go_enter Tryz.func157, Tryz.ntmps157
 go_upto_region 1 with fail
 obtain ⟨W0, hW0⟩ : ∃ W0, W0 = (w.alloc (.cells #[.int .i64 x, .int .i64 y, .int .i64 z] 60)).alloc (.cells #[.int .i64 0, .int .i64 0, .int .i64 0] 60) := ⟨_, rfl⟩
 have b1 : Blk W0 w.heap.size #[.int .i64 x, .int .i64 y, .int .i64 z] 60 := by rw [hW0]; exact (by repeat (first | with_reducible assumption | (refine Blk.at _ _ ?_; (simp; done)) | with_reducible refine Blk.alloc ?_ _ | with_reducible refine Blk.drew ?_ | with_reducible refine Blk.rowS ?_ _ | with_reducible refine Blk.rowO ?_ _ (by simp)))
 have B1 : Blk W0 (w.heap.size + 1) #[.int .i64 0, .int .i64 0, .int .i64 0] 60 := by rw [hW0]; exact Blk.at _ _ (by simp)
 have hbw : Below w.heap.size w W0 := by rw [hW0]; exact (by repeat (first | with_reducible exact bel_refl _ | with_reducible assumption | with_reducible refine bel_drewN ?_ _ | with_reducible refine bel_drew ?_ | with_reducible refine bel_alloc ?_ _ | with_reducible refine bel_row ?_ ?_ _ | with_reducible refine bel_set ?_ ?_ _ | refine bel_trans ?_ (by with_reducible assumption) | (simp; done) | (simp; omega)))
 rw [← hW0]
 clear hW0
 have c0 := (b1.rowO (g := w.heap.size + 1) #[.int .i64 0, .int .i64 0, .int .i64 0] (by omega)).cell
 have l0 := b1.lt
 have r1 := B1.row; have l1 := B1.lt
 have cF := (B1.rowS #[.int .i64 (x), .int .i64 (y), .int .i64 (z)]).cell
 have hb5 := bel_row hbw (g := w.heap.size + 1) (by omega) #[.int .i64 (x), .int .i64 (y), .int .i64 (z)]
 have c00 := b1.cell
 rw [← B1.rw]
 clear B1 b1 hbw
 go_wp2_with fail
 exact bodyPost_ret (v := clV (x, y, z)) (by simp [results, Tryz.results157, go_sem, cF]) rfl ⟨rfl, hb5⟩
theorem refRoll1 (x y z : Int) (hx : -7 ≤ x ∧ x ≤ 14) (hy : -7 ≤ y ∧ y ≤ 14) (hz : -7 ≤ z ∧ z ≤ 14) (w : World) : Calls Tryz.prog 157 #[clV (x, y, z), .int .i64 1] w fun e w' => e = .returned (clV (x, 7 - z, y)) ∧ Below w.heap.size w w' := by
 have x0 : IntKind.i64.wrap (7 - x) = 7 - x := w64 ⟨by omega, by omega⟩
 have x1 : IntKind.i64.wrap (7 - y) = 7 - y := w64 ⟨by omega, by omega⟩
 have x2 : IntKind.i64.wrap (7 - z) = 7 - z := w64 ⟨by omega, by omega⟩
 clear hx hy hz
 go_enter Tryz.func157, Tryz.ntmps157
 go_upto_region 1 with fail
 obtain ⟨W0, hW0⟩ : ∃ W0, W0 = (w.alloc (.cells #[.int .i64 x, .int .i64 y, .int .i64 z] 60)).alloc (.cells #[.int .i64 0, .int .i64 0, .int .i64 0] 60) := ⟨_, rfl⟩
 have b1 : Blk W0 w.heap.size #[.int .i64 x, .int .i64 y, .int .i64 z] 60 := by rw [hW0]; exact (by repeat (first | with_reducible assumption | (refine Blk.at _ _ ?_; (simp; done)) | with_reducible refine Blk.alloc ?_ _ | with_reducible refine Blk.drew ?_ | with_reducible refine Blk.rowS ?_ _ | with_reducible refine Blk.rowO ?_ _ (by simp)))
 have B1 : Blk W0 (w.heap.size + 1) #[.int .i64 0, .int .i64 0, .int .i64 0] 60 := by rw [hW0]; exact Blk.at _ _ (by simp)
 have hbw : Below w.heap.size w W0 := by rw [hW0]; exact (by repeat (first | with_reducible exact bel_refl _ | with_reducible assumption | with_reducible refine bel_drewN ?_ _ | with_reducible refine bel_drew ?_ | with_reducible refine bel_alloc ?_ _ | with_reducible refine bel_row ?_ ?_ _ | with_reducible refine bel_set ?_ ?_ _ | refine bel_trans ?_ (by with_reducible assumption) | (simp; done) | (simp; omega)))
 rw [← hW0]
 clear hW0
 have c0 := (b1.rowO (g := w.heap.size + 1) #[.int .i64 0, .int .i64 0, .int .i64 0] (by omega)).cell
 have l0 := b1.lt
 have r1 := B1.row; have l1 := B1.lt
 have cF := (B1.rowS #[.int .i64 (x), .int .i64 (7 - z), .int .i64 (y)]).cell
 have hb5 := bel_row hbw (g := w.heap.size + 1) (by omega) #[.int .i64 (x), .int .i64 (7 - z), .int .i64 (y)]
 have c00 := b1.cell
 rw [← B1.rw]
 clear B1 b1 hbw
 go_wp2_with fail
 exact bodyPost_ret (v := clV (x, 7 - z, y)) (by simp [results, Tryz.results157, go_sem, cF]) rfl ⟨rfl, hb5⟩
theorem refRoll2 (x y z : Int) (hx : -7 ≤ x ∧ x ≤ 14) (hy : -7 ≤ y ∧ y ≤ 14) (hz : -7 ≤ z ∧ z ≤ 14) (w : World) : Calls Tryz.prog 157 #[clV (x, y, z), .int .i64 2] w fun e w' => e = .returned (clV (x, 7 - y, 7 - z)) ∧ Below w.heap.size w w' := by
 have x0 : IntKind.i64.wrap (7 - x) = 7 - x := w64 ⟨by omega, by omega⟩
 have x1 : IntKind.i64.wrap (7 - y) = 7 - y := w64 ⟨by omega, by omega⟩
 have x2 : IntKind.i64.wrap (7 - z) = 7 - z := w64 ⟨by omega, by omega⟩
 clear hx hy hz
 go_enter Tryz.func157, Tryz.ntmps157
 go_upto_region 1 with fail
 obtain ⟨W0, hW0⟩ : ∃ W0, W0 = (w.alloc (.cells #[.int .i64 x, .int .i64 y, .int .i64 z] 60)).alloc (.cells #[.int .i64 0, .int .i64 0, .int .i64 0] 60) := ⟨_, rfl⟩
 have b1 : Blk W0 w.heap.size #[.int .i64 x, .int .i64 y, .int .i64 z] 60 := by rw [hW0]; exact (by repeat (first | with_reducible assumption | (refine Blk.at _ _ ?_; (simp; done)) | with_reducible refine Blk.alloc ?_ _ | with_reducible refine Blk.drew ?_ | with_reducible refine Blk.rowS ?_ _ | with_reducible refine Blk.rowO ?_ _ (by simp)))
 have B1 : Blk W0 (w.heap.size + 1) #[.int .i64 0, .int .i64 0, .int .i64 0] 60 := by rw [hW0]; exact Blk.at _ _ (by simp)
 have hbw : Below w.heap.size w W0 := by rw [hW0]; exact (by repeat (first | with_reducible exact bel_refl _ | with_reducible assumption | with_reducible refine bel_drewN ?_ _ | with_reducible refine bel_drew ?_ | with_reducible refine bel_alloc ?_ _ | with_reducible refine bel_row ?_ ?_ _ | with_reducible refine bel_set ?_ ?_ _ | refine bel_trans ?_ (by with_reducible assumption) | (simp; done) | (simp; omega)))
 rw [← hW0]
 clear hW0
 have c0 := (b1.rowO (g := w.heap.size + 1) #[.int .i64 0, .int .i64 0, .int .i64 0] (by omega)).cell
 have l0 := b1.lt
 have r1 := B1.row; have l1 := B1.lt
 have cF := (B1.rowS #[.int .i64 (x), .int .i64 (7 - y), .int .i64 (7 - z)]).cell
 have hb5 := bel_row hbw (g := w.heap.size + 1) (by omega) #[.int .i64 (x), .int .i64 (7 - y), .int .i64 (7 - z)]
 have c00 := b1.cell
 rw [← B1.rw]
 clear B1 b1 hbw
 go_wp2_with fail
 exact bodyPost_ret (v := clV (x, 7 - y, 7 - z)) (by simp [results, Tryz.results157, go_sem, cF]) rfl ⟨rfl, hb5⟩
theorem refRoll3 (x y z : Int) (hx : -7 ≤ x ∧ x ≤ 14) (hy : -7 ≤ y ∧ y ≤ 14) (hz : -7 ≤ z ∧ z ≤ 14) (w : World) : Calls Tryz.prog 157 #[clV (x, y, z), .int .i64 3] w fun e w' => e = .returned (clV (x, z, 7 - y)) ∧ Below w.heap.size w w' := by
 have x0 : IntKind.i64.wrap (7 - x) = 7 - x := w64 ⟨by omega, by omega⟩
 have x1 : IntKind.i64.wrap (7 - y) = 7 - y := w64 ⟨by omega, by omega⟩
 have x2 : IntKind.i64.wrap (7 - z) = 7 - z := w64 ⟨by omega, by omega⟩
 clear hx hy hz
 go_enter Tryz.func157, Tryz.ntmps157
 go_upto_region 1 with fail
 obtain ⟨W0, hW0⟩ : ∃ W0, W0 = (w.alloc (.cells #[.int .i64 x, .int .i64 y, .int .i64 z] 60)).alloc (.cells #[.int .i64 0, .int .i64 0, .int .i64 0] 60) := ⟨_, rfl⟩
 have b1 : Blk W0 w.heap.size #[.int .i64 x, .int .i64 y, .int .i64 z] 60 := by rw [hW0]; exact (by repeat (first | with_reducible assumption | (refine Blk.at _ _ ?_; (simp; done)) | with_reducible refine Blk.alloc ?_ _ | with_reducible refine Blk.drew ?_ | with_reducible refine Blk.rowS ?_ _ | with_reducible refine Blk.rowO ?_ _ (by simp)))
 have B1 : Blk W0 (w.heap.size + 1) #[.int .i64 0, .int .i64 0, .int .i64 0] 60 := by rw [hW0]; exact Blk.at _ _ (by simp)
 have hbw : Below w.heap.size w W0 := by rw [hW0]; exact (by repeat (first | with_reducible exact bel_refl _ | with_reducible assumption | with_reducible refine bel_drewN ?_ _ | with_reducible refine bel_drew ?_ | with_reducible refine bel_alloc ?_ _ | with_reducible refine bel_row ?_ ?_ _ | with_reducible refine bel_set ?_ ?_ _ | refine bel_trans ?_ (by with_reducible assumption) | (simp; done) | (simp; omega)))
 rw [← hW0]
 clear hW0
 have c0 := (b1.rowO (g := w.heap.size + 1) #[.int .i64 0, .int .i64 0, .int .i64 0] (by omega)).cell
 have l0 := b1.lt
 have r1 := B1.row; have l1 := B1.lt
 have cF := (B1.rowS #[.int .i64 (x), .int .i64 (z), .int .i64 (7 - y)]).cell
 have hb5 := bel_row hbw (g := w.heap.size + 1) (by omega) #[.int .i64 (x), .int .i64 (z), .int .i64 (7 - y)]
 have c00 := b1.cell
 rw [← B1.rw]
 clear B1 b1 hbw
 go_wp2_with fail
 exact bodyPost_ret (v := clV (x, z, 7 - y)) (by simp [results, Tryz.results157, go_sem, cF]) rfl ⟨rfl, hb5⟩
theorem refRoll4 (x y z : Int) (hx : -7 ≤ x ∧ x ≤ 14) (hy : -7 ≤ y ∧ y ≤ 14) (hz : -7 ≤ z ∧ z ≤ 14) (w : World) : Calls Tryz.prog 157 #[clV (x, y, z), .int .i64 4] w fun e w' => e = .returned (clV (z, y, 7 - x)) ∧ Below w.heap.size w w' := by
 have x0 : IntKind.i64.wrap (7 - x) = 7 - x := w64 ⟨by omega, by omega⟩
 have x1 : IntKind.i64.wrap (7 - y) = 7 - y := w64 ⟨by omega, by omega⟩
 have x2 : IntKind.i64.wrap (7 - z) = 7 - z := w64 ⟨by omega, by omega⟩
 clear hx hy hz
 go_enter Tryz.func157, Tryz.ntmps157
 go_upto_region 1 with fail
 obtain ⟨W0, hW0⟩ : ∃ W0, W0 = (w.alloc (.cells #[.int .i64 x, .int .i64 y, .int .i64 z] 60)).alloc (.cells #[.int .i64 0, .int .i64 0, .int .i64 0] 60) := ⟨_, rfl⟩
 have b1 : Blk W0 w.heap.size #[.int .i64 x, .int .i64 y, .int .i64 z] 60 := by rw [hW0]; exact (by repeat (first | with_reducible assumption | (refine Blk.at _ _ ?_; (simp; done)) | with_reducible refine Blk.alloc ?_ _ | with_reducible refine Blk.drew ?_ | with_reducible refine Blk.rowS ?_ _ | with_reducible refine Blk.rowO ?_ _ (by simp)))
 have B1 : Blk W0 (w.heap.size + 1) #[.int .i64 0, .int .i64 0, .int .i64 0] 60 := by rw [hW0]; exact Blk.at _ _ (by simp)
 have hbw : Below w.heap.size w W0 := by rw [hW0]; exact (by repeat (first | with_reducible exact bel_refl _ | with_reducible assumption | with_reducible refine bel_drewN ?_ _ | with_reducible refine bel_drew ?_ | with_reducible refine bel_alloc ?_ _ | with_reducible refine bel_row ?_ ?_ _ | with_reducible refine bel_set ?_ ?_ _ | refine bel_trans ?_ (by with_reducible assumption) | (simp; done) | (simp; omega)))
 rw [← hW0]
 clear hW0
 have c0 := (b1.rowO (g := w.heap.size + 1) #[.int .i64 0, .int .i64 0, .int .i64 0] (by omega)).cell
 have l0 := b1.lt
 have r1 := B1.row; have l1 := B1.lt
 have cF := (B1.rowS #[.int .i64 (z), .int .i64 (y), .int .i64 (7 - x)]).cell
 have hb5 := bel_row hbw (g := w.heap.size + 1) (by omega) #[.int .i64 (z), .int .i64 (y), .int .i64 (7 - x)]
 have c00 := b1.cell
 rw [← B1.rw]
 clear B1 b1 hbw
 go_wp2_with fail
 exact bodyPost_ret (v := clV (z, y, 7 - x)) (by simp [results, Tryz.results157, go_sem, cF]) rfl ⟨rfl, hb5⟩
theorem refRoll5 (x y z : Int) (hx : -7 ≤ x ∧ x ≤ 14) (hy : -7 ≤ y ∧ y ≤ 14) (hz : -7 ≤ z ∧ z ≤ 14) (w : World) : Calls Tryz.prog 157 #[clV (x, y, z), .int .i64 5] w fun e w' => e = .returned (clV (7 - z, y, x)) ∧ Below w.heap.size w w' := by
 have x0 : IntKind.i64.wrap (7 - x) = 7 - x := w64 ⟨by omega, by omega⟩
 have x1 : IntKind.i64.wrap (7 - y) = 7 - y := w64 ⟨by omega, by omega⟩
 have x2 : IntKind.i64.wrap (7 - z) = 7 - z := w64 ⟨by omega, by omega⟩
 clear hx hy hz
 go_enter Tryz.func157, Tryz.ntmps157
 go_upto_region 1 with fail
 obtain ⟨W0, hW0⟩ : ∃ W0, W0 = (w.alloc (.cells #[.int .i64 x, .int .i64 y, .int .i64 z] 60)).alloc (.cells #[.int .i64 0, .int .i64 0, .int .i64 0] 60) := ⟨_, rfl⟩
 have b1 : Blk W0 w.heap.size #[.int .i64 x, .int .i64 y, .int .i64 z] 60 := by rw [hW0]; exact (by repeat (first | with_reducible assumption | (refine Blk.at _ _ ?_; (simp; done)) | with_reducible refine Blk.alloc ?_ _ | with_reducible refine Blk.drew ?_ | with_reducible refine Blk.rowS ?_ _ | with_reducible refine Blk.rowO ?_ _ (by simp)))
 have B1 : Blk W0 (w.heap.size + 1) #[.int .i64 0, .int .i64 0, .int .i64 0] 60 := by rw [hW0]; exact Blk.at _ _ (by simp)
 have hbw : Below w.heap.size w W0 := by rw [hW0]; exact (by repeat (first | with_reducible exact bel_refl _ | with_reducible assumption | with_reducible refine bel_drewN ?_ _ | with_reducible refine bel_drew ?_ | with_reducible refine bel_alloc ?_ _ | with_reducible refine bel_row ?_ ?_ _ | with_reducible refine bel_set ?_ ?_ _ | refine bel_trans ?_ (by with_reducible assumption) | (simp; done) | (simp; omega)))
 rw [← hW0]
 clear hW0
 have c0 := (b1.rowO (g := w.heap.size + 1) #[.int .i64 0, .int .i64 0, .int .i64 0] (by omega)).cell
 have l0 := b1.lt
 have r1 := B1.row; have l1 := B1.lt
 have cF := (B1.rowS #[.int .i64 (7 - z), .int .i64 (y), .int .i64 (x)]).cell
 have hb5 := bel_row hbw (g := w.heap.size + 1) (by omega) #[.int .i64 (7 - z), .int .i64 (y), .int .i64 (x)]
 have c00 := b1.cell
 rw [← B1.rw]
 clear B1 b1 hbw
 go_wp2_with fail
 exact bodyPost_ret (v := clV (7 - z, y, x)) (by simp [results, Tryz.results157, go_sem, cF]) rfl ⟨rfl, hb5⟩
end Go.Proofs.YtkfimbonmnoglaaGreatDoor
end
