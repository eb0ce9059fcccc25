import Derived.Test.YtkfimbonmnoglaaGreatDoorG26
import Derived.Deep.Cut
/-
  Given contracts of functions of the program, and laws for them, one behind the other.
-/
set_option linter.unusedVariables false
set_option linter.unusedSimpArgs false
set_option linter.unusedSectionVars false
section
namespace Go.Solid
open Go.Draw
set_option maxRecDepth 100000
/-! SolidOrder: the order that Fits makes -/
def fitS (a b : Sol) : Bool := decide (b = 0) || (fitsL a b).head?.isSome
theorem fitS_iff {a b : Sol} : fitS a b = true ↔ b = 0 ∨ ∃ m, FitsM a b m := by
 unfold fitS
 by_cases hb : b = 0
 ·simp [hb]
 ·rw [Bool.or_eq_true, fits_head hb, decide_eq_true_eq]
theorem ord_refl (a : Sol) : fitS a a = true := fitS_iff.2 (.inr ⟨_, fits_refl a⟩)
theorem count_none : countS 0 = 0 := count_zero.2 rfl
theorem ord_count {a b : Sol} (h : fitS a b = true) : countS b ≤ countS a := by
 rcases fitS_iff.1 h with rfl | ⟨m, hm⟩
 ·rw [count_none]; exact Nat.zero_le _
 ·exact fits_count hm
theorem ord_trans {a b c : Sol} (h : fitS a b = true) (k : fitS b c = true) : fitS a c = true := by
 rcases fitS_iff.1 k with rfl | ⟨m, hm⟩
 ·exact fitS_iff.2 (.inl rfl)
 ·rcases fitS_iff.1 h with rfl | ⟨n, hn⟩
  ·have := fits_count hm
   rw [count_none] at this
   exact fitS_iff.2 (.inl (count_zero.1 (by omega)))
  ·exact fitS_iff.2 (.inr ⟨_, fits_trans hm hn⟩)
theorem ord_less {a b : Sol} (d : Sol) (h : fitS a b = true) : fitS a (b &&& ~~~d) = true := by
 have hs : subS (b &&& ~~~d) b = true := cut_sub b d
 rcases fitS_iff.1 h with rfl | ⟨m, hm⟩
 ·refine fitS_iff.2 (.inl ?_)
  have := count_le hs
  rw [count_none] at this
  exact count_zero.1 (by omega)
 ·exact fitS_iff.2 (.inr ⟨m, fits_less hm hs⟩)
theorem ord_join {a b : Sol} (d : Sol) (h : fitS a b = true) : fitS (a ||| d) b = true := by
 rcases fitS_iff.1 h with rfl | ⟨m, hm⟩
 ·exact fitS_iff.2 (.inl rfl)
 ·exact fitS_iff.2 (.inr ⟨m, fits_wide hm (subS_iff.2 fun c hc => or_has.2 (.inl hc))⟩)
end Go.Solid
end
section
namespace Go.Solid
open Go.Draw
set_option maxRecDepth 100000
/-! the laws without the reference, as they are asked -/
def sameB (a b : Sol) : Bool := countS a == countS b && canonS a == canonS b
theorem canon_zero {a : Sol} (h : canonS a = canonS 0) : a = 0 := by
 have := canon_count a
 rw [h, canon_count, count_none] at this
 exact count_zero.1 this.symm
theorem both_law (a b : Sol) : (sameB a b == (fitS a b && fitS b a)) = true ∧ (sameB a b == (canonS a == canonS b)) = true := by
 have h1 : sameB a b = (canonS a == canonS b) := by
  unfold sameB
  by_cases h : canonS a = canonS b
  ·have : countS a = countS b := by rw [← canon_count a, h, canon_count]
   rw [this, beq_self_eq_true, Bool.true_and]
  ·rw [beq_eq_false_iff_ne.2 h, Bool.and_false]
 have h2 : (fitS a b && fitS b a) = (canonS a == canonS b) := by
  rw [Bool.eq_iff_iff, Bool.and_eq_true, beq_iff_eq]
  constructor
  ·rintro ⟨h, k⟩
   have hc1 := ord_count h
   have hc2 := ord_count k
   by_cases hb : b = 0
   ·subst hb
    rw [count_none] at hc2
    rw [count_zero.1 (Nat.le_zero.1 hc2)]
   ·have ha : a ≠ 0 := fun e => by
     subst e
     rw [count_none] at hc1
     exact hb (count_zero.1 (Nat.le_zero.1 hc1))
    rcases fitS_iff.1 h with e | ⟨m, hm⟩
    ·exact absurd e hb
    rcases fitS_iff.1 k with e | ⟨n, hn⟩
    ·exact absurd e ha
    exact fits_both hm hn
  ·intro h
   by_cases ha : a = 0
   ·subst ha
    have hb := canon_zero h.symm
    subst hb
    exact ⟨ord_refl 0, ord_refl 0⟩
   ·have hb : b ≠ 0 := fun e => by subst e; exact ha (canon_zero h)
    exact ⟨fitS_iff.2 (.inr (congr_fits ha h)), fitS_iff.2 (.inr (congr_fits hb h.symm))⟩
 rw [h1, h2]
 exact ⟨beq_self_eq_true _, beq_self_eq_true _⟩
theorem orbit_at {s x : Sol} (h : x ∈ imagesS s) : canonS x = canonS s ∧ (symL x).length = (symL s).length := by
 obtain ⟨t, ht, rfl⟩ := mem_images.1 h
 exact ⟨canon_image ht, sym_image ht⟩
theorem turns_law (s : Sol) (t u : Int) (h : (thenM (t, (0, 0, 0)) (u, (0, 0, 0))).2 = 0) :
  (turnedM s (thenM (t, (0, 0, 0)) (u, (0, 0, 0))).1.1) = ((turnedM (turnedM s t).1 u).1, 0) ∧ (thenM (t, (0, 0, 0)) (u, (0, 0, 0))).1.2 = (0, 0, 0) := by
 have hz : (thenM (t, (0, 0, 0)) (u, (0, 0, 0))).1.2 = (0, 0, 0) := by
  unfold thenM
  split
  ·simp only
   split
   ·rw [movT_zero]; unfold addC; simp
   ·rfl
  ·rfl
 by_cases ht : inB t 0 23 = true
 ·by_cases hu : inB u 0 23 = true
  ·have e1 : turnedM s t = (spunS s t.toNat, 0) := by unfold turnedM; rw [if_pos ht]
   have e2 : turnedM (spunS s t.toNat) u = (spunS (spunS s t.toNat) u.toNat, 0) := by unfold turnedM; rw [if_pos hu]
   have h1 : placedM s t (0, 0, 0) = (spunS s t.toNat, 0) := by rw [← turned_placed, e1]
   have h2 : placedM (spunS s t.toNat) u (0, 0, 0) = (spunS (spunS s t.toNat) u.toNat, 0) := by rw [← turned_placed, e2]
   have h3 := then_law (m := (t, (0, 0, 0))) (n := (u, (0, 0, 0))) h1 h2 h
   rw [hz, ← turned_placed] at h3
   rw [e1, e2]
   exact ⟨h3, hz⟩
  ·exfalso
   have hr : ¬ (rightB u (0, 0, 0) = true) := fun hr => hu (inB_iff.2 (rightB_iff.1 hr).1)
   have hr' : rightB u (0, 0, 0) = false := by simpa using hr
   unfold thenM at h
   rw [if_neg (by simp [hr'])] at h
   cases h
 ·exfalso
  have hr : ¬ (rightB t (0, 0, 0) = true) := fun hr => ht (inB_iff.2 (rightB_iff.1 hr).1)
  have hr' : rightB t (0, 0, 0) = false := by simpa using hr
  unfold thenM at h
  rw [if_neg (by simp [hr'])] at h
  cases h
theorem alike_mir (a : Nat) (s : Sol) : Alike (imgS (apS (mirS a)) s) s := alike_ap (undo_mir a) s
end Go.Solid
end
section
namespace Go.Proofs.YtkfimbonmnoglaaGreatDoor
open Go.RowKit Go.Rel Go.Draw Go.Solid
set_option maxRecDepth 100000
attribute [local go_sem] Oper.semAt_some
/-! SolidTurns -/
def spinN (s : Sol) : Nat → Sol
 | 0 => s
 | n + 1 => spunS (spinN s n) 1
theorem spinN_four (s : Sol) : spinN s 4 = s := four_turns s
theorem turned_call (x : Sol) (W : World) (hT : Tab W) : Calls Tryz.prog 58 #[solV x, .int .i64 1] W fun e w' => e = .returned (.tuple #[solV (spunS x 1), .int .i64 0]) ∧ Below W.heap.size W w' := turned_n x 1 W hT
attribute [local irreducible] turnedM thenM spunS spinN placedM
set_option maxHeartbeats 16000000 in
theorem SolidTurns_walk (s : Sol) (tt uu : Int) (w : World) (hT : Tab w) (hC : ∀ W, Below w.heap.size w W → Calls Tryz.prog 25 #[] W fun e w' => e = .returned (.bool true) ∧ Below W.heap.size W w') :
  Calls Tryz.prog 11 #[solV s, .int .i64 tt, .int .i64 uu] w fun e w' => e = .returned (.bool true) ∧ Below w.heap.size w w' := by
 have HT := Lib.hid (fun W (hb : Below w.heap.size w W) => hT.grow hb)
 have HC := Lib.hid hC
 clear hT hC
 have HT1 := Lib.hid fun W (hb : Below w.heap.size w W) => turned_n s tt W (HT.out W hb)
 have HP1 := Lib.hid fun W (hb : Below w.heap.size w W) => placed_n s tt (0, 0, 0) W (HT.out W hb)
 have HTh := Lib.hid fun W (hb : Below w.heap.size w W) => then_n (tt, (0, 0, 0)) (uu, (0, 0, 0)) W
 have hlaw := turns_law s tt uu
 rw [← turned_placed] at HP1
 obtain ⟨p, e, hpe⟩ : ∃ p e, turnedM s tt = (p, e) := ⟨_, _, rfl⟩
 rw [hpe] at HT1 HP1 hlaw
 clear hpe
 obtain ⟨k, c, h, hmm⟩ : ∃ k c h, thenM (tt, (0, 0, 0)) (uu, (0, 0, 0)) = ((k, c), h) := ⟨_, _, _, rfl⟩
 rw [hmm] at HTh hlaw
 clear hmm
 have HT2 := Lib.hid fun W (hb : Below w.heap.size w W) => turned_n p uu W (HT.out W hb)
 have HT3 := Lib.hid fun W (hb : Below w.heap.size w W) => turned_n s k W (HT.out W hb)
 replace hlaw : h = 0 → turnedM s k = ((turnedM p uu).1, 0) ∧ c = (0, 0, 0) := hlaw
 obtain ⟨r, i, hri⟩ : ∃ r i, turnedM p uu = (r, i) := ⟨_, _, rfl⟩
 rw [hri] at HT2 hlaw
 clear hri
 have HL := Lib.hid hlaw
 clear hlaw
 have HTx := Lib.hid fun x W (hb : Below w.heap.size w W) => turned_call x W (HT.out W hb)
 have H4 := Lib.hid (spinN_four s)
 have H0 : Hid (spinN s 0 = s) := Lib.hid (by unfold spinN; rfl)
 have HS : Hid (∀ n, spunS (spinN s n) 1 = spinN s (n + 1)) := Lib.hid fun n => by conv => rhs; unfold spinN
 go_enter Tryz.func11, Tryz.ntmps11
 go_wp2_with fail
 obtain ⟨wO, hw1⟩ : ∃ wO, wO = w.alloc (.cells #[.int .u64 (pl s 0), .int .u64 (pl s 1), .int .u64 (pl s 2), .int .u64 (pl s 3), .int .u64 (pl s 4), .int .u64 (pl s 5), .int .u64 (pl s 6), .int .u64 (pl s 7)] 26) := ⟨_, rfl⟩
 have bs : Blk wO w.heap.size #[.int .u64 (pl s 0), .int .u64 (pl s 1), .int .u64 (pl s 2), .int .u64 (pl s 3), .int .u64 (pl s 4), .int .u64 (pl s 5), .int .u64 (pl s 6), .int .u64 (pl s 7)] 26 ∧ Below w.heap.size w wO := by
  rw [hw1]
  exact ⟨Blk.new _ _ _, bel_alloc (bel_refl w) _⟩
 rw [← hw1]
 have HB := Lib.hid bs
 clear hw1 bs
 refine (HT1.out _ HB.out.2).mono ?_
 rintro e1 w2 ⟨rfl, hb⟩
 have HB2 : Hid (Below wO.heap.size wO w2) := Lib.hid hb
 clear hb
 have cs := (HB.out.1.grow HB2.out).cell; have ls := (HB.out.1.grow HB2.out).lt
 go_wp2_with fail
 clear cs ls
 obtain ⟨wA, hwA⟩ : ∃ x, x = w2.alloc (.cells #[.int .u64 (pl p 0), .int .u64 (pl p 1), .int .u64 (pl p 2), .int .u64 (pl p 3), .int .u64 (pl p 4), .int .u64 (pl p 5), .int .u64 (pl p 6), .int .u64 (pl p 7)] 26) := ⟨_, rfl⟩
 have hA : Blk wA w2.heap.size #[.int .u64 (pl p 0), .int .u64 (pl p 1), .int .u64 (pl p 2), .int .u64 (pl p 3), .int .u64 (pl p 4), .int .u64 (pl p 5), .int .u64 (pl p 6), .int .u64 (pl p 7)] 26 ∧ Below w.heap.size w wA ∧ Blk wA w.heap.size #[.int .u64 (pl s 0), .int .u64 (pl s 1), .int .u64 (pl s 2), .int .u64 (pl s 3), .int .u64 (pl s 4), .int .u64 (pl s 5), .int .u64 (pl s 6), .int .u64 (pl s 7)] 26 ∧ w.heap.size < w2.heap.size := by
  rw [hwA]
  exact ⟨Blk.new _ _ _, bel_alloc (bel_trans HB.out.2 HB2.out) _, (HB.out.1.grow HB2.out).alloc _, (HB.out.1.grow HB2.out).lt⟩
 obtain ⟨g7, hg⟩ : ∃ g, g = w2.heap.size := ⟨_, rfl⟩
 rw [← hwA, ← hg]
 rw [← hg] at hA
 clear hwA hg HB2 w2
 have HA := Lib.hid hA
 clear hA HB
 refine (HP1.out _ HA.out.2.1).mono ?_
 rintro e1 w3 ⟨rfl, hb⟩
 obtain ⟨wB, hwB⟩ : ∃ x, x = w3.alloc (.cells #[.int .u64 (pl p 0), .int .u64 (pl p 1), .int .u64 (pl p 2), .int .u64 (pl p 3), .int .u64 (pl p 4), .int .u64 (pl p 5), .int .u64 (pl p 6), .int .u64 (pl p 7)] 26) := ⟨_, rfl⟩
 have hB : Blk wB w3.heap.size #[.int .u64 (pl p 0), .int .u64 (pl p 1), .int .u64 (pl p 2), .int .u64 (pl p 3), .int .u64 (pl p 4), .int .u64 (pl p 5), .int .u64 (pl p 6), .int .u64 (pl p 7)] 26 ∧ Blk wB g7 #[.int .u64 (pl p 0), .int .u64 (pl p 1), .int .u64 (pl p 2), .int .u64 (pl p 3), .int .u64 (pl p 4), .int .u64 (pl p 5), .int .u64 (pl p 6), .int .u64 (pl p 7)] 26 ∧ Blk wB w.heap.size #[.int .u64 (pl s 0), .int .u64 (pl s 1), .int .u64 (pl s 2), .int .u64 (pl s 3), .int .u64 (pl s 4), .int .u64 (pl s 5), .int .u64 (pl s 6), .int .u64 (pl s 7)] 26 ∧ Below w.heap.size w wB ∧ w.heap.size < w3.heap.size ∧ g7 < w3.heap.size ∧ wB.heap.size = w3.heap.size + 1 := by
  rw [hwB]
  exact ⟨Blk.new _ _ _, (HA.out.1.grow hb).alloc _, (HA.out.2.2.1.grow hb).alloc _, bel_alloc (bel_trans HA.out.2.1 hb) _, (HA.out.2.2.1.grow hb).lt, (HA.out.1.grow hb).lt, by simp⟩
 obtain ⟨g9, hg⟩ : ∃ g, g = w3.heap.size := ⟨_, rfl⟩
 go_upto_region 3 with fail
 rw [← hwB, ← hg]
 rw [← hg] at hB
 clear hwB hg hb w3
 have HB := Lib.hid hB
 have c9 := HB.out.1.cell; have l9 := HB.out.1.lt
 have c7 := HB.out.2.1.cell; have l7 := HB.out.2.1.lt
 have c3 := HB.out.2.2.1.cell; have l3 := HB.out.2.2.1.lt
 clear hB
 go_wp2_with fail
 clear c9 l9 c7 l7 c3 l3
 obtain ⟨wC, hwC⟩ : ∃ x, x = wB.alloc (.cells #[.int .u64 (pl s 0), .int .u64 (pl s 1), .int .u64 (pl s 2), .int .u64 (pl s 3), .int .u64 (pl s 4), .int .u64 (pl s 5), .int .u64 (pl s 6), .int .u64 (pl s 7)] 26) := ⟨_, rfl⟩
 have hC2 : Blk wC wB.heap.size #[.int .u64 (pl s 0), .int .u64 (pl s 1), .int .u64 (pl s 2), .int .u64 (pl s 3), .int .u64 (pl s 4), .int .u64 (pl s 5), .int .u64 (pl s 6), .int .u64 (pl s 7)] 26 ∧ Blk wC g7 #[.int .u64 (pl p 0), .int .u64 (pl p 1), .int .u64 (pl p 2), .int .u64 (pl p 3), .int .u64 (pl p 4), .int .u64 (pl p 5), .int .u64 (pl p 6), .int .u64 (pl p 7)] 26 ∧ Blk wC w.heap.size #[.int .u64 (pl s 0), .int .u64 (pl s 1), .int .u64 (pl s 2), .int .u64 (pl s 3), .int .u64 (pl s 4), .int .u64 (pl s 5), .int .u64 (pl s 6), .int .u64 (pl s 7)] 26 ∧ Below w.heap.size w wC := by
  rw [hwC]
  exact ⟨Blk.new _ _ _, HB.out.2.1.alloc _, HB.out.2.2.1.alloc _, bel_alloc HB.out.2.2.2.1 _⟩
 have ho : w.heap.size < wB.heap.size ∧ g7 < wB.heap.size := ⟨HB.out.2.2.1.lt, HB.out.2.1.lt⟩
 obtain ⟨g, hg⟩ : ∃ g, g = wB.heap.size := ⟨_, rfl⟩
 rw [← hwC, ← hg]
 rw [← hg] at hC2 ho
 clear hwC hg HB
 have HC2 := Lib.hid hC2
 have HO := Lib.hid ho
 clear hC2 ho
 go_loopw [12] (fun iv wx => ∃ n : Nat, n ≤ 4 ∧ iv = .int .i64 n ∧ Hid (Blk wx g #[.int .u64 (pl (spinN s n) 0), .int .u64 (pl (spinN s n) 1), .int .u64 (pl (spinN s n) 2), .int .u64 (pl (spinN s n) 3), .int .u64 (pl (spinN s n) 4), .int .u64 (pl (spinN s n) 5), .int .u64 (pl (spinN s n) 6), .int .u64 (pl (spinN s n) 7)] 26 ∧ Blk wx g7 #[.int .u64 (pl p 0), .int .u64 (pl p 1), .int .u64 (pl p 2), .int .u64 (pl p 3), .int .u64 (pl p 4), .int .u64 (pl p 5), .int .u64 (pl p 6), .int .u64 (pl p 7)] 26 ∧ Blk wx w.heap.size #[.int .u64 (pl s 0), .int .u64 (pl s 1), .int .u64 (pl s 2), .int .u64 (pl s 3), .int .u64 (pl s 4), .int .u64 (pl s 5), .int .u64 (pl s 6), .int .u64 (pl s 7)] 26 ∧ Below w.heap.size w wx)) (fun iv _ => 4 - (intOf iv).toNat)
 case atStart => exact ⟨0, by omega, rfl, Lib.hid (by rw [H0.out]; exact HC2.out)⟩
 case round =>
  obtain ⟨n, hn, rfl, HM⟩ := hrel
  by_cases hn4 : n < 4
  ·have hs1 := HS.out n
   obtain ⟨x, hx⟩ : ∃ x, x = spinN s n := ⟨_, rfl⟩
   obtain ⟨y, hy⟩ : ∃ y, y = spinN s (n + 1) := ⟨_, rfl⟩
   rw [← hx] at HM hs1
   rw [← hy] at hs1
   have HY := Lib.hid hy
   have HXT := Lib.hid fun W hb => HTx.out x W hb
   rw [hs1] at HXT
   clear hx hy hs1
   have cg := HM.out.1.cell; have lg := HM.out.1.lt
   go_wp2_with fail
   clear cg lg
   refine (HXT.out _ HM.out.2.2.2).mono ?_
   rintro e1 w4 ⟨rfl, hb⟩
   obtain ⟨wD, hwD⟩ : ∃ x, x = w4.alloc (.cells #[.int .u64 (pl y 0), .int .u64 (pl y 1), .int .u64 (pl y 2), .int .u64 (pl y 3), .int .u64 (pl y 4), .int .u64 (pl y 5), .int .u64 (pl y 6), .int .u64 (pl y 7)] 26) := ⟨_, rfl⟩
   have hD : Blk wD w4.heap.size #[.int .u64 (pl y 0), .int .u64 (pl y 1), .int .u64 (pl y 2), .int .u64 (pl y 3), .int .u64 (pl y 4), .int .u64 (pl y 5), .int .u64 (pl y 6), .int .u64 (pl y 7)] 26 ∧ Blk wD g #[.int .u64 (pl x 0), .int .u64 (pl x 1), .int .u64 (pl x 2), .int .u64 (pl x 3), .int .u64 (pl x 4), .int .u64 (pl x 5), .int .u64 (pl x 6), .int .u64 (pl x 7)] 26 ∧ Blk wD g7 #[.int .u64 (pl p 0), .int .u64 (pl p 1), .int .u64 (pl p 2), .int .u64 (pl p 3), .int .u64 (pl p 4), .int .u64 (pl p 5), .int .u64 (pl p 6), .int .u64 (pl p 7)] 26 ∧ Blk wD w.heap.size #[.int .u64 (pl s 0), .int .u64 (pl s 1), .int .u64 (pl s 2), .int .u64 (pl s 3), .int .u64 (pl s 4), .int .u64 (pl s 5), .int .u64 (pl s 6), .int .u64 (pl s 7)] 26 ∧ Below w.heap.size w wD ∧ g < w4.heap.size := by
    rw [hwD]
    exact ⟨Blk.new _ _ _, (HM.out.1.grow hb).alloc _, (HM.out.2.1.grow hb).alloc _, (HM.out.2.2.1.grow hb).alloc _, bel_alloc (bel_trans HM.out.2.2.2 hb) _, (HM.out.1.grow hb).lt⟩
   obtain ⟨g13, hg13⟩ : ∃ g13, g13 = w4.heap.size := ⟨_, rfl⟩
   go_upto_region 10 with fail
   rw [← hwD, ← hg13]
   rw [← hg13] at hD
   clear hwD hg13 hb w4 HM
   have HD := Lib.hid hD
   have ho := HO.out
   obtain ⟨hd1, hd2, hd3, hd4, hd5, hd6⟩ := hD
   have hbJ := bel_row hd5 (g := g) (by omega) #[.int .u64 (pl y 0), .int .u64 (pl y 1), .int .u64 (pl y 2), .int .u64 (pl y 3), .int .u64 (pl y 4), .int .u64 (pl y 5), .int .u64 (pl y 6), .int .u64 (pl y 7)]
   have HE := Lib.hid (And.intro (hd2.rowS #[.int .u64 (pl y 0), .int .u64 (pl y 1), .int .u64 (pl y 2), .int .u64 (pl y 3), .int .u64 (pl y 4), .int .u64 (pl y 5), .int .u64 (pl y 6), .int .u64 (pl y 7)]) (And.intro (hd3.rowO (g := g) #[.int .u64 (pl y 0), .int .u64 (pl y 1), .int .u64 (pl y 2), .int .u64 (pl y 3), .int .u64 (pl y 4), .int .u64 (pl y 5), .int .u64 (pl y 6), .int .u64 (pl y 7)] (by omega)) (And.intro (hd4.rowO (g := g) #[.int .u64 (pl y 0), .int .u64 (pl y 1), .int .u64 (pl y 2), .int .u64 (pl y 3), .int .u64 (pl y 4), .int .u64 (pl y 5), .int .u64 (pl y 6), .int .u64 (pl y 7)] (by omega)) hbJ)))
   have c13 := hd1.cell; have l13 := hd1.lt
   have cr := (hd1.rowO (g := g) #[.int .u64 (pl x 0), .int .u64 (pl x 1), .int .u64 (pl x 2), .int .u64 (pl x 3), .int .u64 (pl x 4), .int .u64 (pl x 5), .int .u64 (pl x 6), .int .u64 (pl x 7)] (by omega)).cell
   have rg := hd2.row; have lg := hd2.lt
   rw [← hd2.rw]
   clear hd1 hd2 hd3 hd4 hd5 hd6 hbJ ho c13
   go_wp2_with fail
   go_roundw
   case rel =>
    refine ⟨n + 1, by omega, by go_num, Lib.hid ?_⟩
    rw [← HY.out]
    exact HE.out
   case measure => simp [intOf]; omega
  ·obtain rfl : n = 4 := by omega
   have hM := HM.out
   rw [H4.out] at hM
   have HM2 := Lib.hid hM
   clear hM HM
   have cg := HM2.out.1.cell; have lg := HM2.out.1.lt
   have c3 := HM2.out.2.2.1.cell; have l3 := HM2.out.2.2.1.lt
   go_wp2_with fail
   refine (HTh.out _ HM2.out.2.2.2).mono ?_
   rintro e1 w5 ⟨rfl, hb⟩
   clear cg lg c3 l3
   obtain ⟨wD, hwD⟩ : ∃ x, x = w5.alloc (.cells #[.int .i64 k, .int .i64 c.1, .int .i64 c.2.1, .int .i64 c.2.2] 23) := ⟨_, rfl⟩
   have hD : Blk wD w5.heap.size #[.int .i64 k, .int .i64 c.1, .int .i64 c.2.1, .int .i64 c.2.2] 23 ∧ Blk wD g7 #[.int .u64 (pl p 0), .int .u64 (pl p 1), .int .u64 (pl p 2), .int .u64 (pl p 3), .int .u64 (pl p 4), .int .u64 (pl p 5), .int .u64 (pl p 6), .int .u64 (pl p 7)] 26 ∧ Blk wD w.heap.size #[.int .u64 (pl s 0), .int .u64 (pl s 1), .int .u64 (pl s 2), .int .u64 (pl s 3), .int .u64 (pl s 4), .int .u64 (pl s 5), .int .u64 (pl s 6), .int .u64 (pl s 7)] 26 ∧ Below w.heap.size w wD := by
    rw [hwD]
    exact ⟨Blk.new _ _ _, (HM2.out.2.1.grow hb).alloc _, (HM2.out.2.2.1.grow hb).alloc _, bel_alloc (bel_trans HM2.out.2.2.2 hb) _⟩
   obtain ⟨gm, hgm⟩ : ∃ x, x = w5.heap.size := ⟨_, rfl⟩
   go_upto_region 16 with fail
   rw [← hwD, ← hgm]
   rw [← hgm] at hD
   clear hwD hgm hb w5 HM2
   have HD := Lib.hid hD
   clear hD
   have c7 := HD.out.2.1.cell; have l7 := HD.out.2.1.lt
   go_wp2_with fail
   clear c7 l7
   refine (HT2.out _ HD.out.2.2.2).mono ?_
   rintro e1 w6 ⟨rfl, hb⟩
   obtain ⟨wE, hwE⟩ : ∃ x, x = w6.alloc (.cells #[.int .u64 (pl r 0), .int .u64 (pl r 1), .int .u64 (pl r 2), .int .u64 (pl r 3), .int .u64 (pl r 4), .int .u64 (pl r 5), .int .u64 (pl r 6), .int .u64 (pl r 7)] 26) := ⟨_, rfl⟩
   have hE : Blk wE w6.heap.size #[.int .u64 (pl r 0), .int .u64 (pl r 1), .int .u64 (pl r 2), .int .u64 (pl r 3), .int .u64 (pl r 4), .int .u64 (pl r 5), .int .u64 (pl r 6), .int .u64 (pl r 7)] 26 ∧ Blk wE gm #[.int .i64 k, .int .i64 c.1, .int .i64 c.2.1, .int .i64 c.2.2] 23 ∧ Blk wE w.heap.size #[.int .u64 (pl s 0), .int .u64 (pl s 1), .int .u64 (pl s 2), .int .u64 (pl s 3), .int .u64 (pl s 4), .int .u64 (pl s 5), .int .u64 (pl s 6), .int .u64 (pl s 7)] 26 ∧ Below w.heap.size w wE := by
    rw [hwE]
    exact ⟨Blk.new _ _ _, (HD.out.1.grow hb).alloc _, (HD.out.2.2.1.grow hb).alloc _, bel_alloc (bel_trans HD.out.2.2.2 hb) _⟩
   obtain ⟨g17, hg17⟩ : ∃ x, x = w6.heap.size := ⟨_, rfl⟩
   go_upto_region 17 with fail
   rw [← hwE, ← hg17]
   rw [← hg17] at hE
   clear hwE hg17 hb w6 HD
   have HE := Lib.hid hE
   clear hE
   by_cases hh : h = 0
   ·have hl := HL.out hh
    obtain ⟨hl1, rfl⟩ := hl
    rw [hl1] at HT3
    subst hh
    clear hl1
    by_cases hi : i = 0
    ·subst hi
     have c3 := HE.out.2.2.1.cell; have l3 := HE.out.2.2.1.lt
     have cm := HE.out.2.1.cell; have lm := HE.out.2.1.lt
     go_wp2_with fail
     clear c3 l3 cm lm
     refine (HT3.out _ HE.out.2.2.2).mono ?_
     rintro e1 w7 ⟨rfl, hb⟩
     obtain ⟨wF, hwF⟩ : ∃ x, x = w7.alloc (.cells #[.int .u64 (pl r 0), .int .u64 (pl r 1), .int .u64 (pl r 2), .int .u64 (pl r 3), .int .u64 (pl r 4), .int .u64 (pl r 5), .int .u64 (pl r 6), .int .u64 (pl r 7)] 26) := ⟨_, rfl⟩
     have hF : Blk wF w7.heap.size #[.int .u64 (pl r 0), .int .u64 (pl r 1), .int .u64 (pl r 2), .int .u64 (pl r 3), .int .u64 (pl r 4), .int .u64 (pl r 5), .int .u64 (pl r 6), .int .u64 (pl r 7)] 26 ∧ Blk wF g17 #[.int .u64 (pl r 0), .int .u64 (pl r 1), .int .u64 (pl r 2), .int .u64 (pl r 3), .int .u64 (pl r 4), .int .u64 (pl r 5), .int .u64 (pl r 6), .int .u64 (pl r 7)] 26 ∧ Blk wF gm #[.int .i64 k, .int .i64 0, .int .i64 0, .int .i64 0] 23 ∧ Below w.heap.size w wF := by
      rw [hwF]
      exact ⟨Blk.new _ _ _, (HE.out.1.grow hb).alloc _, (HE.out.2.1.grow hb).alloc _, bel_alloc (bel_trans HE.out.2.2.2 hb) _⟩
     obtain ⟨g19, hg19⟩ : ∃ x, x = w7.heap.size := ⟨_, rfl⟩
     go_upto_region 20 with fail
     rw [← hwF, ← hg19]
     rw [← hg19] at hF
     clear hwF hg19 hb w7 HE
     have HF := Lib.hid hF
     clear hF
     go_wp2_with fail
     refine (HC.out _ HF.out.2.2.2).mono ?_
     rintro e1 w8 ⟨rfl, hb⟩
     have c1 := (HF.out.1.grow hb).cell; have l1 := (HF.out.1.grow hb).lt
     have c2 := (HF.out.2.1.grow hb).cell; have l2 := (HF.out.2.1.grow hb).lt
     have c3 := (HF.out.2.2.1.grow hb).cell; have l3 := (HF.out.2.2.1.grow hb).lt
     have H9 := Lib.hid (bel_trans HF.out.2.2.2 hb)
     clear hb HF
     go_wp2_with fail
     go_ret
     exact ⟨rfl, H9.out⟩
    ·go_wp2_with fail
     refine (HC.out _ HE.out.2.2.2).mono ?_
     rintro e1 w8 ⟨rfl, hb⟩
     have H9 := Lib.hid (bel_trans HE.out.2.2.2 hb)
     clear hb
     go_wp2_with fail
     go_ret
     exact ⟨rfl, H9.out⟩
   ·go_wp2_with fail
    refine (HC.out _ HE.out.2.2.2).mono ?_
    rintro e1 w8 ⟨rfl, hb⟩
    have H9 := Lib.hid (bel_trans HE.out.2.2.2 hb)
    clear hb
    go_wp2_with fail
    go_ret
    exact ⟨rfl, H9.out⟩
end Go.Proofs.YtkfimbonmnoglaaGreatDoor
end
