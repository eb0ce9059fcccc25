import Derived.Test.YtkfimbonmnoglaaGreatDoorG23
import Derived.Test.YtkfimbonmnoglaaGreatDoorG29
import Derived.Deep.Cut
/-
  Given contracts of functions of the program, and laws for them, one behind the other.
-/
set_option linter.unusedVariables false
set_option linter.unusedSimpArgs false
set_option linter.unusedSectionVars false
section
namespace Go.Solid
open Go.Draw
set_option maxRecDepth 100000
/-! SolidOrder: the order that Fits makes -/
def fitS (a b : Sol) : Bool := decide (b = 0) || (fitsL a b).head?.isSome
theorem fitS_iff {a b : Sol} : fitS a b = true ↔ b = 0 ∨ ∃ m, FitsM a b m := by
 unfold fitS
 by_cases hb : b = 0
 ·simp [hb]
 ·rw [Bool.or_eq_true, fits_head hb, decide_eq_true_eq]
theorem ord_refl (a : Sol) : fitS a a = true := fitS_iff.2 (.inr ⟨_, fits_refl a⟩)
theorem count_none : countS 0 = 0 := count_zero.2 rfl
theorem ord_count {a b : Sol} (h : fitS a b = true) : countS b ≤ countS a := by
 rcases fitS_iff.1 h with rfl | ⟨m, hm⟩
 ·rw [count_none]; exact Nat.zero_le _
 ·exact fits_count hm
theorem ord_trans {a b c : Sol} (h : fitS a b = true) (k : fitS b c = true) : fitS a c = true := by
 rcases fitS_iff.1 k with rfl | ⟨m, hm⟩
 ·exact fitS_iff.2 (.inl rfl)
 ·rcases fitS_iff.1 h with rfl | ⟨n, hn⟩
  ·have := fits_count hm
   rw [count_none] at this
   exact fitS_iff.2 (.inl (count_zero.1 (by omega)))
  ·exact fitS_iff.2 (.inr ⟨_, fits_trans hm hn⟩)
theorem ord_less {a b : Sol} (d : Sol) (h : fitS a b = true) : fitS a (b &&& ~~~d) = true := by
 have hs : subS (b &&& ~~~d) b = true := cut_sub b d
 rcases fitS_iff.1 h with rfl | ⟨m, hm⟩
 ·refine fitS_iff.2 (.inl ?_)
  have := count_le hs
  rw [count_none] at this
  exact count_zero.1 (by omega)
 ·exact fitS_iff.2 (.inr ⟨m, fits_less hm hs⟩)
theorem ord_join {a b : Sol} (d : Sol) (h : fitS a b = true) : fitS (a ||| d) b = true := by
 rcases fitS_iff.1 h with rfl | ⟨m, hm⟩
 ·exact fitS_iff.2 (.inl rfl)
 ·exact fitS_iff.2 (.inr ⟨m, fits_wide hm (subS_iff.2 fun c hc => or_has.2 (.inl hc))⟩)
end Go.Solid
end
section
namespace Go.Solid
open Go.Draw
set_option maxRecDepth 100000
/-! the laws without the reference, as they are asked -/
def sameB (a b : Sol) : Bool := countS a == countS b && canonS a == canonS b
theorem canon_zero {a : Sol} (h : canonS a = canonS 0) : a = 0 := by
 have := canon_count a
 rw [h, canon_count, count_none] at this
 exact count_zero.1 this.symm
theorem both_law (a b : Sol) : (sameB a b == (fitS a b && fitS b a)) = true ∧ (sameB a b == (canonS a == canonS b)) = true := by
 have h1 : sameB a b = (canonS a == canonS b) := by
  unfold sameB
  by_cases h : canonS a = canonS b
  ·have : countS a = countS b := by rw [← canon_count a, h, canon_count]
   rw [this, beq_self_eq_true, Bool.true_and]
  ·rw [beq_eq_false_iff_ne.2 h, Bool.and_false]
 have h2 : (fitS a b && fitS b a) = (canonS a == canonS b) := by
  rw [Bool.eq_iff_iff, Bool.and_eq_true, beq_iff_eq]
  constructor
  ·rintro ⟨h, k⟩
   have hc1 := ord_count h
   have hc2 := ord_count k
   by_cases hb : b = 0
   ·subst hb
    rw [count_none] at hc2
    rw [count_zero.1 (Nat.le_zero.1 hc2)]
   ·have ha : a ≠ 0 := fun e => by
     subst e
     rw [count_none] at hc1
     exact hb (count_zero.1 (Nat.le_zero.1 hc1))
    rcases fitS_iff.1 h with e | ⟨m, hm⟩
    ·exact absurd e hb
    rcases fitS_iff.1 k with e | ⟨n, hn⟩
    ·exact absurd e ha
    exact fits_both hm hn
  ·intro h
   by_cases ha : a = 0
   ·subst ha
    have hb := canon_zero h.symm
    subst hb
    exact ⟨ord_refl 0, ord_refl 0⟩
   ·have hb : b ≠ 0 := fun e => by subst e; exact ha (canon_zero h)
    exact ⟨fitS_iff.2 (.inr (congr_fits ha h)), fitS_iff.2 (.inr (congr_fits hb h.symm))⟩
 rw [h1, h2]
 exact ⟨beq_self_eq_true _, beq_self_eq_true _⟩
theorem orbit_at {s x : Sol} (h : x ∈ imagesS s) : canonS x = canonS s ∧ (symL x).length = (symL s).length := by
 obtain ⟨t, ht, rfl⟩ := mem_images.1 h
 exact ⟨canon_image ht, sym_image ht⟩
theorem turns_law (s : Sol) (t u : Int) (h : (thenM (t, (0, 0, 0)) (u, (0, 0, 0))).2 = 0) :
  (turnedM s (thenM (t, (0, 0, 0)) (u, (0, 0, 0))).1.1) = ((turnedM (turnedM s t).1 u).1, 0) ∧ (thenM (t, (0, 0, 0)) (u, (0, 0, 0))).1.2 = (0, 0, 0) := by
 have hz : (thenM (t, (0, 0, 0)) (u, (0, 0, 0))).1.2 = (0, 0, 0) := by
  unfold thenM
  split
  ·simp only
   split
   ·rw [movT_zero]; unfold addC; simp
   ·rfl
  ·rfl
 by_cases ht : inB t 0 23 = true
 ·by_cases hu : inB u 0 23 = true
  ·have e1 : turnedM s t = (spunS s t.toNat, 0) := by unfold turnedM; rw [if_pos ht]
   have e2 : turnedM (spunS s t.toNat) u = (spunS (spunS s t.toNat) u.toNat, 0) := by unfold turnedM; rw [if_pos hu]
   have h1 : placedM s t (0, 0, 0) = (spunS s t.toNat, 0) := by rw [← turned_placed, e1]
   have h2 : placedM (spunS s t.toNat) u (0, 0, 0) = (spunS (spunS s t.toNat) u.toNat, 0) := by rw [← turned_placed, e2]
   have h3 := then_law (m := (t, (0, 0, 0))) (n := (u, (0, 0, 0))) h1 h2 h
   rw [hz, ← turned_placed] at h3
   rw [e1, e2]
   exact ⟨h3, hz⟩
  ·exfalso
   have hr : ¬ (rightB u (0, 0, 0) = true) := fun hr => hu (inB_iff.2 (rightB_iff.1 hr).1)
   have hr' : rightB u (0, 0, 0) = false := by simpa using hr
   unfold thenM at h
   rw [if_neg (by simp [hr'])] at h
   cases h
 ·exfalso
  have hr : ¬ (rightB t (0, 0, 0) = true) := fun hr => ht (inB_iff.2 (rightB_iff.1 hr).1)
  have hr' : rightB t (0, 0, 0) = false := by simpa using hr
  unfold thenM at h
  rw [if_neg (by simp [hr'])] at h
  cases h
theorem alike_mir (a : Nat) (s : Sol) : Alike (imgS (apS (mirS a)) s) s := alike_ap (undo_mir a) s
end Go.Solid
end
section
namespace Go.Proofs.YtkfimbonmnoglaaGreatDoor
open Go.RowKit Go.Rel Go.Draw Go.Solid
set_option maxRecDepth 100000
/-! Fits by its flag -/
theorem fitsMo_fit (a b : Sol) : (fitsMo a b).2 = fitS a b := by
 unfold fitsMo fitS
 by_cases hb : b = 0
 ·rw [if_pos hb]; simp [hb]
 ·rw [if_neg hb]
  cases e : (fitsL a b).head? with
  | none => show false = (decide (b = 0) || false); rw [decide_eq_false hb]; rfl
  | some y => show true = (decide (b = 0) || true); rw [Bool.or_true]
theorem fit_call (a b : Sol) (w : World) (hT : Tab w) : Calls Tryz.prog 51 #[solV a, solV b] w fun e w' => (∃ q1 q2 q3 q4 : Int, e = .returned (.tuple #[.agg #[.int .i64 q1, .int .i64 q2, .int .i64 q3, .int .i64 q4], .bool (fitS a b)])) ∧ Below w.heap.size w w' := by
 have := fits_n a b w hT
 rw [fitsMo_fit] at this
 exact this.mono fun e w' he => ⟨⟨_, _, _, _, he.1⟩, he.2⟩
end Go.Proofs.YtkfimbonmnoglaaGreatDoor
end
section
namespace Go.Proofs.YtkfimbonmnoglaaGreatDoor
open Go.RowKit Go.Rel Go.Draw Go.Solid
set_option maxRecDepth 100000
attribute [local go_sem] Oper.semAt_some
/-! SolidBoth -/
set_option maxHeartbeats 16000000 in
theorem SolidBoth_walk (a b : Sol) (w : World) (hT : Tab w) (hC : ∀ W, Below w.heap.size w W → Calls Tryz.prog 25 #[] W fun e w' => e = .returned (.bool true) ∧ Below W.heap.size W w') :
  Calls Tryz.prog 7 #[solV a, solV b] w fun e w' => e = .returned (.bool true) ∧ Below w.heap.size w w' := by
 have HT := Lib.hid (fun W (hb : Below w.heap.size w W) => hT.grow hb)
 have HC := Lib.hid hC
 clear hT hC
 have HF : Hid (∀ x y W, Below w.heap.size w W → Calls Tryz.prog 51 #[solV x, solV y] W fun e w' => (∃ q1 q2 q3 q4 : Int, e = .returned (.tuple #[.agg #[.int .i64 q1, .int .i64 q2, .int .i64 q3, .int .i64 q4], .bool (fitS x y)])) ∧ Below W.heap.size W w') := Lib.hid fun x y W hb => fit_call x y W (HT.out W hb)
 have HS := Lib.hid fun W (hb : Below w.heap.size w W) => same_spec a b W (HT.out W hb)
 have HKa := Lib.hid fun W (hb : Below w.heap.size w W) => canon_spec a W (HT.out W hb)
 have HKb := Lib.hid fun W (hb : Below w.heap.size w W) => canon_spec b W (HT.out W hb)
 have HL := both_law a b
 unfold sameB at HL
 obtain ⟨S, hS⟩ : ∃ S, S = (countS a == countS b && canonS a == canonS b) := ⟨_, rfl⟩
 rw [← hS] at HS HL
 clear hS
 obtain ⟨K, hK⟩ : ∃ n, n = canonS a := ⟨_, rfl⟩
 obtain ⟨L, hL⟩ : ∃ n, n = canonS b := ⟨_, rfl⟩
 rw [← hK] at HKa HL; rw [← hL] at HKb HL
 clear hK hL
 obtain ⟨HL1, HL2⟩ := HL
 have HF1 := Lib.hid fun W hb => HF.out a b W hb
 have HF2 := Lib.hid fun W hb => HF.out b a W hb
 obtain ⟨p, hp⟩ : ∃ p, p = fitS a b := ⟨_, rfl⟩
 obtain ⟨q, hq⟩ : ∃ p, p = fitS b a := ⟨_, rfl⟩
 rw [← hp] at HF1 HL1; rw [← hq] at HF2 HL1
 clear hp hq HF
 have HS1 : S = (p && q) := eq_of_beq HL1
 have HS2 : (K == L) = S := (eq_of_beq HL2).symm
 clear HL1 HL2
 have HZ1 := Lib.hid HS1
 have HZ2 := Lib.hid HS2
 clear HS1 HS2
 go_enter Tryz.func7, Tryz.ntmps7
 go_wp2_with fail
 obtain ⟨wO, hw1⟩ : ∃ wO, wO = (w.alloc (.cells #[.int .u64 (pl a 0), .int .u64 (pl a 1), .int .u64 (pl a 2), .int .u64 (pl a 3), .int .u64 (pl a 4), .int .u64 (pl a 5), .int .u64 (pl a 6), .int .u64 (pl a 7)] 26)).alloc (.cells #[.int .u64 (pl b 0), .int .u64 (pl b 1), .int .u64 (pl b 2), .int .u64 (pl b 3), .int .u64 (pl b 4), .int .u64 (pl b 5), .int .u64 (pl b 6), .int .u64 (pl b 7)] 26) := ⟨_, rfl⟩
 have bs : Blk wO w.heap.size #[.int .u64 (pl a 0), .int .u64 (pl a 1), .int .u64 (pl a 2), .int .u64 (pl a 3), .int .u64 (pl a 4), .int .u64 (pl a 5), .int .u64 (pl a 6), .int .u64 (pl a 7)] 26 ∧ Blk wO (w.heap.size + 1) #[.int .u64 (pl b 0), .int .u64 (pl b 1), .int .u64 (pl b 2), .int .u64 (pl b 3), .int .u64 (pl b 4), .int .u64 (pl b 5), .int .u64 (pl b 6), .int .u64 (pl b 7)] 26 ∧ Below w.heap.size w wO := by
  rw [hw1]
  exact ⟨(by repeat (first | with_reducible assumption | (refine Blk.at _ _ ?_; (simp; done)) | with_reducible refine Blk.alloc ?_ _ | with_reducible refine Blk.drew ?_ | with_reducible refine Blk.rowS ?_ _ | with_reducible refine Blk.rowO ?_ _ (by simp))), Blk.at _ _ (by simp), (by repeat (first | with_reducible exact bel_refl _ | with_reducible assumption | with_reducible refine bel_drewN ?_ _ | with_reducible refine bel_drew ?_ | with_reducible refine bel_alloc ?_ _ | with_reducible refine bel_row ?_ ?_ _ | with_reducible refine bel_set ?_ ?_ _ | refine bel_trans ?_ (by with_reducible assumption) | (simp; done) | (simp; omega)))⟩
 rw [← hw1]
 have HB := Lib.hid bs
 clear hw1 bs
 refine (HF1.out _ HB.out.2.2).mono ?_
 rintro e w2 ⟨⟨q01, q02, q03, q04, rfl⟩, hb⟩
 have HB2 : Hid (Below wO.heap.size wO w2) := Lib.hid (hb)
 clear hb
 have ca := (HB.out.1.grow HB2.out).cell; have la := (HB.out.1.grow HB2.out).lt
 have cb := (HB.out.2.1.grow HB2.out).cell; have lb := (HB.out.2.1.grow HB2.out).lt
 go_wp2_with fail
 clear ca la cb lb
 refine (HF2.out _ (bel_alloc (bel_trans HB.out.2.2 HB2.out) _)).mono ?_
 rintro e w3 ⟨⟨q11, q12, q13, q14, rfl⟩, hb⟩
 have HB3 : Hid (Below wO.heap.size wO w3) := Lib.hid (bel_trans (bel_alloc HB2.out _) hb)
 clear hb
 have ca := (HB.out.1.grow HB3.out).cell; have la := (HB.out.1.grow HB3.out).lt
 have cb := (HB.out.2.1.grow HB3.out).cell; have lb := (HB.out.2.1.grow HB3.out).lt
 go_wp2_with fail
 clear ca la cb lb
 refine (HS.out _ (bel_alloc (bel_trans HB.out.2.2 HB3.out) _)).mono ?_
 rintro e w4 ⟨rfl, hb⟩
 have HB4 : Hid (Below wO.heap.size wO w4) := Lib.hid (bel_trans (bel_alloc HB3.out _) hb)
 clear hb
 go_wp2_with fail
 have hz1 := HZ1.out
 have hz2 := HZ2.out
 cases p
 ·obtain rfl : S = false := by simpa using hz1
  clear hz1 HZ1 HZ2
  obtain ⟨wA, hwA⟩ : ∃ wA, wA = w4 := ⟨_, rfl⟩
  rw [← hwA] at HB4 ⊢
  clear hwA
  have HW := Lib.hid (bel_trans HB.out.2.2 HB4.out)
  have HKL := Lib.hid hz2
  clear hz2
  refine wp_region_val Grows (fun _ _ _ => True) [Is (.bool true), Is (.bool true), Is (.bool false), Is (.bool false), Is (.bool false), Is undef, Is (.bool false), Is (.bool true), Is (.bool true), Is (.bool true), Is (.bool false), Is (solV a), Is (solV K), Is (solV b), Is (solV L), Is (.bool false), Is (.bool true), Is (.bool true), Is (.bool true)] (by kernel_rfl) (by kernel_rfl) rfl Grows.refl (fun _ _ _ => Grows.trans) (stable_mem ⟨fun _ _ _ h _ => h, fun _ _ _ h _ => h, fun _ _ _ h _ => h, fun _ _ _ h _ => h, fun _ _ _ h _ => h, fun _ _ _ h _ => h, fun _ _ _ h _ => h, fun _ _ _ h _ => h, fun _ _ _ h _ => h, fun _ _ _ h _ => h, fun _ _ _ h _ => h, fun _ _ _ h _ => h, fun _ _ _ h _ => h, fun _ _ _ h _ => h, fun _ _ _ h _ => h, fun _ _ _ h _ => h, fun _ _ _ h _ => h, fun _ _ _ h _ => h, fun _ _ _ h _ => h, trivial⟩) wA (Below.drew (Below.refl _ _)) trivial ?_
  refine val_cons ?_ (fun v0 => ?_)
  ·intro L vs w1 hvs hat hb hI hF; try simp [factsI, Region.binds, Is] at hF
   have hb0 := hb
   go_simp
   refine (HC.out _ (bel_trans HW.out (show Below _ _ _ from hb0))).mono ?_
   rintro e w2 ⟨rfl, hb2⟩
   first | exact ⟨rfl, hb2⟩ | exact ⟨_, rfl, hb2, trivial, rfl⟩
  refine val_cons ?_ (fun v1 => ?_)
  ·intro L vs w1 hvs hat hb hI hF; try simp [factsI, Region.binds, Is] at hF
   have hc := (Grows.cells hb).1
   clear hI
   go_simp
   try simp [upd]
   try first | exact Grows.refl _ | exact trivial | exact ⟨Grows.refl _, trivial⟩
  refine val_cons ?_ (fun v2 => ?_)
  ·intro L vs w1 hvs hat hb hI hF; try simp [factsI, Region.binds, Is] at hF
   have hc := (Grows.cells hb).1
   clear hI
   go_simp
   try simp [upd]
   try first | exact Grows.refl _ | exact trivial | exact ⟨Grows.refl _, trivial⟩
  refine val_cons ?_ (fun v3 => ?_)
  ·intro L vs w1 hvs hat hb hI hF; try simp [factsI, Region.binds, Is] at hF
   have hc := (Grows.cells hb).1
   clear hI
   go_simp
   try simp [upd]
   try first | exact Grows.refl _ | exact trivial | exact ⟨Grows.refl _, trivial⟩
  refine val_cons ?_ (fun v4 => ?_)
  ·intro L vs w1 hvs hat hb hI hF; try simp [factsI, Region.binds, Is] at hF
   have hc := (Grows.cells hb).1
   clear hI
   go_simp
   try simp [upd]
   try first | exact Grows.refl _ | exact trivial | exact ⟨Grows.refl _, trivial⟩
  refine val_cons ?_ (fun v5 => ?_)
  ·intro L vs w1 hvs hat hb hI hF; try simp [factsI, Region.binds, Is] at hF
   have hc := (Grows.cells hb).1
   clear hI
   go_simp
   try simp [upd]
   try first | exact Grows.refl _ | exact trivial | exact ⟨Grows.refl _, trivial⟩
  refine val_cons ?_ (fun v6 => ?_)
  ·intro L vs w1 hvs hat hb hI hF; try simp [factsI, Region.binds, Is] at hF
   have hc := (Grows.cells hb).1
   clear hI
   go_simp
   try simp [upd]
   try first | exact Grows.refl _ | exact trivial | exact ⟨Grows.refl _, trivial⟩
  refine val_cons ?_ (fun v7 => ?_)
  ·intro L vs w1 hvs hat hb hI hF; try simp [factsI, Region.binds, Is] at hF
   have hc := (Grows.cells hb).1
   clear hI
   go_simp
   try simp [upd]
   try first | exact Grows.refl _ | exact trivial | exact ⟨Grows.refl _, trivial⟩
  refine val_cons ?_ (fun v8 => ?_)
  ·intro L vs w1 hvs hat hb hI hF; try simp [factsI, Region.binds, Is] at hF
   have hc := (Grows.cells hb).1
   clear hI
   go_simp
   try simp [upd]
   try first | exact Grows.refl _ | exact trivial | exact ⟨Grows.refl _, trivial⟩
  refine val_cons ?_ (fun v9 => ?_)
  ·intro L vs w1 hvs hat hb hI hF; try simp [factsI, Region.binds, Is] at hF
   have hc := (Grows.cells hb).1
   clear hI
   go_simp
   try simp [upd]
   try first | exact Grows.refl _ | exact trivial | exact ⟨Grows.refl _, trivial⟩
  refine val_cons ?_ (fun v10 => ?_)
  ·intro L vs w1 hvs hat hb hI hF; try simp [factsI, Region.binds, Is] at hF
   have hc := (Grows.cells hb).1
   clear hI
   go_simp
   try simp [upd]
   try first | exact Grows.refl _ | exact trivial | exact ⟨Grows.refl _, trivial⟩
  refine val_cons ?_ (fun v11 => ?_)
  ·intro L vs w1 hvs hat hb hI hF; try simp [factsI, Region.binds, Is] at hF
   have D := (HB.out.1.grow HB4.out).grow (show Below _ _ _ from hb); have cD := D.cell; have lD := D.lt; clear D
   go_simp
   first | exact Grows.refl _ | exact ⟨Grows.refl _, trivial⟩
  refine val_cons ?_ (fun v12 => ?_)
  ·intro L vs w1 hvs hat hb hI hF; try simp [factsI, Region.binds, Is] at hF
   have hb0 := hb
   go_simp
   refine (HKa.out _ (bel_trans HW.out (show Below _ _ _ from hb0))).mono ?_
   rintro e w2 ⟨rfl, hb2⟩
   first | exact ⟨rfl, hb2⟩ | exact ⟨_, rfl, hb2, trivial, rfl⟩
  refine val_cons ?_ (fun v13 => ?_)
  ·intro L vs w1 hvs hat hb hI hF; try simp [factsI, Region.binds, Is] at hF
   have D := (HB.out.2.1.grow HB4.out).grow (show Below _ _ _ from hb); have cD := D.cell; have lD := D.lt; clear D
   go_simp
   first | exact Grows.refl _ | exact ⟨Grows.refl _, trivial⟩
  refine val_cons ?_ (fun v14 => ?_)
  ·intro L vs w1 hvs hat hb hI hF; try simp [factsI, Region.binds, Is] at hF
   have hb0 := hb
   go_simp
   refine (HKb.out _ (bel_trans HW.out (show Below _ _ _ from hb0))).mono ?_
   rintro e w2 ⟨rfl, hb2⟩
   first | exact ⟨rfl, hb2⟩ | exact ⟨_, rfl, hb2, trivial, rfl⟩
  refine val_cons ?_ (fun v15 => ?_)
  ·intro L vs w1 hvs hat hb hI hF; try simp [factsI, Region.binds, Is] at hF
   have hKL := HKL.out
   go_simp
   first | exact Grows.refl _ | exact ⟨Grows.refl _, trivial⟩ | (rw [hKL]; exact ⟨Grows.refl _, trivial⟩) | simp [hKL, Grows.refl]
  refine val_cons ?_ (fun v16 => ?_)
  ·intro L vs w1 hvs hat hb hI hF; try simp [factsI, Region.binds, Is] at hF
   have hc := (Grows.cells hb).1
   clear hI
   go_simp
   try simp [upd]
   try first | exact Grows.refl _ | exact trivial | exact ⟨Grows.refl _, trivial⟩
  refine val_cons ?_ (fun v17 => ?_)
  ·intro L vs w1 hvs hat hb hI hF; try simp [factsI, Region.binds, Is] at hF
   have hc := (Grows.cells hb).1
   clear hI
   go_simp
   try simp [upd]
   try first | exact Grows.refl _ | exact trivial | exact ⟨Grows.refl _, trivial⟩
  refine val_cons ?_ (fun v18 => ?_)
  ·intro L vs w1 hvs hat hb hI hF; try simp [factsI, Region.binds, Is] at hF
   have hc := (Grows.cells hb).1
   clear hI
   go_simp
   try simp [upd]
   try first | exact Grows.refl _ | exact trivial | exact ⟨Grows.refl _, trivial⟩
  refine val_nil ?_
  intro vs w1 hvs hb hI hF
  simp [Is, Nat.forall_lt_succ_right] at hF
  simp only [Act.put, List.setIfInBounds_toArray, List.set_cons_succ, List.set_cons_zero, hF]
  clear hF
  have hbw := bel_trans HW.out (show Below wA.heap.size wA w1 from hb)
  have HF9 := Lib.hid hbw
  clear hbw hb hI hvs
  go_wp2_with fail
  go_ret
  exact ⟨rfl, HF9.out⟩
 ·obtain rfl : q = S := by simpa using hz1.symm
  clear hz1 HZ1 HZ2
  obtain ⟨wA, hwA⟩ : ∃ wA, wA = w4 := ⟨_, rfl⟩
  rw [← hwA] at HB4 ⊢
  clear hwA
  have HW := Lib.hid (bel_trans HB.out.2.2 HB4.out)
  have HKL := Lib.hid hz2
  clear hz2
  refine wp_region_val Grows (fun _ _ _ => True) [Is (.bool true), Is (.bool true), Is (.bool q), Is (.bool true), Is (.bool true), Is (.bool q), Is (.bool q), Is (.bool true), Is (.bool true), Is (.bool true), Is (.bool q), Is (solV a), Is (solV K), Is (solV b), Is (solV L), Is (.bool q), Is (.bool true), Is (.bool true), Is (.bool true)] (by kernel_rfl) (by kernel_rfl) rfl Grows.refl (fun _ _ _ => Grows.trans) (stable_mem ⟨fun _ _ _ h _ => h, fun _ _ _ h _ => h, fun _ _ _ h _ => h, fun _ _ _ h _ => h, fun _ _ _ h _ => h, fun _ _ _ h _ => h, fun _ _ _ h _ => h, fun _ _ _ h _ => h, fun _ _ _ h _ => h, fun _ _ _ h _ => h, fun _ _ _ h _ => h, fun _ _ _ h _ => h, fun _ _ _ h _ => h, fun _ _ _ h _ => h, fun _ _ _ h _ => h, fun _ _ _ h _ => h, fun _ _ _ h _ => h, fun _ _ _ h _ => h, fun _ _ _ h _ => h, trivial⟩) wA (Below.drew (Below.refl _ _)) trivial ?_
  refine val_cons ?_ (fun v0 => ?_)
  ·intro L vs w1 hvs hat hb hI hF; try simp [factsI, Region.binds, Is] at hF
   have hb0 := hb
   go_simp
   refine (HC.out _ (bel_trans HW.out (show Below _ _ _ from hb0))).mono ?_
   rintro e w2 ⟨rfl, hb2⟩
   first | exact ⟨rfl, hb2⟩ | exact ⟨_, rfl, hb2, trivial, rfl⟩
  refine val_cons ?_ (fun v1 => ?_)
  ·intro L vs w1 hvs hat hb hI hF; try simp [factsI, Region.binds, Is] at hF
   have hc := (Grows.cells hb).1
   clear hI
   go_simp
   try simp [upd]
   try first | exact Grows.refl _ | exact trivial | exact ⟨Grows.refl _, trivial⟩
  refine val_cons ?_ (fun v2 => ?_)
  ·intro L vs w1 hvs hat hb hI hF; try simp [factsI, Region.binds, Is] at hF
   have hc := (Grows.cells hb).1
   clear hI
   go_simp
   try simp [upd]
   try first | exact Grows.refl _ | exact trivial | exact ⟨Grows.refl _, trivial⟩
  refine val_cons ?_ (fun v3 => ?_)
  ·intro L vs w1 hvs hat hb hI hF; try simp [factsI, Region.binds, Is] at hF
   have hc := (Grows.cells hb).1
   clear hI
   go_simp
   try simp [upd]
   try first | exact Grows.refl _ | exact trivial | exact ⟨Grows.refl _, trivial⟩
  refine val_cons ?_ (fun v4 => ?_)
  ·intro L vs w1 hvs hat hb hI hF; try simp [factsI, Region.binds, Is] at hF
   have hc := (Grows.cells hb).1
   clear hI
   go_simp
   try simp [upd]
   try first | exact Grows.refl _ | exact trivial | exact ⟨Grows.refl _, trivial⟩
  refine val_cons ?_ (fun v5 => ?_)
  ·intro L vs w1 hvs hat hb hI hF; try simp [factsI, Region.binds, Is] at hF
   have hc := (Grows.cells hb).1
   clear hI
   go_simp
   try simp [upd]
   try first | exact Grows.refl _ | exact trivial | exact ⟨Grows.refl _, trivial⟩
  refine val_cons ?_ (fun v6 => ?_)
  ·intro L vs w1 hvs hat hb hI hF; try simp [factsI, Region.binds, Is] at hF
   have hc := (Grows.cells hb).1
   clear hI
   go_simp
   try simp [upd]
   try first | exact Grows.refl _ | exact trivial | exact ⟨Grows.refl _, trivial⟩
  refine val_cons ?_ (fun v7 => ?_)
  ·intro L vs w1 hvs hat hb hI hF; try simp [factsI, Region.binds, Is] at hF
   have hc := (Grows.cells hb).1
   clear hI
   go_simp
   try simp [upd]
   try first | exact Grows.refl _ | exact trivial | exact ⟨Grows.refl _, trivial⟩
  refine val_cons ?_ (fun v8 => ?_)
  ·intro L vs w1 hvs hat hb hI hF; try simp [factsI, Region.binds, Is] at hF
   have hc := (Grows.cells hb).1
   clear hI
   go_simp
   try simp [upd]
   try first | exact Grows.refl _ | exact trivial | exact ⟨Grows.refl _, trivial⟩
  refine val_cons ?_ (fun v9 => ?_)
  ·intro L vs w1 hvs hat hb hI hF; try simp [factsI, Region.binds, Is] at hF
   have hc := (Grows.cells hb).1
   clear hI
   go_simp
   try simp [upd]
   try first | exact Grows.refl _ | exact trivial | exact ⟨Grows.refl _, trivial⟩
  refine val_cons ?_ (fun v10 => ?_)
  ·intro L vs w1 hvs hat hb hI hF; try simp [factsI, Region.binds, Is] at hF
   have hc := (Grows.cells hb).1
   clear hI
   go_simp
   try simp [upd]
   try first | exact Grows.refl _ | exact trivial | exact ⟨Grows.refl _, trivial⟩
  refine val_cons ?_ (fun v11 => ?_)
  ·intro L vs w1 hvs hat hb hI hF; try simp [factsI, Region.binds, Is] at hF
   have D := (HB.out.1.grow HB4.out).grow (show Below _ _ _ from hb); have cD := D.cell; have lD := D.lt; clear D
   go_simp
   first | exact Grows.refl _ | exact ⟨Grows.refl _, trivial⟩
  refine val_cons ?_ (fun v12 => ?_)
  ·intro L vs w1 hvs hat hb hI hF; try simp [factsI, Region.binds, Is] at hF
   have hb0 := hb
   go_simp
   refine (HKa.out _ (bel_trans HW.out (show Below _ _ _ from hb0))).mono ?_
   rintro e w2 ⟨rfl, hb2⟩
   first | exact ⟨rfl, hb2⟩ | exact ⟨_, rfl, hb2, trivial, rfl⟩
  refine val_cons ?_ (fun v13 => ?_)
  ·intro L vs w1 hvs hat hb hI hF; try simp [factsI, Region.binds, Is] at hF
   have D := (HB.out.2.1.grow HB4.out).grow (show Below _ _ _ from hb); have cD := D.cell; have lD := D.lt; clear D
   go_simp
   first | exact Grows.refl _ | exact ⟨Grows.refl _, trivial⟩
  refine val_cons ?_ (fun v14 => ?_)
  ·intro L vs w1 hvs hat hb hI hF; try simp [factsI, Region.binds, Is] at hF
   have hb0 := hb
   go_simp
   refine (HKb.out _ (bel_trans HW.out (show Below _ _ _ from hb0))).mono ?_
   rintro e w2 ⟨rfl, hb2⟩
   first | exact ⟨rfl, hb2⟩ | exact ⟨_, rfl, hb2, trivial, rfl⟩
  refine val_cons ?_ (fun v15 => ?_)
  ·intro L vs w1 hvs hat hb hI hF; try simp [factsI, Region.binds, Is] at hF
   have hKL := HKL.out
   go_simp
   first | exact Grows.refl _ | exact ⟨Grows.refl _, trivial⟩ | (rw [hKL]; exact ⟨Grows.refl _, trivial⟩) | simp [hKL, Grows.refl]
  refine val_cons ?_ (fun v16 => ?_)
  ·intro L vs w1 hvs hat hb hI hF; try simp [factsI, Region.binds, Is] at hF
   have hc := (Grows.cells hb).1
   clear hI
   go_simp
   try simp [upd]
   try first | exact Grows.refl _ | exact trivial | exact ⟨Grows.refl _, trivial⟩
  refine val_cons ?_ (fun v17 => ?_)
  ·intro L vs w1 hvs hat hb hI hF; try simp [factsI, Region.binds, Is] at hF
   have hc := (Grows.cells hb).1
   clear hI
   go_simp
   try simp [upd]
   try first | exact Grows.refl _ | exact trivial | exact ⟨Grows.refl _, trivial⟩
  refine val_cons ?_ (fun v18 => ?_)
  ·intro L vs w1 hvs hat hb hI hF; try simp [factsI, Region.binds, Is] at hF
   have hc := (Grows.cells hb).1
   clear hI
   go_simp
   try simp [upd]
   try first | exact Grows.refl _ | exact trivial | exact ⟨Grows.refl _, trivial⟩
  refine val_nil ?_
  intro vs w1 hvs hb hI hF
  simp [Is, Nat.forall_lt_succ_right] at hF
  simp only [Act.put, List.setIfInBounds_toArray, List.set_cons_succ, List.set_cons_zero, hF]
  clear hF
  have hbw := bel_trans HW.out (show Below wA.heap.size wA w1 from hb)
  have HF9 := Lib.hid hbw
  clear hbw hb hI hvs
  go_wp2_with fail
  go_ret
  exact ⟨rfl, HF9.out⟩
end Go.Proofs.YtkfimbonmnoglaaGreatDoor
end
