import Derived.Test.YtkfimbonmnoglaaGreatDoorRPlaced32
import Derived.Deep.Cut
import Derived.Laws.AppendOwn
/-
  Given contracts of functions of the program, and laws for them, one behind the other.
-/
set_option linter.unusedVariables false
set_option linter.unusedSimpArgs false
set_option linter.unusedSectionVars false
section
namespace Go.Proofs.YtkfimbonmnoglaaGreatDoor
open Go.RowKit Go.Rel Go.Draw Go.Solid
set_option maxRecDepth 100000
attribute [local go_sem] Oper.semAt_some
theorem cmpS_lt {a b : Sol} (h : rank a < rank b) : cmpS a b = -1 := if_pos h
theorem chk_found (a : Sol) {b : Sol} (hb : b ≠ 0) (tt : Int) (d : Cl) : chkM a b tt d = foundQ (decide ((placedM b tt d).2 = 0)) (placesP a b) (placedM b tt d).1 (placesP a b).length := by
 rw [foundQ_end]
 exact fit_is_place hb tt d
theorem fit_chk {a b : Sol} (hb : b ≠ 0) (h : (fitsMo a b).2 = true) : chkM a b (fitsMo a b).1.1 (fitsMo a b).1.2 = true := by
 rw [fitsMo_eq a b hb] at h ⊢
 cases hh : (fitsL a b).head? with
 | none => rw [hh] at h; cases h
 | some y =>
  have hm : y ∈ fitsL a b := by
   cases hl : fitsL a b with
   | nil => rw [hl] at hh; cases hh
   | cons z l => rw [hl] at hh; cases hh; exact List.mem_cons_self
  obtain ⟨⟨tt, d⟩, Q⟩ := y
  obtain ⟨hf, _⟩ := (mem_fits hb).1 hm
  obtain ⟨p, h1, h2⟩ := (placed_fits (a := a) hb (t := (tt : Int)) (d := d)).2 ⟨by omega, by rw [Int.toNat_natCast]; exact hf⟩
  show chkM a b (tt : Int) d = true
  unfold chkM
  rw [h1]
  simp [h2]
theorem placed_is (a b : Sol) (hb : b ≠ 0) : (fitsMo a b).2 = decide (0 < (placesP a b).length) := by rw [fitsMo_fit, fit_some_place hb]
theorem plL_ne {a b : Sol} (hb : b ≠ 0) : plL a b = placesP a b := if_neg hb
theorem plE_ne {b : Sol} (hb : b ≠ 0) : plE b = 0 := if_neg hb
theorem plE_eq {b : Sol} (hb : b = 0) : plE b = 1 := if_pos hb
theorem fits_zero_is (a : Sol) {b : Sol} (hb : b = 0) : (fitsMo a b).2 = true := by rw [fitsMo_fit]; exact fitS_iff.2 (.inl hb)
theorem sin_sub (x a : Sol) (W : World) : Calls Tryz.prog 59 #[solV x, solV a] W fun e w' => e = .returned (.bool (subS x a)) ∧ Below W.heap.size W w' := sin_spec x a W
theorem foundQ_no (L : List Sol) (P : Sol) (i : Nat) : foundQ false L P i = false := rfl
attribute [local irreducible] plL plE placesP chkM fitsMo placedM foundQ subS countS rank
set_option maxHeartbeats 16000000 in
theorem SolidPlaced_no (a b : Sol) (tt : Int) (d : Cl) (hq : ¬ (placedM b tt d).2 = 0) (w : World) (hT : Tab w) (hC : ∀ W, Below w.heap.size w W → Calls Tryz.prog 25 #[] W fun e w' => e = .returned (.bool true) ∧ Below W.heap.size W w') :
  Calls Tryz.prog 16 #[solV a, solV b, motV tt d] w fun e w' => e = .returned (.bool true) ∧ Below w.heap.size w w' := by
 have HT := Lib.hid (fun W (hb : Below w.heap.size w W) => hT.grow hb)
 have HC := Lib.hid hC
 clear hT hC
 have HNb := Lib.hid fun W (hb : Below w.heap.size w W) => refCount_spec b W
 have HH := Lib.hid fun W (hb : Below w.heap.size w W) => heavy_spec a b W
 have HFi := Lib.hid fun W (hb : Below w.heap.size w W) => fits_n a b W (HT.out W hb)
 have HPl := Lib.hid fun W (hb : Below w.heap.size w W) => places_n a b W (HT.out W hb)
 have HCk := Lib.hid fun W (hb : Below w.heap.size w W) => checkFit_n a b tt d W (HT.out W hb)
 have HPd := Lib.hid fun W (hb : Below w.heap.size w W) => placed_n b tt d W (HT.out W hb)
 have HCx := Lib.hid fun W (hb : Below w.heap.size w W) => checkFit_n a b (fitsMo a b).1.1 (fitsMo a b).1.2 W (HT.out W hb)
 have HIn := Lib.hid fun x W => sin_sub x a W
 have HCo := Lib.hid fun x W => count_spec x W
 have HCm := Lib.hid fun x y W => refCompare_spec x y W
 obtain ⟨⟨⟨ft, fd⟩, is⟩, hfm⟩ : ∃ x, x = fitsMo a b := ⟨_, rfl⟩
 have hISd : b ≠ 0 → is = decide (0 < (placesP a b).length) := fun hb => by rw [← placed_is a b hb, ← hfm]
 have hISz : b = 0 → is = true := fun hb => by rw [← fits_zero_is a hb, ← hfm]
 have hIC : b ≠ 0 → is = true → chkM a b ft fd = true := fun hb hi => by
  have h := fit_chk (a := a) hb (by rw [← hfm]; exact hi)
  rw [← hfm] at h; exact h
 rw [← hfm] at HFi HCx
 have hCF : b ≠ 0 → chkM a b tt d = foundQ (decide ((placedM b tt d).2 = 0)) (placesP a b) (placedM b tt d).1 (placesP a b).length := fun hb => chk_found a hb tt d
 obtain ⟨⟨P, e2⟩, hpd⟩ : ∃ x, x = placedM b tt d := ⟨_, rfl⟩
 rw [← hpd] at HPd hCF hq
 have HQE := Lib.hid hq
 clear hq
 have hIP : b ≠ 0 → ∀ x, x ∈ placesP a b → subS x a = true ∧ countS x = countS b := fun hb x hx => place_is hb hx
 have hAs : ∀ (i : Nat) x y, (placesP a b)[i]? = some x → (placesP a b)[i + 1]? = some y → rank x < rank y := fun i x y hx hy => places_asc a b hx hy
 have hll := plL_len a b
 obtain ⟨nb, hnb⟩ : ∃ x, x = countS b := ⟨_, rfl⟩
 rw [← hnb] at HNb hIP
 obtain ⟨ck, hck⟩ : ∃ x, x = chkM a b tt d := ⟨_, rfl⟩
 rw [← hck] at HCk hCF
 obtain ⟨cx, hcx⟩ : ∃ x, x = chkM a b ft fd := ⟨_, rfl⟩
 rw [← hcx] at HCx hIC
 clear hfm hpd hnb hck hcx
 by_cases hb0 : b = 0
 ·have hIS := hISz hb0
  subst hIS
  rw [plE_eq hb0] at HPl
  have hz : (b == 0#512) = true := beq_iff_eq.2 hb0
  clear hISd hISz hIC hCF hIP hAs hll hb0 HCk HPd HCx HIn HCo HCm
  go_enter Tryz.func16, Tryz.ntmps16
  go_wp2_with fail
  obtain ⟨wS0, hwS⟩ : ∃ x, x = ((w.alloc (.cells #[.int .u64 (pl a 0), .int .u64 (pl a 1), .int .u64 (pl a 2), .int .u64 (pl a 3), .int .u64 (pl a 4), .int .u64 (pl a 5), .int .u64 (pl a 6), .int .u64 (pl a 7)] 26)).alloc (.cells #[.int .u64 (pl b 0), .int .u64 (pl b 1), .int .u64 (pl b 2), .int .u64 (pl b 3), .int .u64 (pl b 4), .int .u64 (pl b 5), .int .u64 (pl b 6), .int .u64 (pl b 7)] 26)).alloc (.cells #[.int .i64 tt, .int .i64 d.1, .int .i64 d.2.1, .int .i64 d.2.2] 23) := ⟨_, rfl⟩
  have HS0 : Hid (Blk wS0 (w.heap.size) #[.int .u64 (pl a 0), .int .u64 (pl a 1), .int .u64 (pl a 2), .int .u64 (pl a 3), .int .u64 (pl a 4), .int .u64 (pl a 5), .int .u64 (pl a 6), .int .u64 (pl a 7)] 26 ∧ Blk wS0 (w.heap.size + 1) #[.int .u64 (pl b 0), .int .u64 (pl b 1), .int .u64 (pl b 2), .int .u64 (pl b 3), .int .u64 (pl b 4), .int .u64 (pl b 5), .int .u64 (pl b 6), .int .u64 (pl b 7)] 26 ∧ Blk wS0 (w.heap.size + 1 + 1) #[.int .i64 tt, .int .i64 d.1, .int .i64 d.2.1, .int .i64 d.2.2] 23 ∧ Below w.heap.size w wS0) := Lib.hid (by rw [hwS]; exact ⟨(by repeat (first | with_reducible assumption | (refine Blk.at _ _ ?_; (simp; done)) | with_reducible refine Blk.alloc ?_ _ | with_reducible refine Blk.drew ?_ | with_reducible refine Blk.rowS ?_ _ | with_reducible refine Blk.rowO ?_ _ (by simp))), (by repeat (first | with_reducible assumption | (refine Blk.at _ _ ?_; (simp; done)) | with_reducible refine Blk.alloc ?_ _ | with_reducible refine Blk.drew ?_ | with_reducible refine Blk.rowS ?_ _ | with_reducible refine Blk.rowO ?_ _ (by simp))), Blk.at _ _ (by simp), (by repeat (first | with_reducible exact bel_refl _ | with_reducible assumption | with_reducible refine bel_drewN ?_ _ | with_reducible refine bel_drew ?_ | with_reducible refine bel_alloc ?_ _ | with_reducible refine bel_row ?_ ?_ _ | with_reducible refine bel_set ?_ ?_ _ | refine bel_trans ?_ (by with_reducible assumption) | (simp; done) | (simp; omega)))⟩)
  have HO0 : Hid True := Lib.hid trivial
  rw [← hwS]
  clear hwS
  refine (HNb.out _ HS0.out.2.2.2).mono ?_
  rintro e1 w1 ⟨rfl, hb⟩
  have HS1 : Hid (Blk w1 (w.heap.size) #[.int .u64 (pl a 0), .int .u64 (pl a 1), .int .u64 (pl a 2), .int .u64 (pl a 3), .int .u64 (pl a 4), .int .u64 (pl a 5), .int .u64 (pl a 6), .int .u64 (pl a 7)] 26 ∧ Blk w1 (w.heap.size + 1) #[.int .u64 (pl b 0), .int .u64 (pl b 1), .int .u64 (pl b 2), .int .u64 (pl b 3), .int .u64 (pl b 4), .int .u64 (pl b 5), .int .u64 (pl b 6), .int .u64 (pl b 7)] 26 ∧ Blk w1 (w.heap.size + 1 + 1) #[.int .i64 tt, .int .i64 d.1, .int .i64 d.2.1, .int .i64 d.2.2] 23 ∧ Below w.heap.size w w1) := Lib.hid ⟨HS0.out.1.grow hb, HS0.out.2.1.grow hb, HS0.out.2.2.1.grow hb, bel_trans HS0.out.2.2.2 hb⟩
  clear hb HS0
  have c0 := HS1.out.1.cell; have l0 := HS1.out.1.lt
  have c1 := HS1.out.2.1.cell; have l1 := HS1.out.2.1.lt
  go_wp2_with fail
  clear c0 l0 c1 l1
  refine (HH.out _ HS1.out.2.2.2).mono ?_
  rintro e1 w2 ⟨⟨q, rfl⟩, hb⟩
  have HS2 : Hid (Blk w2 (w.heap.size) #[.int .u64 (pl a 0), .int .u64 (pl a 1), .int .u64 (pl a 2), .int .u64 (pl a 3), .int .u64 (pl a 4), .int .u64 (pl a 5), .int .u64 (pl a 6), .int .u64 (pl a 7)] 26 ∧ Blk w2 (w.heap.size + 1) #[.int .u64 (pl b 0), .int .u64 (pl b 1), .int .u64 (pl b 2), .int .u64 (pl b 3), .int .u64 (pl b 4), .int .u64 (pl b 5), .int .u64 (pl b 6), .int .u64 (pl b 7)] 26 ∧ Blk w2 (w.heap.size + 1 + 1) #[.int .i64 tt, .int .i64 d.1, .int .i64 d.2.1, .int .i64 d.2.2] 23 ∧ Below w.heap.size w w2) := Lib.hid ⟨HS1.out.1.grow hb, HS1.out.2.1.grow hb, HS1.out.2.2.1.grow hb, bel_trans HS1.out.2.2.2 hb⟩
  clear hb HS1
  cases q with
  | true =>
   go_wp2_with fail
   refine (HC.out _ HS2.out.2.2.2).mono ?_
   rintro e1 w90 ⟨rfl, hb⟩
   have HE90 := Lib.hid (bel_trans HS2.out.2.2.2 hb)
   clear hb
   go_wp2_with fail
   go_ret
   exact ⟨rfl, HE90.out⟩
  | false =>
   have c0 := HS2.out.1.cell; have l0 := HS2.out.1.lt
   have c1 := HS2.out.2.1.cell; have l1 := HS2.out.2.1.lt
   go_wp2_with fail
   clear c0 l0 c1 l1
   refine (HFi.out _ HS2.out.2.2.2).mono ?_
   rintro e1 wX1 ⟨rfl, hb⟩
   obtain ⟨wS1, hwS⟩ : ∃ x, x = wX1.alloc (.cells #[.int .i64 ft, .int .i64 fd.1, .int .i64 fd.2.1, .int .i64 fd.2.2] 23) := ⟨_, rfl⟩
   obtain ⟨gN1, hgN⟩ : ∃ x, x = wX1.heap.size := ⟨_, rfl⟩
   have HS1 : Hid (Blk wS1 (w.heap.size) #[.int .u64 (pl a 0), .int .u64 (pl a 1), .int .u64 (pl a 2), .int .u64 (pl a 3), .int .u64 (pl a 4), .int .u64 (pl a 5), .int .u64 (pl a 6), .int .u64 (pl a 7)] 26 ∧ Blk wS1 (w.heap.size + 1) #[.int .u64 (pl b 0), .int .u64 (pl b 1), .int .u64 (pl b 2), .int .u64 (pl b 3), .int .u64 (pl b 4), .int .u64 (pl b 5), .int .u64 (pl b 6), .int .u64 (pl b 7)] 26 ∧ Blk wS1 (w.heap.size + 1 + 1) #[.int .i64 tt, .int .i64 d.1, .int .i64 d.2.1, .int .i64 d.2.2] 23 ∧ Blk wS1 (gN1) #[.int .i64 ft, .int .i64 fd.1, .int .i64 fd.2.1, .int .i64 fd.2.2] 23 ∧ Below w.heap.size w wS1) := Lib.hid (by
    rw [hwS, hgN]
    exact ⟨(HS2.out.1.grow hb).alloc _, (HS2.out.2.1.grow hb).alloc _, (HS2.out.2.2.1.grow hb).alloc _, Blk.new _ _ _, bel_alloc (bel_trans HS2.out.2.2.2 hb) _⟩)
   have HO1 := Lib.hid (And.intro HO0.out (show w.heap.size + 1 + 1 < gN1 by rw [hgN]; exact (HS2.out.2.2.1.grow hb).lt))
   go_upto_region 5 with fail
   rw [← hwS, ← hgN]
   clear hwS hgN hb HS2
   have c0 := HS1.out.1.cell; have l0 := HS1.out.1.lt
   have c1 := HS1.out.2.1.cell; have l1 := HS1.out.2.1.lt
   go_wp2_with fail
   clear c0 l0 c1 l1
   refine (HPl.out _ HS1.out.2.2.2.2).mono ?_
   rintro e1 w5 ⟨u, rfl, hs, hb⟩
   obtain ⟨pu, cu, rfl, hsu⟩ := SlS.opened hs
   have HS5 : Hid (Blk w5 (w.heap.size) #[.int .u64 (pl a 0), .int .u64 (pl a 1), .int .u64 (pl a 2), .int .u64 (pl a 3), .int .u64 (pl a 4), .int .u64 (pl a 5), .int .u64 (pl a 6), .int .u64 (pl a 7)] 26 ∧ Blk w5 (w.heap.size + 1) #[.int .u64 (pl b 0), .int .u64 (pl b 1), .int .u64 (pl b 2), .int .u64 (pl b 3), .int .u64 (pl b 4), .int .u64 (pl b 5), .int .u64 (pl b 6), .int .u64 (pl b 7)] 26 ∧ Blk w5 (w.heap.size + 1 + 1) #[.int .i64 tt, .int .i64 d.1, .int .i64 d.2.1, .int .i64 d.2.2] 23 ∧ Blk w5 (gN1) #[.int .i64 ft, .int .i64 fd.1, .int .i64 fd.2.1, .int .i64 fd.2.2] 23 ∧ Below w.heap.size w w5) := Lib.hid ⟨HS1.out.1.grow hb, HS1.out.2.1.grow hb, HS1.out.2.2.1.grow hb, HS1.out.2.2.2.1.grow hb, bel_trans HS1.out.2.2.2.2 hb⟩
   have HSL := Lib.hid hsu
   clear hb hs hsu HS1
   go_wp2_with fail
   refine (HC.out _ HS5.out.2.2.2.2).mono ?_
   rintro e1 w6 ⟨rfl, hb⟩
   have HE6 := Lib.hid (bel_trans HS5.out.2.2.2.2 hb)
   have cb := (HS5.out.2.1.grow hb).cell; have lb := (HS5.out.2.1.grow hb).lt
   clear hb
   go_wp2_with fail
   go_ret
   exact ⟨ret_bool (by simp), HE6.out⟩
 ·have hIS := hISd hb0
  have hCK := hCF hb0
  have hI1 := hIP hb0
  have hI2 := hIC hb0
  rw [plE_ne hb0, plL_ne hb0] at HPl
  rw [plL_ne hb0] at hll
  obtain ⟨L, hL⟩ : ∃ L, L = placesP a b := ⟨_, rfl⟩
  rw [← hL] at HPl hIS hCK hI1 hAs hll
  obtain ⟨n, hn⟩ : ∃ n, n = L.length := ⟨_, rfl⟩
  rw [← hn] at hIS hCK hll
  have HL := Lib.hid (And.intro hI1 hAs)
  have HN := Lib.hid hn
  have HIS := Lib.hid hIS
  have HCK := Lib.hid hCK
  have HI2 := Lib.hid hI2
  have HLL := Lib.hid hll
  clear hISd hISz hIC hCF hIP hAs hll hb0 hIS hCK hI1 hI2 hL hn
  go_enter Tryz.func16, Tryz.ntmps16
  go_wp2_with fail
  obtain ⟨wS0, hwS⟩ : ∃ x, x = ((w.alloc (.cells #[.int .u64 (pl a 0), .int .u64 (pl a 1), .int .u64 (pl a 2), .int .u64 (pl a 3), .int .u64 (pl a 4), .int .u64 (pl a 5), .int .u64 (pl a 6), .int .u64 (pl a 7)] 26)).alloc (.cells #[.int .u64 (pl b 0), .int .u64 (pl b 1), .int .u64 (pl b 2), .int .u64 (pl b 3), .int .u64 (pl b 4), .int .u64 (pl b 5), .int .u64 (pl b 6), .int .u64 (pl b 7)] 26)).alloc (.cells #[.int .i64 tt, .int .i64 d.1, .int .i64 d.2.1, .int .i64 d.2.2] 23) := ⟨_, rfl⟩
  have HS0 : Hid (Blk wS0 (w.heap.size) #[.int .u64 (pl a 0), .int .u64 (pl a 1), .int .u64 (pl a 2), .int .u64 (pl a 3), .int .u64 (pl a 4), .int .u64 (pl a 5), .int .u64 (pl a 6), .int .u64 (pl a 7)] 26 ∧ Blk wS0 (w.heap.size + 1) #[.int .u64 (pl b 0), .int .u64 (pl b 1), .int .u64 (pl b 2), .int .u64 (pl b 3), .int .u64 (pl b 4), .int .u64 (pl b 5), .int .u64 (pl b 6), .int .u64 (pl b 7)] 26 ∧ Blk wS0 (w.heap.size + 1 + 1) #[.int .i64 tt, .int .i64 d.1, .int .i64 d.2.1, .int .i64 d.2.2] 23 ∧ Below w.heap.size w wS0) := Lib.hid (by rw [hwS]; exact ⟨(by repeat (first | with_reducible assumption | (refine Blk.at _ _ ?_; (simp; done)) | with_reducible refine Blk.alloc ?_ _ | with_reducible refine Blk.drew ?_ | with_reducible refine Blk.rowS ?_ _ | with_reducible refine Blk.rowO ?_ _ (by simp))), (by repeat (first | with_reducible assumption | (refine Blk.at _ _ ?_; (simp; done)) | with_reducible refine Blk.alloc ?_ _ | with_reducible refine Blk.drew ?_ | with_reducible refine Blk.rowS ?_ _ | with_reducible refine Blk.rowO ?_ _ (by simp))), Blk.at _ _ (by simp), (by repeat (first | with_reducible exact bel_refl _ | with_reducible assumption | with_reducible refine bel_drewN ?_ _ | with_reducible refine bel_drew ?_ | with_reducible refine bel_alloc ?_ _ | with_reducible refine bel_row ?_ ?_ _ | with_reducible refine bel_set ?_ ?_ _ | refine bel_trans ?_ (by with_reducible assumption) | (simp; done) | (simp; omega)))⟩)
  have HO0 : Hid True := Lib.hid trivial
  rw [← hwS]
  clear hwS
  refine (HNb.out _ HS0.out.2.2.2).mono ?_
  rintro e1 w1 ⟨rfl, hb⟩
  have HS1 : Hid (Blk w1 (w.heap.size) #[.int .u64 (pl a 0), .int .u64 (pl a 1), .int .u64 (pl a 2), .int .u64 (pl a 3), .int .u64 (pl a 4), .int .u64 (pl a 5), .int .u64 (pl a 6), .int .u64 (pl a 7)] 26 ∧ Blk w1 (w.heap.size + 1) #[.int .u64 (pl b 0), .int .u64 (pl b 1), .int .u64 (pl b 2), .int .u64 (pl b 3), .int .u64 (pl b 4), .int .u64 (pl b 5), .int .u64 (pl b 6), .int .u64 (pl b 7)] 26 ∧ Blk w1 (w.heap.size + 1 + 1) #[.int .i64 tt, .int .i64 d.1, .int .i64 d.2.1, .int .i64 d.2.2] 23 ∧ Below w.heap.size w w1) := Lib.hid ⟨HS0.out.1.grow hb, HS0.out.2.1.grow hb, HS0.out.2.2.1.grow hb, bel_trans HS0.out.2.2.2 hb⟩
  clear hb HS0
  have c0 := HS1.out.1.cell; have l0 := HS1.out.1.lt
  have c1 := HS1.out.2.1.cell; have l1 := HS1.out.2.1.lt
  go_wp2_with fail
  clear c0 l0 c1 l1
  refine (HH.out _ HS1.out.2.2.2).mono ?_
  rintro e1 w2 ⟨⟨q, rfl⟩, hb⟩
  have HS2 : Hid (Blk w2 (w.heap.size) #[.int .u64 (pl a 0), .int .u64 (pl a 1), .int .u64 (pl a 2), .int .u64 (pl a 3), .int .u64 (pl a 4), .int .u64 (pl a 5), .int .u64 (pl a 6), .int .u64 (pl a 7)] 26 ∧ Blk w2 (w.heap.size + 1) #[.int .u64 (pl b 0), .int .u64 (pl b 1), .int .u64 (pl b 2), .int .u64 (pl b 3), .int .u64 (pl b 4), .int .u64 (pl b 5), .int .u64 (pl b 6), .int .u64 (pl b 7)] 26 ∧ Blk w2 (w.heap.size + 1 + 1) #[.int .i64 tt, .int .i64 d.1, .int .i64 d.2.1, .int .i64 d.2.2] 23 ∧ Below w.heap.size w w2) := Lib.hid ⟨HS1.out.1.grow hb, HS1.out.2.1.grow hb, HS1.out.2.2.1.grow hb, bel_trans HS1.out.2.2.2 hb⟩
  clear hb HS1
  cases q with
  | true =>
   go_wp2_with fail
   refine (HC.out _ HS2.out.2.2.2).mono ?_
   rintro e1 w90 ⟨rfl, hb⟩
   have HE90 := Lib.hid (bel_trans HS2.out.2.2.2 hb)
   clear hb
   go_wp2_with fail
   go_ret
   exact ⟨rfl, HE90.out⟩
  | false =>
   have c0 := HS2.out.1.cell; have l0 := HS2.out.1.lt
   have c1 := HS2.out.2.1.cell; have l1 := HS2.out.2.1.lt
   go_wp2_with fail
   clear c0 l0 c1 l1
   refine (HFi.out _ HS2.out.2.2.2).mono ?_
   rintro e1 wX1 ⟨rfl, hb⟩
   obtain ⟨wS1, hwS⟩ : ∃ x, x = wX1.alloc (.cells #[.int .i64 ft, .int .i64 fd.1, .int .i64 fd.2.1, .int .i64 fd.2.2] 23) := ⟨_, rfl⟩
   obtain ⟨gN1, hgN⟩ : ∃ x, x = wX1.heap.size := ⟨_, rfl⟩
   have HS1 : Hid (Blk wS1 (w.heap.size) #[.int .u64 (pl a 0), .int .u64 (pl a 1), .int .u64 (pl a 2), .int .u64 (pl a 3), .int .u64 (pl a 4), .int .u64 (pl a 5), .int .u64 (pl a 6), .int .u64 (pl a 7)] 26 ∧ Blk wS1 (w.heap.size + 1) #[.int .u64 (pl b 0), .int .u64 (pl b 1), .int .u64 (pl b 2), .int .u64 (pl b 3), .int .u64 (pl b 4), .int .u64 (pl b 5), .int .u64 (pl b 6), .int .u64 (pl b 7)] 26 ∧ Blk wS1 (w.heap.size + 1 + 1) #[.int .i64 tt, .int .i64 d.1, .int .i64 d.2.1, .int .i64 d.2.2] 23 ∧ Blk wS1 (gN1) #[.int .i64 ft, .int .i64 fd.1, .int .i64 fd.2.1, .int .i64 fd.2.2] 23 ∧ Below w.heap.size w wS1) := Lib.hid (by
    rw [hwS, hgN]
    exact ⟨(HS2.out.1.grow hb).alloc _, (HS2.out.2.1.grow hb).alloc _, (HS2.out.2.2.1.grow hb).alloc _, Blk.new _ _ _, bel_alloc (bel_trans HS2.out.2.2.2 hb) _⟩)
   have HO1 := Lib.hid (And.intro HO0.out (show w.heap.size + 1 + 1 < gN1 by rw [hgN]; exact (HS2.out.2.2.1.grow hb).lt))
   go_upto_region 5 with fail
   rw [← hwS, ← hgN]
   clear hwS hgN hb HS2
   have c0 := HS1.out.1.cell; have l0 := HS1.out.1.lt
   have c1 := HS1.out.2.1.cell; have l1 := HS1.out.2.1.lt
   go_wp2_with fail
   clear c0 l0 c1 l1
   refine (HPl.out _ HS1.out.2.2.2.2).mono ?_
   rintro e1 w5 ⟨u, rfl, hs, hb⟩
   obtain ⟨pu, cu, rfl, hsu⟩ := SlS.opened hs
   have HS5 : Hid (Blk w5 (w.heap.size) #[.int .u64 (pl a 0), .int .u64 (pl a 1), .int .u64 (pl a 2), .int .u64 (pl a 3), .int .u64 (pl a 4), .int .u64 (pl a 5), .int .u64 (pl a 6), .int .u64 (pl a 7)] 26 ∧ Blk w5 (w.heap.size + 1) #[.int .u64 (pl b 0), .int .u64 (pl b 1), .int .u64 (pl b 2), .int .u64 (pl b 3), .int .u64 (pl b 4), .int .u64 (pl b 5), .int .u64 (pl b 6), .int .u64 (pl b 7)] 26 ∧ Blk w5 (w.heap.size + 1 + 1) #[.int .i64 tt, .int .i64 d.1, .int .i64 d.2.1, .int .i64 d.2.2] 23 ∧ Blk w5 (gN1) #[.int .i64 ft, .int .i64 fd.1, .int .i64 fd.2.1, .int .i64 fd.2.2] 23 ∧ Below w.heap.size w w5) := Lib.hid ⟨HS1.out.1.grow hb, HS1.out.2.1.grow hb, HS1.out.2.2.1.grow hb, HS1.out.2.2.2.1.grow hb, bel_trans HS1.out.2.2.2.2 hb⟩
   have HSL := Lib.hid hsu
   clear hb hs hsu HS1
   rw [← HN.out]
   have c0 := HS5.out.1.cell; have l0 := HS5.out.1.lt
   have c1 := HS5.out.2.1.cell; have l1 := HS5.out.2.1.lt
   have c2 := HS5.out.2.2.1.cell; have l2 := HS5.out.2.2.1.lt
   go_wp2_with fail
   clear c0 l0 c1 l1 c2 l2
   refine (HCk.out _ HS5.out.2.2.2.2).mono ?_
   rintro e1 w6 ⟨rfl, hb⟩
   have HS6 : Hid (Blk w6 (w.heap.size) #[.int .u64 (pl a 0), .int .u64 (pl a 1), .int .u64 (pl a 2), .int .u64 (pl a 3), .int .u64 (pl a 4), .int .u64 (pl a 5), .int .u64 (pl a 6), .int .u64 (pl a 7)] 26 ∧ Blk w6 (w.heap.size + 1) #[.int .u64 (pl b 0), .int .u64 (pl b 1), .int .u64 (pl b 2), .int .u64 (pl b 3), .int .u64 (pl b 4), .int .u64 (pl b 5), .int .u64 (pl b 6), .int .u64 (pl b 7)] 26 ∧ Blk w6 (w.heap.size + 1 + 1) #[.int .i64 tt, .int .i64 d.1, .int .i64 d.2.1, .int .i64 d.2.2] 23 ∧ Blk w6 (gN1) #[.int .i64 ft, .int .i64 fd.1, .int .i64 fd.2.1, .int .i64 fd.2.2] 23 ∧ Below w.heap.size w w6) := Lib.hid ⟨HS5.out.1.grow hb, HS5.out.2.1.grow hb, HS5.out.2.2.1.grow hb, HS5.out.2.2.2.1.grow hb, bel_trans HS5.out.2.2.2.2 hb⟩
   have HSL6 := Lib.hid (HSL.out.mono hb)
   clear hb HS5 HSL
   have c1 := HS6.out.2.1.cell; have l1 := HS6.out.2.1.lt
   have c2 := HS6.out.2.2.1.cell; have l2 := HS6.out.2.2.1.lt
   go_wp2_with fail
   clear c1 l1 c2 l2
   refine (HPd.out _ HS6.out.2.2.2.2).mono ?_
   rintro e1 w7 ⟨rfl, hb⟩
   obtain ⟨wM, hwS⟩ : ∃ x, x = w7.alloc (.cells #[.int .u64 (pl P 0), .int .u64 (pl P 1), .int .u64 (pl P 2), .int .u64 (pl P 3), .int .u64 (pl P 4), .int .u64 (pl P 5), .int .u64 (pl P 6), .int .u64 (pl P 7)] 26) := ⟨_, rfl⟩
   obtain ⟨gP, hgN⟩ : ∃ x, x = w7.heap.size := ⟨_, rfl⟩
   have HSM : Hid (Blk wM (w.heap.size) #[.int .u64 (pl a 0), .int .u64 (pl a 1), .int .u64 (pl a 2), .int .u64 (pl a 3), .int .u64 (pl a 4), .int .u64 (pl a 5), .int .u64 (pl a 6), .int .u64 (pl a 7)] 26 ∧ Blk wM (w.heap.size + 1) #[.int .u64 (pl b 0), .int .u64 (pl b 1), .int .u64 (pl b 2), .int .u64 (pl b 3), .int .u64 (pl b 4), .int .u64 (pl b 5), .int .u64 (pl b 6), .int .u64 (pl b 7)] 26 ∧ Blk wM (w.heap.size + 1 + 1) #[.int .i64 tt, .int .i64 d.1, .int .i64 d.2.1, .int .i64 d.2.2] 23 ∧ Blk wM (gN1) #[.int .i64 ft, .int .i64 fd.1, .int .i64 fd.2.1, .int .i64 fd.2.2] 23 ∧ Blk wM (gP) #[.int .u64 (pl P 0), .int .u64 (pl P 1), .int .u64 (pl P 2), .int .u64 (pl P 3), .int .u64 (pl P 4), .int .u64 (pl P 5), .int .u64 (pl P 6), .int .u64 (pl P 7)] 26 ∧ Below w.heap.size w wM) := Lib.hid (by
    rw [hwS, hgN]
    exact ⟨(HS6.out.1.grow hb).alloc _, (HS6.out.2.1.grow hb).alloc _, (HS6.out.2.2.1.grow hb).alloc _, (HS6.out.2.2.2.1.grow hb).alloc _, Blk.new _ _ _, bel_alloc (bel_trans HS6.out.2.2.2.2 hb) _⟩)
   have HSL7 : Hid (SlO wM pu L) := Lib.hid (by
    rw [hwS]
    exact (HSL6.out.mono hb).mono (bel_alloc (bel_refl _) _))
   go_upto_region 10 with fail
   rw [← hwS, ← hgN]
   clear hwS hgN hb HS6 HSL6
   go_wp2_with fail
   have hck2 := HCK.out
   by_cases he : e2 = 0
   ·exact absurd he HQE.out
   ·have HCK2 : Hid (ck = foundQ false L P n) := Lib.hid (by rw [hck2]; simp [he])
    clear hck2
    have he0 := he
    go_loopw [15, 16] (fun fv iv wx => ∃ i : Nat, i ≤ n ∧ iv = .int .i64 i ∧ fv = .bool (foundQ false L P i) ∧ Hid (Below wM.heap.size wM wx)) (fun _ iv _ => n - (intOf iv).toNat)
    case atStart => exact ⟨0, by omega, rfl, by rw [foundQ_zero], Lib.hid (Below.refl _ _)⟩
    case round =>
     obtain ⟨i, hi, rfl, rfl, HI⟩ := hrel
     obtain ⟨wB, hwB⟩ : ∃ x, x = wr := ⟨_, rfl⟩
     rw [← hwB] at HI ⊢
     clear hwB
     by_cases hlt : i < n
     ·obtain ⟨x, hx⟩ : ∃ x, L[i]? = some x := ⟨_, List.getElem?_eq_getElem (by rw [← HN.out]; exact hlt)⟩
      have hxm := HL.out.1 x (List.mem_iff_getElem?.2 ⟨i, hx⟩)
      have HInx := Lib.hid fun W => HIn.out x W
      rw [hxm.1] at HInx
      have HCox := Lib.hid fun W => HCo.out x W
      rw [hxm.2] at HCox
      have HX := Lib.hid hx
      have hFS := foundQ_step false P hx
      obtain ⟨b1, o1, rfl, hC7⟩ := HSL7.out.at hx
      have HCA := Lib.hid hC7
      have HCZ := Lib.hid (hC7.mono HI.out hC7.1)
      have hiI : (i : Int) < (n : Int) := by omega
      have hn6 := HLL.out
      obtain ⟨F, hF⟩ : ∃ F, F = foundQ false L P i := ⟨_, rfl⟩
      rw [← hF] at hFS ⊢
      clear hx hxm hC7
      have hFf : F = false := by rw [hF]; exact foundQ_no L P i
      subst hFf
      have HFN : Hid (foundQ false L P (i + 1) = false) := Lib.hid (foundQ_no L P (i + 1))
      clear hF hFS
      go_wp2_with fail
      refine wp_region_val Grows (fun _ _ _ => True) [Is (.bool false), Is (.bool false), Is (.int .i64 e2), Is (.bool false), Is (.bool false), Is undef, Is undef, Is undef, Is undef, Is undef, Is undef, Is (.bool false), Is (.bool false), Is (.bool false)] (by kernel_rfl) (by kernel_rfl) rfl Grows.refl (fun _ _ _ => Grows.trans) (stable_mem ⟨fun _ _ _ h _ => h, fun _ _ _ h _ => h, fun _ _ _ h _ => h, fun _ _ _ h _ => h, fun _ _ _ h _ => h, fun _ _ _ h _ => h, fun _ _ _ h _ => h, fun _ _ _ h _ => h, fun _ _ _ h _ => h, fun _ _ _ h _ => h, fun _ _ _ h _ => h, fun _ _ _ h _ => h, fun _ _ _ h _ => h, fun _ _ _ h _ => h, trivial⟩) wB (Below.drew (Below.refl _ _)) trivial ?_
      refine val_cons ?_ (fun v0 => ?_)
      ·intro L vs w1 hvs hat hb hI hF; try simp [factsI, Region.binds, Is] at hF
       have hc := (Grows.cells hb).1
       clear hI
       go_simp
       try simp [upd]
       try first | exact Grows.refl _ | exact trivial | exact ⟨Grows.refl _, trivial⟩
      refine val_cons ?_ (fun v1 => ?_)
      ·intro L vs w1 hvs hat hb hI hF; try simp [factsI, Region.binds, Is] at hF
       have hc := (Grows.cells hb).1
       clear hI
       go_simp
       try simp [upd]
       try first | exact Grows.refl _ | exact trivial | exact ⟨Grows.refl _, trivial⟩
      refine val_cons ?_ (fun v2 => ?_)
      ·intro L vs w1 hvs hat hb hI hF; try simp [factsI, Region.binds, Is] at hF
       have hc := (Grows.cells hb).1
       clear hI
       go_simp
       try simp [upd]
       try first | exact Grows.refl _ | exact trivial | exact ⟨Grows.refl _, trivial⟩
      refine val_cons ?_ (fun v3 => ?_)
      ·intro L vs w1 hvs hat hb hI hF; try simp [factsI, Region.binds, Is] at hF
       have hc := (Grows.cells hb).1
       clear hI
       go_simp
       try simp [upd]
       try first | exact Grows.refl _ | exact trivial | exact ⟨Grows.refl _, trivial⟩
      refine val_cons ?_ (fun v4 => ?_)
      ·intro L vs w1 hvs hat hb hI hF; try simp [factsI, Region.binds, Is] at hF
       have hc := (Grows.cells hb).1
       clear hI
       go_simp
       try simp [upd]
       try first | exact Grows.refl _ | exact trivial | exact ⟨Grows.refl _, trivial⟩
      refine val_cons ?_ (fun v5 => ?_)
      ·intro L vs w1 hvs hat hb hI hF; try simp [factsI, Region.binds, Is] at hF
       have hc := (Grows.cells hb).1
       clear hI
       go_simp
       try simp [upd]
       try first | exact Grows.refl _ | exact trivial | exact ⟨Grows.refl _, trivial⟩
      refine val_cons ?_ (fun v6 => ?_)
      ·intro L vs w1 hvs hat hb hI hF; try simp [factsI, Region.binds, Is] at hF
       have hc := (Grows.cells hb).1
       clear hI
       go_simp
       try simp [upd]
       try first | exact Grows.refl _ | exact trivial | exact ⟨Grows.refl _, trivial⟩
      refine val_cons ?_ (fun v7 => ?_)
      ·intro L vs w1 hvs hat hb hI hF; try simp [factsI, Region.binds, Is] at hF
       have hc := (Grows.cells hb).1
       clear hI
       go_simp
       try simp [upd]
       try first | exact Grows.refl _ | exact trivial | exact ⟨Grows.refl _, trivial⟩
      refine val_cons ?_ (fun v8 => ?_)
      ·intro L vs w1 hvs hat hb hI hF; try simp [factsI, Region.binds, Is] at hF
       have hc := (Grows.cells hb).1
       clear hI
       go_simp
       try simp [upd]
       try first | exact Grows.refl _ | exact trivial | exact ⟨Grows.refl _, trivial⟩
      refine val_cons ?_ (fun v9 => ?_)
      ·intro L vs w1 hvs hat hb hI hF; try simp [factsI, Region.binds, Is] at hF
       have hc := (Grows.cells hb).1
       clear hI
       go_simp
       try simp [upd]
       try first | exact Grows.refl _ | exact trivial | exact ⟨Grows.refl _, trivial⟩
      refine val_cons ?_ (fun v10 => ?_)
      ·intro L vs w1 hvs hat hb hI hF; try simp [factsI, Region.binds, Is] at hF
       have hc := (Grows.cells hb).1
       clear hI
       go_simp
       try simp [upd]
       try first | exact Grows.refl _ | exact trivial | exact ⟨Grows.refl _, trivial⟩
      refine val_cons ?_ (fun v11 => ?_)
      ·intro L vs w1 hvs hat hb hI hF; try simp [factsI, Region.binds, Is] at hF
       have hc := (Grows.cells hb).1
       clear hI
       go_simp
       try simp [upd]
       try first | exact Grows.refl _ | exact trivial | exact ⟨Grows.refl _, trivial⟩
      refine val_cons ?_ (fun v12 => ?_)
      ·intro L vs w1 hvs hat hb hI hF; try simp [factsI, Region.binds, Is] at hF
       have hc := (Grows.cells hb).1
       clear hI
       go_simp
       try simp [upd]
       try first | exact Grows.refl _ | exact trivial | exact ⟨Grows.refl _, trivial⟩
      refine val_cons ?_ (fun v13 => ?_)
      ·intro L vs w1 hvs hat hb hI hF; try simp [factsI, Region.binds, Is] at hF
       have hc := (Grows.cells hb).1
       clear hI
       go_simp
       try simp [upd]
       try first | exact Grows.refl _ | exact trivial | exact ⟨Grows.refl _, trivial⟩
      refine val_nil ?_
      intro vs w1 hvs hb hI hF
      simp [Is, Nat.forall_lt_succ_right] at hF
      simp only [Act.put, List.setIfInBounds_toArray, List.set_cons_succ, List.set_cons_zero, hF]
      clear hF
      have HI1 := Lib.hid (bel_trans HI.out (show Below _ _ w1 from hb))
      obtain ⟨wC, hwC⟩ : ∃ x, x = w1 := ⟨_, rfl⟩
      rw [← hwC] at HI1 ⊢
      clear hwC hb hvs HI
      have HCB := Lib.hid (HCA.out.mono HI1.out HCA.out.1)
      go_wp2_with fail
      by_cases hi0 : i = 0
      ·obtain ⟨ii, hii⟩ : ∃ x : Int, x = ((i : Nat) : Int) := ⟨_, rfl⟩
       have hiz : ¬ (0 : Int) < ii := by omega
       have hii0 : 0 ≤ ii := by omega
       have hii1 : ii < (n : Int) := by omega
       have htn : ii.toNat = i := by omega
       have HII := Lib.hid hii
       rw [← hii]
       clear hii hi0 hiI
       refine wp_region_val Grows (fun _ _ _ => True) [Is (.slice (some ⟨b1, o1, none⟩) n cu), Is (.int .i64 ii), Is (.pointer (some ⟨b1, o1 + i * 8, none⟩)), Is (solV x), Is (solV a), Is (.bool true), Is (.bool false), Is (.bool false), Is (.slice (some ⟨b1, o1, none⟩) n cu), Is (.int .i64 ii), Is (.pointer (some ⟨b1, o1 + i * 8, none⟩)), Is (solV x), Is (.int .i64 (nb : Nat)), Is (.int .i64 (nb : Nat)), Is (.bool false), Is (.bool false), Is (.bool false), Is (.int .i64 ii), Is (.bool false), Is (.bool false), Is undef, Is undef, Is undef, Is undef, Is undef, Is undef, Is undef, Is undef, Is undef, Is undef, Is undef, Is (.bool false), Is (.bool false)] (by kernel_rfl) (by kernel_rfl) rfl Grows.refl (fun _ _ _ => Grows.trans) (stable_mem ⟨fun _ _ _ h _ => h, fun _ _ _ h _ => h, fun _ _ _ h _ => h, fun _ _ _ h _ => h, fun _ _ _ h _ => h, fun _ _ _ h _ => h, fun _ _ _ h _ => h, fun _ _ _ h _ => h, fun _ _ _ h _ => h, fun _ _ _ h _ => h, fun _ _ _ h _ => h, fun _ _ _ h _ => h, fun _ _ _ h _ => h, fun _ _ _ h _ => h, fun _ _ _ h _ => h, fun _ _ _ h _ => h, fun _ _ _ h _ => h, fun _ _ _ h _ => h, fun _ _ _ h _ => h, fun _ _ _ h _ => h, fun _ _ _ h _ => h, fun _ _ _ h _ => h, fun _ _ _ h _ => h, fun _ _ _ h _ => h, fun _ _ _ h _ => h, fun _ _ _ h _ => h, fun _ _ _ h _ => h, fun _ _ _ h _ => h, fun _ _ _ h _ => h, fun _ _ _ h _ => h, fun _ _ _ h _ => h, fun _ _ _ h _ => h, fun _ _ _ h _ => h, trivial⟩) wC (Below.drew (Below.refl _ _)) trivial ?_
       refine val_cons ?_ (fun v0 => ?_)
       ·intro L vs w1 hvs hat hb hI hF; try simp [factsI, Region.binds, Is] at hF
        have hc := (Grows.cells hb).1
        clear hI
        go_simp
        try simp [upd]
        try first | exact Grows.refl _ | exact trivial | exact ⟨Grows.refl _, trivial⟩
       refine val_cons ?_ (fun v1 => ?_)
       ·intro L vs w1 hvs hat hb hI hF; try simp [factsI, Region.binds, Is] at hF
        have hc := (Grows.cells hb).1
        clear hI
        go_simp
        try simp [upd]
        try first | exact Grows.refl _ | exact trivial | exact ⟨Grows.refl _, trivial⟩
       refine val_cons ?_ (fun v2 => ?_)
       ·intro L vs w1 hvs hat hb hI hF; try simp [factsI, Region.binds, Is] at hF
        have hc := (Grows.cells hb).1
        clear hI
        go_simp
        try simp [upd]
        try first | exact Grows.refl _ | exact trivial | exact ⟨Grows.refl _, trivial⟩
       refine val_cons ?_ (fun v3 => ?_)
       ·intro L vs w1 hvs hat hb hI hF; try simp [factsI, Region.binds, Is] at hF
        have hCw := Cells.mono (HCB.out) (show Below _ _ _ from hb) (HCB.out).1
        have cz := sol_cells hCw HX.out
        obtain ⟨z0, z1, z2, z3, z4, z5, z6, z7⟩ := cz
        have lz := hCw.1
        clear hCw
        go_simp
        first | exact Grows.refl _ | exact ⟨Grows.refl _, trivial⟩
       refine val_cons ?_ (fun v4 => ?_)
       ·intro L vs w1 hvs hat hb hI hF; try simp [factsI, Region.binds, Is] at hF
        have D := ((HSM.out.1.grow HI1.out)).grow (show Below _ _ _ from hb); have cD := D.cell; have lD := D.lt; clear D
        go_simp
        first | exact Grows.refl _ | exact ⟨Grows.refl _, trivial⟩
       refine val_cons ?_ (fun v5 => ?_)
       ·intro L vs w1 hvs hat hb hI hF; try simp [factsI, Region.binds, Is] at hF
        have hb0 := hb
        go_simp
        refine (HInx.out _).mono ?_
        rintro e w2 ⟨rfl, hb2⟩
        first | exact ⟨rfl, hb2⟩ | exact ⟨_, rfl, hb2, trivial, rfl⟩ | exact ⟨_, rfl, hb2, rfl⟩
       refine val_cons ?_ (fun v6 => ?_)
       ·intro L vs w1 hvs hat hb hI hF; try simp [factsI, Region.binds, Is] at hF
        have hc := (Grows.cells hb).1
        clear hI
        go_simp
        try simp [upd]
        try first | exact Grows.refl _ | exact trivial | exact ⟨Grows.refl _, trivial⟩
       refine val_cons ?_ (fun v7 => ?_)
       ·intro L vs w1 hvs hat hb hI hF; try simp [factsI, Region.binds, Is] at hF
        have hc := (Grows.cells hb).1
        clear hI
        go_simp
        try simp [upd]
        try first | exact Grows.refl _ | exact trivial | exact ⟨Grows.refl _, trivial⟩
       refine val_cons ?_ (fun v8 => ?_)
       ·intro L vs w1 hvs hat hb hI hF; try simp [factsI, Region.binds, Is] at hF
        have hc := (Grows.cells hb).1
        clear hI
        go_simp
        try simp [upd]
        try first | exact Grows.refl _ | exact trivial | exact ⟨Grows.refl _, trivial⟩
       refine val_cons ?_ (fun v9 => ?_)
       ·intro L vs w1 hvs hat hb hI hF; try simp [factsI, Region.binds, Is] at hF
        have hc := (Grows.cells hb).1
        clear hI
        go_simp
        try simp [upd]
        try first | exact Grows.refl _ | exact trivial | exact ⟨Grows.refl _, trivial⟩
       refine val_cons ?_ (fun v10 => ?_)
       ·intro L vs w1 hvs hat hb hI hF; try simp [factsI, Region.binds, Is] at hF
        have hc := (Grows.cells hb).1
        clear hI
        go_simp
        try simp [upd]
        try first | exact Grows.refl _ | exact trivial | exact ⟨Grows.refl _, trivial⟩
       refine val_cons ?_ (fun v11 => ?_)
       ·intro L vs w1 hvs hat hb hI hF; try simp [factsI, Region.binds, Is] at hF
        have hCw := Cells.mono (HCB.out) (show Below _ _ _ from hb) (HCB.out).1
        have cz := sol_cells hCw HX.out
        obtain ⟨z0, z1, z2, z3, z4, z5, z6, z7⟩ := cz
        have lz := hCw.1
        clear hCw
        go_simp
        first | exact Grows.refl _ | exact ⟨Grows.refl _, trivial⟩
       refine val_cons ?_ (fun v12 => ?_)
       ·intro L vs w1 hvs hat hb hI hF; try simp [factsI, Region.binds, Is] at hF
        have hb0 := hb
        go_simp
        refine (HCox.out _).mono ?_
        rintro e w2 ⟨rfl, hb2⟩
        first | exact ⟨rfl, hb2⟩ | exact ⟨_, rfl, hb2, trivial, rfl⟩ | exact ⟨_, rfl, hb2, rfl⟩
       refine val_cons ?_ (fun v13 => ?_)
       ·intro L vs w1 hvs hat hb hI hF; try simp [factsI, Region.binds, Is] at hF
        have hc := (Grows.cells hb).1
        clear hI
        go_simp
        try simp [upd]
        try first | exact Grows.refl _ | exact trivial | exact ⟨Grows.refl _, trivial⟩
       refine val_cons ?_ (fun v14 => ?_)
       ·intro L vs w1 hvs hat hb hI hF; try simp [factsI, Region.binds, Is] at hF
        have hc := (Grows.cells hb).1
        clear hI
        go_simp
        try simp [upd]
        try first | exact Grows.refl _ | exact trivial | exact ⟨Grows.refl _, trivial⟩
       refine val_cons ?_ (fun v15 => ?_)
       ·intro L vs w1 hvs hat hb hI hF; try simp [factsI, Region.binds, Is] at hF
        have hc := (Grows.cells hb).1
        clear hI
        go_simp
        try simp [upd]
        try first | exact Grows.refl _ | exact trivial | exact ⟨Grows.refl _, trivial⟩
       refine val_cons ?_ (fun v16 => ?_)
       ·intro L vs w1 hvs hat hb hI hF; try simp [factsI, Region.binds, Is] at hF
        have hc := (Grows.cells hb).1
        clear hI
        go_simp
        try simp [upd]
        try first | exact Grows.refl _ | exact trivial | exact ⟨Grows.refl _, trivial⟩
       refine val_cons ?_ (fun v17 => ?_)
       ·intro L vs w1 hvs hat hb hI hF; try simp [factsI, Region.binds, Is] at hF
        have hc := (Grows.cells hb).1
        clear hI
        go_simp
        try simp [upd]
        try first | exact Grows.refl _ | exact trivial | exact ⟨Grows.refl _, trivial⟩
       refine val_cons ?_ (fun v18 => ?_)
       ·intro L vs w1 hvs hat hb hI hF; try simp [factsI, Region.binds, Is] at hF
        have hc := (Grows.cells hb).1
        clear hI
        go_simp
        try simp [upd]
        try first | exact Grows.refl _ | exact trivial | exact ⟨Grows.refl _, trivial⟩
       refine val_cons ?_ (fun v19 => ?_)
       ·intro L vs w1 hvs hat hb hI hF; try simp [factsI, Region.binds, Is] at hF
        have hc := (Grows.cells hb).1
        clear hI
        go_simp
        try simp [upd]
        try first | exact Grows.refl _ | exact trivial | exact ⟨Grows.refl _, trivial⟩
       refine val_cons ?_ (fun v20 => ?_)
       ·intro L vs w1 hvs hat hb hI hF; try simp [factsI, Region.binds, Is] at hF
        have hc := (Grows.cells hb).1
        clear hI
        go_simp
        try simp [upd]
        try first | exact Grows.refl _ | exact trivial | exact ⟨Grows.refl _, trivial⟩
       refine val_cons ?_ (fun v21 => ?_)
       ·intro L vs w1 hvs hat hb hI hF; try simp [factsI, Region.binds, Is] at hF
        have hc := (Grows.cells hb).1
        clear hI
        go_simp
        try simp [upd]
        try first | exact Grows.refl _ | exact trivial | exact ⟨Grows.refl _, trivial⟩
       refine val_cons ?_ (fun v22 => ?_)
       ·intro L vs w1 hvs hat hb hI hF; try simp [factsI, Region.binds, Is] at hF
        have hc := (Grows.cells hb).1
        clear hI
        go_simp
        try simp [upd]
        try first | exact Grows.refl _ | exact trivial | exact ⟨Grows.refl _, trivial⟩
       refine val_cons ?_ (fun v23 => ?_)
       ·intro L vs w1 hvs hat hb hI hF; try simp [factsI, Region.binds, Is] at hF
        have hc := (Grows.cells hb).1
        clear hI
        go_simp
        try simp [upd]
        try first | exact Grows.refl _ | exact trivial | exact ⟨Grows.refl _, trivial⟩
       refine val_cons ?_ (fun v24 => ?_)
       ·intro L vs w1 hvs hat hb hI hF; try simp [factsI, Region.binds, Is] at hF
        have hc := (Grows.cells hb).1
        clear hI
        go_simp
        try simp [upd]
        try first | exact Grows.refl _ | exact trivial | exact ⟨Grows.refl _, trivial⟩
       refine val_cons ?_ (fun v25 => ?_)
       ·intro L vs w1 hvs hat hb hI hF; try simp [factsI, Region.binds, Is] at hF
        have hc := (Grows.cells hb).1
        clear hI
        go_simp
        try simp [upd]
        try first | exact Grows.refl _ | exact trivial | exact ⟨Grows.refl _, trivial⟩
       refine val_cons ?_ (fun v26 => ?_)
       ·intro L vs w1 hvs hat hb hI hF; try simp [factsI, Region.binds, Is] at hF
        have hc := (Grows.cells hb).1
        clear hI
        go_simp
        try simp [upd]
        try first | exact Grows.refl _ | exact trivial | exact ⟨Grows.refl _, trivial⟩
       refine val_cons ?_ (fun v27 => ?_)
       ·intro L vs w1 hvs hat hb hI hF; try simp [factsI, Region.binds, Is] at hF
        have hc := (Grows.cells hb).1
        clear hI
        go_simp
        try simp [upd]
        try first | exact Grows.refl _ | exact trivial | exact ⟨Grows.refl _, trivial⟩
       refine val_cons ?_ (fun v28 => ?_)
       ·intro L vs w1 hvs hat hb hI hF; try simp [factsI, Region.binds, Is] at hF
        have hc := (Grows.cells hb).1
        clear hI
        go_simp
        try simp [upd]
        try first | exact Grows.refl _ | exact trivial | exact ⟨Grows.refl _, trivial⟩
       refine val_cons ?_ (fun v29 => ?_)
       ·intro L vs w1 hvs hat hb hI hF; try simp [factsI, Region.binds, Is] at hF
        have hc := (Grows.cells hb).1
        clear hI
        go_simp
        try simp [upd]
        try first | exact Grows.refl _ | exact trivial | exact ⟨Grows.refl _, trivial⟩
       refine val_cons ?_ (fun v30 => ?_)
       ·intro L vs w1 hvs hat hb hI hF; try simp [factsI, Region.binds, Is] at hF
        have hc := (Grows.cells hb).1
        clear hI
        go_simp
        try simp [upd]
        try first | exact Grows.refl _ | exact trivial | exact ⟨Grows.refl _, trivial⟩
       refine val_cons ?_ (fun v31 => ?_)
       ·intro L vs w1 hvs hat hb hI hF; try simp [factsI, Region.binds, Is] at hF
        have hc := (Grows.cells hb).1
        clear hI
        go_simp
        try simp [upd]
        try first | exact Grows.refl _ | exact trivial | exact ⟨Grows.refl _, trivial⟩
       refine val_cons ?_ (fun v32 => ?_)
       ·intro L vs w1 hvs hat hb hI hF; try simp [factsI, Region.binds, Is] at hF
        have hc := (Grows.cells hb).1
        clear hI
        go_simp
        try simp [upd]
        try first | exact Grows.refl _ | exact trivial | exact ⟨Grows.refl _, trivial⟩
       refine val_nil ?_
       intro vs w1 hvs hb hI hF
       simp [Is, Nat.forall_lt_succ_right] at hF
       simp only [Act.put, List.setIfInBounds_toArray, List.set_cons_succ, List.set_cons_zero, hF]
       clear hF
       have HI2' := Lib.hid (bel_trans HI1.out (show Below _ _ w1 from hb))
       clear hb hvs HI1
       go_wp2_with fail
       go_roundw
       case rel => exact ⟨i + 1, by omega, by (rw [HII.out]; go_num), by rw [HFN.out], HI2'⟩
       case measure => have hi9 := HII.out; simp [intOf]; omega
      ·obtain ⟨j, hj⟩ : ∃ j, j + 1 = i := ⟨i - 1, by omega⟩
       have hiz : (0 : Int) < (i : Int) := by omega
       obtain ⟨y, hy⟩ : ∃ y, L[j]? = some y := ⟨_, List.getElem?_eq_getElem (by rw [← HN.out]; omega)⟩
       have HY := Lib.hid hy
       have hcm := HCm.out y x
       rw [cmpS_lt (HL.out.2 j y x hy (by rw [hj]; exact HX.out))] at hcm
       have HCmx := Lib.hid hcm
       have hw9 : IntKind.i64.wrap ((i : Int) - 1) = (j : Int) := by rw [show (i : Int) - 1 = (j : Int) by omega]; exact w64 ⟨by omega, by omega⟩
       have hjn : (j : Int) < (n : Int) := by omega
       clear hy hcm hj
       refine wp_region_val Grows (fun _ _ _ => True) [Is (.slice (some ⟨b1, o1, none⟩) n cu), Is (.int .i64 (i : Nat)), Is (.pointer (some ⟨b1, o1 + i * 8, none⟩)), Is (solV x), Is (solV a), Is (.bool true), Is (.bool false), Is (.bool false), Is (.slice (some ⟨b1, o1, none⟩) n cu), Is (.int .i64 (i : Nat)), Is (.pointer (some ⟨b1, o1 + i * 8, none⟩)), Is (solV x), Is (.int .i64 (nb : Nat)), Is (.int .i64 (nb : Nat)), Is (.bool false), Is (.bool false), Is (.bool false), Is (.int .i64 (i : Nat)), Is (.bool true), Is (.bool true), Is (.slice (some ⟨b1, o1, none⟩) n cu), Is (.int .i64 (i : Nat)), Is (.int .i64 (j : Nat)), Is (.pointer (some ⟨b1, o1 + j * 8, none⟩)), Is (solV y), Is (.slice (some ⟨b1, o1, none⟩) n cu), Is (.int .i64 (i : Nat)), Is (.pointer (some ⟨b1, o1 + i * 8, none⟩)), Is (solV x), Is (.int .i64 (-1)), Is (.bool false), Is (.bool false), Is (.bool false)] (by kernel_rfl) (by kernel_rfl) rfl Grows.refl (fun _ _ _ => Grows.trans) (stable_mem ⟨fun _ _ _ h _ => h, fun _ _ _ h _ => h, fun _ _ _ h _ => h, fun _ _ _ h _ => h, fun _ _ _ h _ => h, fun _ _ _ h _ => h, fun _ _ _ h _ => h, fun _ _ _ h _ => h, fun _ _ _ h _ => h, fun _ _ _ h _ => h, fun _ _ _ h _ => h, fun _ _ _ h _ => h, fun _ _ _ h _ => h, fun _ _ _ h _ => h, fun _ _ _ h _ => h, fun _ _ _ h _ => h, fun _ _ _ h _ => h, fun _ _ _ h _ => h, fun _ _ _ h _ => h, fun _ _ _ h _ => h, fun _ _ _ h _ => h, fun _ _ _ h _ => h, fun _ _ _ h _ => h, fun _ _ _ h _ => h, fun _ _ _ h _ => h, fun _ _ _ h _ => h, fun _ _ _ h _ => h, fun _ _ _ h _ => h, fun _ _ _ h _ => h, fun _ _ _ h _ => h, fun _ _ _ h _ => h, fun _ _ _ h _ => h, fun _ _ _ h _ => h, trivial⟩) wC (Below.drew (Below.refl _ _)) trivial ?_
       refine val_cons ?_ (fun v0 => ?_)
       ·intro L vs w1 hvs hat hb hI hF; try simp [factsI, Region.binds, Is] at hF
        have hc := (Grows.cells hb).1
        clear hI
        go_simp
        try simp [upd]
        try first | exact Grows.refl _ | exact trivial | exact ⟨Grows.refl _, trivial⟩
       refine val_cons ?_ (fun v1 => ?_)
       ·intro L vs w1 hvs hat hb hI hF; try simp [factsI, Region.binds, Is] at hF
        have hc := (Grows.cells hb).1
        clear hI
        go_simp
        try simp [upd]
        try first | exact Grows.refl _ | exact trivial | exact ⟨Grows.refl _, trivial⟩
       refine val_cons ?_ (fun v2 => ?_)
       ·intro L vs w1 hvs hat hb hI hF; try simp [factsI, Region.binds, Is] at hF
        have hc := (Grows.cells hb).1
        clear hI
        go_simp
        try simp [upd]
        try first | exact Grows.refl _ | exact trivial | exact ⟨Grows.refl _, trivial⟩
       refine val_cons ?_ (fun v3 => ?_)
       ·intro L vs w1 hvs hat hb hI hF; try simp [factsI, Region.binds, Is] at hF
        have hCw := Cells.mono (HCB.out) (show Below _ _ _ from hb) (HCB.out).1
        have cz := sol_cells hCw HX.out
        obtain ⟨z0, z1, z2, z3, z4, z5, z6, z7⟩ := cz
        have lz := hCw.1
        clear hCw
        go_simp
        first | exact Grows.refl _ | exact ⟨Grows.refl _, trivial⟩
       refine val_cons ?_ (fun v4 => ?_)
       ·intro L vs w1 hvs hat hb hI hF; try simp [factsI, Region.binds, Is] at hF
        have D := ((HSM.out.1.grow HI1.out)).grow (show Below _ _ _ from hb); have cD := D.cell; have lD := D.lt; clear D
        go_simp
        first | exact Grows.refl _ | exact ⟨Grows.refl _, trivial⟩
       refine val_cons ?_ (fun v5 => ?_)
       ·intro L vs w1 hvs hat hb hI hF; try simp [factsI, Region.binds, Is] at hF
        have hb0 := hb
        go_simp
        refine (HInx.out _).mono ?_
        rintro e w2 ⟨rfl, hb2⟩
        first | exact ⟨rfl, hb2⟩ | exact ⟨_, rfl, hb2, trivial, rfl⟩ | exact ⟨_, rfl, hb2, rfl⟩
       refine val_cons ?_ (fun v6 => ?_)
       ·intro L vs w1 hvs hat hb hI hF; try simp [factsI, Region.binds, Is] at hF
        have hc := (Grows.cells hb).1
        clear hI
        go_simp
        try simp [upd]
        try first | exact Grows.refl _ | exact trivial | exact ⟨Grows.refl _, trivial⟩
       refine val_cons ?_ (fun v7 => ?_)
       ·intro L vs w1 hvs hat hb hI hF; try simp [factsI, Region.binds, Is] at hF
        have hc := (Grows.cells hb).1
        clear hI
        go_simp
        try simp [upd]
        try first | exact Grows.refl _ | exact trivial | exact ⟨Grows.refl _, trivial⟩
       refine val_cons ?_ (fun v8 => ?_)
       ·intro L vs w1 hvs hat hb hI hF; try simp [factsI, Region.binds, Is] at hF
        have hc := (Grows.cells hb).1
        clear hI
        go_simp
        try simp [upd]
        try first | exact Grows.refl _ | exact trivial | exact ⟨Grows.refl _, trivial⟩
       refine val_cons ?_ (fun v9 => ?_)
       ·intro L vs w1 hvs hat hb hI hF; try simp [factsI, Region.binds, Is] at hF
        have hc := (Grows.cells hb).1
        clear hI
        go_simp
        try simp [upd]
        try first | exact Grows.refl _ | exact trivial | exact ⟨Grows.refl _, trivial⟩
       refine val_cons ?_ (fun v10 => ?_)
       ·intro L vs w1 hvs hat hb hI hF; try simp [factsI, Region.binds, Is] at hF
        have hc := (Grows.cells hb).1
        clear hI
        go_simp
        try simp [upd]
        try first | exact Grows.refl _ | exact trivial | exact ⟨Grows.refl _, trivial⟩
       refine val_cons ?_ (fun v11 => ?_)
       ·intro L vs w1 hvs hat hb hI hF; try simp [factsI, Region.binds, Is] at hF
        have hCw := Cells.mono (HCB.out) (show Below _ _ _ from hb) (HCB.out).1
        have cz := sol_cells hCw HX.out
        obtain ⟨z0, z1, z2, z3, z4, z5, z6, z7⟩ := cz
        have lz := hCw.1
        clear hCw
        go_simp
        first | exact Grows.refl _ | exact ⟨Grows.refl _, trivial⟩
       refine val_cons ?_ (fun v12 => ?_)
       ·intro L vs w1 hvs hat hb hI hF; try simp [factsI, Region.binds, Is] at hF
        have hb0 := hb
        go_simp
        refine (HCox.out _).mono ?_
        rintro e w2 ⟨rfl, hb2⟩
        first | exact ⟨rfl, hb2⟩ | exact ⟨_, rfl, hb2, trivial, rfl⟩ | exact ⟨_, rfl, hb2, rfl⟩
       refine val_cons ?_ (fun v13 => ?_)
       ·intro L vs w1 hvs hat hb hI hF; try simp [factsI, Region.binds, Is] at hF
        have hc := (Grows.cells hb).1
        clear hI
        go_simp
        try simp [upd]
        try first | exact Grows.refl _ | exact trivial | exact ⟨Grows.refl _, trivial⟩
       refine val_cons ?_ (fun v14 => ?_)
       ·intro L vs w1 hvs hat hb hI hF; try simp [factsI, Region.binds, Is] at hF
        have hc := (Grows.cells hb).1
        clear hI
        go_simp
        try simp [upd]
        try first | exact Grows.refl _ | exact trivial | exact ⟨Grows.refl _, trivial⟩
       refine val_cons ?_ (fun v15 => ?_)
       ·intro L vs w1 hvs hat hb hI hF; try simp [factsI, Region.binds, Is] at hF
        have hc := (Grows.cells hb).1
        clear hI
        go_simp
        try simp [upd]
        try first | exact Grows.refl _ | exact trivial | exact ⟨Grows.refl _, trivial⟩
       refine val_cons ?_ (fun v16 => ?_)
       ·intro L vs w1 hvs hat hb hI hF; try simp [factsI, Region.binds, Is] at hF
        have hc := (Grows.cells hb).1
        clear hI
        go_simp
        try simp [upd]
        try first | exact Grows.refl _ | exact trivial | exact ⟨Grows.refl _, trivial⟩
       refine val_cons ?_ (fun v17 => ?_)
       ·intro L vs w1 hvs hat hb hI hF; try simp [factsI, Region.binds, Is] at hF
        have hc := (Grows.cells hb).1
        clear hI
        go_simp
        try simp [upd]
        try first | exact Grows.refl _ | exact trivial | exact ⟨Grows.refl _, trivial⟩
       refine val_cons ?_ (fun v18 => ?_)
       ·intro L vs w1 hvs hat hb hI hF; try simp [factsI, Region.binds, Is] at hF
        go_simp
        first | exact Grows.refl _ | exact ⟨Grows.refl _, by omega⟩ | exact ⟨Grows.refl _, trivial⟩
       refine val_cons ?_ (fun v19 => ?_)
       ·intro L vs w1 hvs hat hb hI hF; try simp [factsI, Region.binds, Is] at hF
        have hc := (Grows.cells hb).1
        clear hI
        go_simp
        try simp [upd]
        try first | exact Grows.refl _ | exact trivial | exact ⟨Grows.refl _, trivial⟩
       refine val_cons ?_ (fun v20 => ?_)
       ·intro L vs w1 hvs hat hb hI hF; try simp [factsI, Region.binds, Is] at hF
        have hc := (Grows.cells hb).1
        clear hI
        go_simp
        try simp [upd]
        try first | exact Grows.refl _ | exact trivial | exact ⟨Grows.refl _, trivial⟩
       refine val_cons ?_ (fun v21 => ?_)
       ·intro L vs w1 hvs hat hb hI hF; try simp [factsI, Region.binds, Is] at hF
        have hc := (Grows.cells hb).1
        clear hI
        go_simp
        try simp [upd]
        try first | exact Grows.refl _ | exact trivial | exact ⟨Grows.refl _, trivial⟩
       refine val_cons ?_ (fun v22 => ?_)
       ·intro L vs w1 hvs hat hb hI hF; try simp [factsI, Region.binds, Is] at hF
        have hc := (Grows.cells hb).1
        clear hI
        go_simp
        try simp [upd]
        try first | exact Grows.refl _ | exact trivial | exact ⟨Grows.refl _, trivial⟩
       refine val_cons ?_ (fun v23 => ?_)
       ·intro L vs w1 hvs hat hb hI hF; try simp [factsI, Region.binds, Is] at hF
        have hc := (Grows.cells hb).1
        clear hI
        go_simp
        try simp [upd]
        try first | exact Grows.refl _ | exact trivial | exact ⟨Grows.refl _, trivial⟩
       refine val_cons ?_ (fun v24 => ?_)
       ·intro L vs w1 hvs hat hb hI hF; try simp [factsI, Region.binds, Is] at hF
        have hCw := Cells.mono (HCB.out) (show Below _ _ _ from hb) (HCB.out).1
        have cz := sol_cells hCw HY.out
        obtain ⟨z0, z1, z2, z3, z4, z5, z6, z7⟩ := cz
        have lz := hCw.1
        clear hCw
        go_simp
        first | exact Grows.refl _ | exact ⟨Grows.refl _, trivial⟩
       refine val_cons ?_ (fun v25 => ?_)
       ·intro L vs w1 hvs hat hb hI hF; try simp [factsI, Region.binds, Is] at hF
        have hc := (Grows.cells hb).1
        clear hI
        go_simp
        try simp [upd]
        try first | exact Grows.refl _ | exact trivial | exact ⟨Grows.refl _, trivial⟩
       refine val_cons ?_ (fun v26 => ?_)
       ·intro L vs w1 hvs hat hb hI hF; try simp [factsI, Region.binds, Is] at hF
        have hc := (Grows.cells hb).1
        clear hI
        go_simp
        try simp [upd]
        try first | exact Grows.refl _ | exact trivial | exact ⟨Grows.refl _, trivial⟩
       refine val_cons ?_ (fun v27 => ?_)
       ·intro L vs w1 hvs hat hb hI hF; try simp [factsI, Region.binds, Is] at hF
        have hc := (Grows.cells hb).1
        clear hI
        go_simp
        try simp [upd]
        try first | exact Grows.refl _ | exact trivial | exact ⟨Grows.refl _, trivial⟩
       refine val_cons ?_ (fun v28 => ?_)
       ·intro L vs w1 hvs hat hb hI hF; try simp [factsI, Region.binds, Is] at hF
        have hCw := Cells.mono (HCB.out) (show Below _ _ _ from hb) (HCB.out).1
        have cz := sol_cells hCw HX.out
        obtain ⟨z0, z1, z2, z3, z4, z5, z6, z7⟩ := cz
        have lz := hCw.1
        clear hCw
        go_simp
        first | exact Grows.refl _ | exact ⟨Grows.refl _, trivial⟩
       refine val_cons ?_ (fun v29 => ?_)
       ·intro L vs w1 hvs hat hb hI hF; try simp [factsI, Region.binds, Is] at hF
        have hb0 := hb
        go_simp
        refine (HCmx.out _).mono ?_
        rintro e w2 ⟨rfl, hb2⟩
        first | exact ⟨rfl, hb2⟩ | exact ⟨_, rfl, hb2, trivial, rfl⟩ | exact ⟨_, rfl, hb2, rfl⟩
       refine val_cons ?_ (fun v30 => ?_)
       ·intro L vs w1 hvs hat hb hI hF; try simp [factsI, Region.binds, Is] at hF
        have hc := (Grows.cells hb).1
        clear hI
        go_simp
        try simp [upd]
        try first | exact Grows.refl _ | exact trivial | exact ⟨Grows.refl _, trivial⟩
       refine val_cons ?_ (fun v31 => ?_)
       ·intro L vs w1 hvs hat hb hI hF; try simp [factsI, Region.binds, Is] at hF
        have hc := (Grows.cells hb).1
        clear hI
        go_simp
        try simp [upd]
        try first | exact Grows.refl _ | exact trivial | exact ⟨Grows.refl _, trivial⟩
       refine val_cons ?_ (fun v32 => ?_)
       ·intro L vs w1 hvs hat hb hI hF; try simp [factsI, Region.binds, Is] at hF
        have hc := (Grows.cells hb).1
        clear hI
        go_simp
        try simp [upd]
        try first | exact Grows.refl _ | exact trivial | exact ⟨Grows.refl _, trivial⟩
       refine val_nil ?_
       intro vs w1 hvs hb hI hF
       simp [Is, Nat.forall_lt_succ_right] at hF
       simp only [Act.put, List.setIfInBounds_toArray, List.set_cons_succ, List.set_cons_zero, hF]
       clear hF
       have HI2' := Lib.hid (bel_trans HI1.out (show Below _ _ w1 from hb))
       clear hb hvs HI1
       go_wp2_with fail
       go_roundw
       case rel => exact ⟨i + 1, by omega, by go_num, by rw [HFN.out], HI2'⟩
       case measure => simp [intOf]; omega
     ·obtain rfl : i = n := by omega
      rw [← HCK2.out]
      have his := HIS.out
      by_cases hpos : 0 < i
      ·have hist : is = true := by rw [his]; exact decide_eq_true hpos
       have hcx := HI2.out hist
       subst hist
       rw [hcx] at HCx
       have hpI : (0 : Int) < (i : Int) := by omega
       clear his hcx
       go_wp2_with fail
       refine (HC.out _ (bel_trans HSM.out.2.2.2.2.2 HI.out)).mono ?_
       rintro e1 w8 ⟨rfl, hb⟩
       have HI8 := Lib.hid (bel_trans HI.out hb)
       clear hb
       have ca := (HSM.out.1.grow HI8.out).cell; have la := (HSM.out.1.grow HI8.out).lt
       have cb := (HSM.out.2.1.grow HI8.out).cell; have lb := (HSM.out.2.1.grow HI8.out).lt
       have cm := (HSM.out.2.2.2.1.grow HI8.out).cell; have lm := (HSM.out.2.2.2.1.grow HI8.out).lt
       go_wp2_with fail
       clear ca la cb lb cm lm
       refine (HCx.out _ (bel_trans HSM.out.2.2.2.2.2 HI8.out)).mono ?_
       rintro e1 w9 ⟨rfl, hb⟩
       have HI9 := Lib.hid (bel_trans (bel_trans HSM.out.2.2.2.2.2 HI8.out) hb)
       clear hb
       go_wp2_with fail
       go_ret
       exact ⟨ret_bool (by simp), HI9.out⟩
      ·have hisf : is = false := by rw [his]; exact decide_eq_false hpos
       subst hisf
       have hpI : ¬ (0 : Int) < (i : Int) := by omega
       clear his
       go_wp2_with fail
       refine (HC.out _ (bel_trans HSM.out.2.2.2.2.2 HI.out)).mono ?_
       rintro e1 w8 ⟨rfl, hb⟩
       have HI8 := Lib.hid (bel_trans (bel_trans HSM.out.2.2.2.2.2 HI.out) hb)
       clear hb
       go_wp2_with fail
       go_ret
       exact ⟨ret_bool (by simp), HI8.out⟩
end Go.Proofs.YtkfimbonmnoglaaGreatDoor
end
