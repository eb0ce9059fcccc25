import Derived.Test.YtkfimbonmnoglaaGreatDoorRCanon33
import Derived.Deep.Cut
/-
  Given contracts of functions of the program, and laws for them, one behind the other.
-/
set_option linter.unusedVariables false
set_option linter.unusedSimpArgs false
set_option linter.unusedSectionVars false
section
namespace Go.Proofs.YtkfimbonmnoglaaGreatDoor
open Go.RowKit Go.Rel Go.Draw Go.Solid
set_option maxRecDepth 100000
theorem refTurned_t (s : Sol) {t : Nat} (ht : t < 24) (W : World) : Calls Tryz.prog 72 #[solV s, .int .i64 (t : Nat)] W fun e w' => e = .returned (.tuple #[solV (spunS s t), .int .i64 0]) ∧ Below W.heap.size W w' := by
 have h := refTurned_n s (t : Nat) W
 have e : turnedM s (t : Nat) = (spunS s t, 0) := by
  unfold turnedM
  rw [if_pos (inB_iff.2 ⟨by omega, by omega⟩)]; rfl
 rw [e] at h; exact h
theorem refImage_t (s : Sol) (t : Nat) (W : World) : Calls Tryz.prog 103 #[solV (spunS s t)] W fun e w' => e = .returned (solV (imageS s t)) ∧ Below W.heap.size W w' := refCornered_n (spunS s t) W
attribute [local irreducible] imageS spunS imgF putS
set_option maxHeartbeats 8000000 in
theorem refImages_spec (s : Sol) (w : World) : Calls Tryz.prog 35 #[solV s] w fun e w' => ∃ u, e = .returned u ∧ OwnSo w' w.heap.size u (imagesS s) ∧ Below w.heap.size w w' := by
 have HTu := Lib.hid fun t ht W => refTurned_t (t := t) s ht W
 have HCo := Lib.hid fun t W => refImage_t s t W
 obtain ⟨R, hR⟩ : ∃ R, R = imagesS s := ⟨_, rfl⟩
 rw [← hR]
 have HR : Hid (R = imgF s 24) := Lib.hid (by rw [hR, imgF_end])
 clear hR
 go_enter Tryz.func35, Tryz.ntmps35
 go_wp2_with fail
 obtain ⟨W0, hW0⟩ : ∃ W0, W0 = w.alloc (.cells #[.int .u64 (pl s 0), .int .u64 (pl s 1), .int .u64 (pl s 2), .int .u64 (pl s 3), .int .u64 (pl s 4), .int .u64 (pl s 5), .int .u64 (pl s 6), .int .u64 (pl s 7)] 26) := ⟨_, rfl⟩
 have HB : Hid (Blk W0 w.heap.size #[.int .u64 (pl s 0), .int .u64 (pl s 1), .int .u64 (pl s 2), .int .u64 (pl s 3), .int .u64 (pl s 4), .int .u64 (pl s 5), .int .u64 (pl s 6), .int .u64 (pl s 7)] 26 ∧ Below w.heap.size w W0) := Lib.hid (by rw [hW0]; exact ⟨Blk.new _ _ _, (by repeat (first | with_reducible exact bel_refl _ | with_reducible assumption | with_reducible refine bel_drewN ?_ _ | with_reducible refine bel_drew ?_ | with_reducible refine bel_alloc ?_ _ | with_reducible refine bel_row ?_ ?_ _ | with_reducible refine bel_set ?_ ?_ _ | refine bel_trans ?_ (by with_reducible assumption) | (simp; done) | (simp; omega)))⟩)
 rw [← hW0]
 clear hW0
 go_loopw [3, 4] (fun ov tv wx => ∃ k : Nat, k ≤ 24 ∧ tv = .int .i64 k ∧ Hid ((imgF s k = [] → ov = .slice none 0 0) ∧ OwnSo wx w.heap.size ov (imgF s k) ∧ Blk wx w.heap.size #[.int .u64 (pl s 0), .int .u64 (pl s 1), .int .u64 (pl s 2), .int .u64 (pl s 3), .int .u64 (pl s 4), .int .u64 (pl s 5), .int .u64 (pl s 6), .int .u64 (pl s 7)] 26 ∧ Below w.heap.size w wx)) (fun _ tv _ => 24 - (intOf tv).toNat)
 case atStart => exact ⟨0, by omega, rfl, Lib.hid ⟨fun _ => rfl, by rw [imgF_zero]; exact OwnSo.nil _ _, HB.out⟩⟩
 case round =>
  clear HB
  obtain ⟨k, hk, rfl, HM⟩ := hrel
  by_cases hlt : k < 24
  ·have hd : decide ((k : Int) < 24) = true := decide_eq_true (by omega)
   have HT1 := Lib.hid fun W => HTu.out k hlt W
   have HC1 := Lib.hid fun W => HCo.out k W
   obtain ⟨p, hp⟩ : ∃ p, p = spunS s k := ⟨_, rfl⟩
   obtain ⟨q, hq⟩ : ∃ q, q = imageS s k := ⟨_, rfl⟩
   rw [← hp] at HT1 HC1
   rw [← hq] at HC1
   have HS : Hid (imgF s (k + 1) = putS (imgF s k) q) := Lib.hid (by rw [imgF_step s hlt, hq])
   have cs := HM.out.2.2.1.cell; have ls := HM.out.2.2.1.lt
   clear hp hq
   go_wp2_with fail
   clear cs ls
   refine (HT1.out _).mono ?_
   rintro e1 w2 ⟨rfl, hb⟩
   obtain ⟨wA, hwA⟩ : ∃ x, x = w2.alloc (.cells #[.int .u64 (pl p 0), .int .u64 (pl p 1), .int .u64 (pl p 2), .int .u64 (pl p 3), .int .u64 (pl p 4), .int .u64 (pl p 5), .int .u64 (pl p 6), .int .u64 (pl p 7)] 26) := ⟨_, rfl⟩
   obtain ⟨gA, hgA⟩ : ∃ x, x = w2.heap.size := ⟨_, rfl⟩
   have HK : Hid (Blk wA gA #[.int .u64 (pl p 0), .int .u64 (pl p 1), .int .u64 (pl p 2), .int .u64 (pl p 3), .int .u64 (pl p 4), .int .u64 (pl p 5), .int .u64 (pl p 6), .int .u64 (pl p 7)] 26 ∧ OwnSo wA w.heap.size _ (imgF s k) ∧ Blk wA w.heap.size #[.int .u64 (pl s 0), .int .u64 (pl s 1), .int .u64 (pl s 2), .int .u64 (pl s 3), .int .u64 (pl s 4), .int .u64 (pl s 5), .int .u64 (pl s 6), .int .u64 (pl s 7)] 26 ∧ Below w.heap.size w wA) := Lib.hid (by
    rw [hwA, hgA]
    exact ⟨Blk.new _ _ _, World.ownsRow.alloc (own_wide HM.out.2.1 hb) _, (HM.out.2.2.1.grow hb).alloc _, bel_alloc (bel_trans HM.out.2.2.2 hb) _⟩)
   go_upto_region 6 with fail
   rw [← hwA, ← hgA]
   clear hwA hgA hb
   have cs := HK.out.1.cell; have ls := HK.out.1.lt
   go_wp2_with fail
   clear cs ls
   refine (HC1.out _).mono ?_
   rintro e1 w3 ⟨rfl, hb⟩
   have HK2 := Lib.hid (And.intro (own_wide HK.out.2.1 hb) (And.intro (HK.out.2.2.1.grow hb) (bel_trans HK.out.2.2.2 hb)))
   clear hb HK
   go_wp2_with fail
   refine (refPut_spec HK2.out.1 HK2.out.2.2.size HM.out.1 (by have := imgF_len s k; omega) (imgF_asc s k)).mono ?_
   rintro e1 w4 ⟨u, rfl, hO, hb⟩
   have HK3 := Lib.hid (And.intro hO (And.intro (HK2.out.2.1.grow hb) (bel_trans HK2.out.2.2 hb)))
   clear hO hb HK2 HM
   go_wp2_with fail
   go_roundw
   case rel => exact ⟨k + 1, by omega, by go_num, Lib.hid ⟨fun e => absurd (by rw [HS.out] at e; exact e) (put_ne _ _), by rw [HS.out]; exact HK3.out.1, HK3.out.2⟩⟩
   case measure => simp [intOf]; omega
  ·obtain rfl : k = 24 := by omega
   have hd : decide (((24 : Nat) : Int) < 24) = false := by decide
   go_wp2_with fail
   go_ret
   exact ⟨_, rfl, by rw [HR.out]; exact HM.out.2.1, HM.out.2.2.2⟩
theorem OwnSo.opened {W : World} {base : Nat} {v : Value} {l : List Sol} (h : OwnSo W base v l) : ∃ a c, v = .slice a l.length c ∧ SlO W a l := h.sl.opened
attribute [local irreducible] imagesS canonS
set_option maxHeartbeats 4000000 in
theorem refCanon_spec (s : Sol) (w : World) : Calls Tryz.prog 27 #[solV s] w fun e w' => e = .returned (solV (canonS s)) ∧ Below w.heap.size w w' := by
 have HI := Lib.hid fun W => refImages_spec s W
 obtain ⟨l0, hl0⟩ := images_ne s
 obtain ⟨x, hx⟩ : ∃ x, x = canonS s := ⟨_, rfl⟩
 rw [← hx] at hl0 ⊢
 have HX : Hid ((imagesS s)[0]? = some x) := Lib.hid (by rw [hl0]; rfl)
 have hn0 : 0 < (imagesS s).length := by rw [hl0]; simp
 obtain ⟨n, hn⟩ : ∃ n, n = (imagesS s).length := ⟨_, rfl⟩
 rw [← hn] at hn0
 have HN := Lib.hid hn
 have hnI : (0 : Int) < (n : Int) := by omega
 clear hl0 hx hn hn0
 go_enter Tryz.func27, Tryz.ntmps27
 go_wp2_with fail
 obtain ⟨W0, hW0⟩ : ∃ W0, W0 = (w.alloc (.cells #[.int .u64 (pl s 0), .int .u64 (pl s 1), .int .u64 (pl s 2), .int .u64 (pl s 3), .int .u64 (pl s 4), .int .u64 (pl s 5), .int .u64 (pl s 6), .int .u64 (pl s 7)] 26)).alloc (.cells #[.int .u64 0, .int .u64 0, .int .u64 0, .int .u64 0, .int .u64 0, .int .u64 0, .int .u64 0, .int .u64 0] 26) := ⟨_, rfl⟩
 have b0 : Blk W0 (w.heap.size + 1) #[.int .u64 0, .int .u64 0, .int .u64 0, .int .u64 0, .int .u64 0, .int .u64 0, .int .u64 0, .int .u64 0] 26 ∧ Below w.heap.size w W0 := by
  rw [hW0]
  exact ⟨Blk.at _ _ (by simp), (by repeat (first | with_reducible exact bel_refl _ | with_reducible assumption | with_reducible refine bel_drewN ?_ _ | with_reducible refine bel_drew ?_ | with_reducible refine bel_alloc ?_ _ | with_reducible refine bel_row ?_ ?_ _ | with_reducible refine bel_set ?_ ?_ _ | refine bel_trans ?_ (by with_reducible assumption) | (simp; done) | (simp; omega)))⟩
 rw [← hW0]
 clear hW0
 refine (HI.out _).mono ?_
 rintro e w1 ⟨u, rfl, hOw, hb⟩
 obtain ⟨a, c, hu, hO⟩ := OwnSo.opened hOw
 obtain ⟨b, off, ha, hC⟩ := hO.at HX.out
 have hbz : W0.heap.size ≤ b := (World.ownsRow.lt hOw b (by rw [hu, ha]; rfl)).1
 have hbl := b0.1.lt
 have hne : b ≠ w.heap.size + 1 := by omega
 rw [hu, ha, ← HN.out]
 have k2 := b0.1.grow hb
 have hC2 := hC.rowC hne #[.int .u64 0, .int .u64 0, .int .u64 0, .int .u64 0, .int .u64 0, .int .u64 0, .int .u64 0, .int .u64 0]
 obtain ⟨z0, z1, z2, z3, z4, z5, z6, z7⟩ := sol_cells hC2 HX.out
 simp only [Nat.zero_mul, Nat.add_zero] at z0 z1 z2 z3 z4 z5 z6 z7
 have lz := hC2.1
 have r2 := k2.row; have l2 := k2.lt
 have cF := (k2.rowS #[.int .u64 (pl x 0), .int .u64 (pl x 1), .int .u64 (pl x 2), .int .u64 (pl x 3), .int .u64 (pl x 4), .int .u64 (pl x 5), .int .u64 (pl x 6), .int .u64 (pl x 7)]).cell
 have hb5 := bel_row (bel_trans b0.2 hb) (g := w.heap.size + 1) (by omega) #[.int .u64 (pl x 0), .int .u64 (pl x 1), .int .u64 (pl x 2), .int .u64 (pl x 3), .int .u64 (pl x 4), .int .u64 (pl x 5), .int .u64 (pl x 6), .int .u64 (pl x 7)]
 rw [← k2.rw]
 clear hu ha hbz hbl hC2 hOw
 clear k2 hO hC b0 hb
 go_wp2_with fail
 exact bodyPost_ret (v := solV x) (by simp [results, Tryz.results27, go_sem, cF]) rfl ⟨rfl, hb5⟩
attribute [local go_sem] Oper.semAt_some
set_option maxHeartbeats 4000000 in
theorem refSame_spec (a b : Sol) (w : World) : Calls Tryz.prog 29 #[solV a, solV b] w fun e w' => e = .returned (.bool (canonS a == canonS b)) ∧ Below w.heap.size w w' := by
 have HA := Lib.hid fun W (_ : Below w.heap.size w W) => refCanon_spec a W
 have HB := Lib.hid fun W (_ : Below w.heap.size w W) => refCanon_spec b W
 obtain ⟨x, hx⟩ : ∃ x, x = canonS a := ⟨_, rfl⟩
 obtain ⟨y, hy⟩ : ∃ x, x = canonS b := ⟨_, rfl⟩
 rw [← hx] at HA ⊢
 rw [← hy] at HB ⊢
 obtain ⟨q, hq⟩ : ∃ q, q = (x == y) := ⟨_, rfl⟩
 rw [← hq]
 have HQ := Lib.hid hq
 clear hx hy hq
 go_enter Tryz.func29, Tryz.ntmps29
 go_wp2_with fail
 obtain ⟨wS0, hwS⟩ : ∃ x, x = (w.alloc (.cells #[.int .u64 (pl a 0), .int .u64 (pl a 1), .int .u64 (pl a 2), .int .u64 (pl a 3), .int .u64 (pl a 4), .int .u64 (pl a 5), .int .u64 (pl a 6), .int .u64 (pl a 7)] 26)).alloc (.cells #[.int .u64 (pl b 0), .int .u64 (pl b 1), .int .u64 (pl b 2), .int .u64 (pl b 3), .int .u64 (pl b 4), .int .u64 (pl b 5), .int .u64 (pl b 6), .int .u64 (pl b 7)] 26) := ⟨_, rfl⟩
 have HS0 : Hid (Blk wS0 (w.heap.size) #[.int .u64 (pl a 0), .int .u64 (pl a 1), .int .u64 (pl a 2), .int .u64 (pl a 3), .int .u64 (pl a 4), .int .u64 (pl a 5), .int .u64 (pl a 6), .int .u64 (pl a 7)] 26 ∧ Blk wS0 (w.heap.size + 1) #[.int .u64 (pl b 0), .int .u64 (pl b 1), .int .u64 (pl b 2), .int .u64 (pl b 3), .int .u64 (pl b 4), .int .u64 (pl b 5), .int .u64 (pl b 6), .int .u64 (pl b 7)] 26 ∧ Below w.heap.size w wS0) := Lib.hid (by rw [hwS]; exact ⟨(by repeat (first | with_reducible assumption | (refine Blk.at _ _ ?_; (simp; done)) | with_reducible refine Blk.alloc ?_ _ | with_reducible refine Blk.drew ?_ | with_reducible refine Blk.rowS ?_ _ | with_reducible refine Blk.rowO ?_ _ (by simp))), Blk.at _ _ (by simp), (by repeat (first | with_reducible exact bel_refl _ | with_reducible assumption | with_reducible refine bel_drewN ?_ _ | with_reducible refine bel_drew ?_ | with_reducible refine bel_alloc ?_ _ | with_reducible refine bel_row ?_ ?_ _ | with_reducible refine bel_set ?_ ?_ _ | refine bel_trans ?_ (by with_reducible assumption) | (simp; done) | (simp; omega)))⟩)
 have HO0 : Hid True := Lib.hid trivial
 rw [← hwS]
 clear hwS
 refine wp_region_val Grows (fun _ _ _ => True) [Is (solV a), Is (solV x), Is (solV b), Is (solV y), Is (.bool q), Is (.bool q)] (by kernel_rfl) (by kernel_rfl) rfl Grows.refl (fun _ _ _ => Grows.trans) (stable_mem ⟨fun _ _ _ h _ => h, fun _ _ _ h _ => h, fun _ _ _ h _ => h, fun _ _ _ h _ => h, fun _ _ _ h _ => h, fun _ _ _ h _ => h, trivial⟩) wS0 (Below.drew (Below.refl _ _)) trivial ?_
 refine val_cons ?_ (fun v0 => ?_)
 ·intro L vs w1 hvs hat hb hI hF; try simp [factsI, Region.binds, Is] at hF
  have D := (HS0.out.1).grow (show Below _ _ _ from hb); have cD := D.cell; have lD := D.lt; clear D
  go_simp
  first | exact Grows.refl _ | exact ⟨Grows.refl _, trivial⟩
 refine val_cons ?_ (fun v1 => ?_)
 ·intro L vs w1 hvs hat hb hI hF; try simp [factsI, Region.binds, Is] at hF
  have hb0 := hb
  go_simp
  refine (HA.out _ (bel_trans HS0.out.2.2 (show Below _ _ _ from hb0))).mono ?_
  rintro e w2 ⟨rfl, hb2⟩
  first | exact ⟨rfl, hb2⟩ | exact ⟨_, rfl, hb2, trivial, rfl⟩ | exact ⟨_, rfl, hb2, rfl⟩
 refine val_cons ?_ (fun v2 => ?_)
 ·intro L vs w1 hvs hat hb hI hF; try simp [factsI, Region.binds, Is] at hF
  have D := (HS0.out.2.1).grow (show Below _ _ _ from hb); have cD := D.cell; have lD := D.lt; clear D
  go_simp
  first | exact Grows.refl _ | exact ⟨Grows.refl _, trivial⟩
 refine val_cons ?_ (fun v3 => ?_)
 ·intro L vs w1 hvs hat hb hI hF; try simp [factsI, Region.binds, Is] at hF
  have hb0 := hb
  go_simp
  refine (HB.out _ (bel_trans HS0.out.2.2 (show Below _ _ _ from hb0))).mono ?_
  rintro e w2 ⟨rfl, hb2⟩
  first | exact ⟨rfl, hb2⟩ | exact ⟨_, rfl, hb2, trivial, rfl⟩ | exact ⟨_, rfl, hb2, rfl⟩
 refine val_cons ?_ (fun v4 => ?_)
 ·intro L vs w1 hvs hat hb hI hF; try simp [factsI, Region.binds, Is] at hF
  have hq := HQ.out
  go_simp
  try rw [← hq]
  first | exact Grows.refl _ | exact ⟨Grows.refl _, trivial⟩
 refine val_cons ?_ (fun v5 => ?_)
 ·intro L vs w1 hvs hat hb hI hF; try simp [factsI, Region.binds, Is] at hF
  have hc := (Grows.cells hb).1
  clear hI
  go_simp
  try simp [upd]
  try first | exact Grows.refl _ | exact trivial | exact ⟨Grows.refl _, trivial⟩
 refine val_nil ?_
 intro vs w1 hvs hb hI hF
 simp [Is, Nat.forall_lt_succ_right] at hF
 simp only [Act.put, List.setIfInBounds_toArray, List.set_cons_succ, List.set_cons_zero, hF]
 clear hF
 have HF9 := Lib.hid (bel_trans HS0.out.2.2 (show Below _ _ w1 from hb))
 clear  hb hI hvs
 go_wp2_with fail
 go_ret
 exact ⟨rfl, HF9.out⟩
theorem refImage_0 (s : Sol) (W : World) : Calls Tryz.prog 103 #[solV s] W fun e w' => e = .returned (solV (imageS s 0)) ∧ Below W.heap.size W w' := by
 have e : imageS s 0 = cornS s := by unfold imageS; rw [spun_zero]
 rw [e]; exact refCornered_n s W
set_option maxHeartbeats 8000000 in
theorem refSymmetries_spec (s : Sol) (w : World) : Calls Tryz.prog 32 #[solV s] w fun e w' => ∃ u, e = .returned u ∧ OwnI w' w.heap.size u (natL (symL s)) ∧ Below w.heap.size w w' := by
 obtain ⟨i0, hi, hz0, hz1, hz2⟩ := info_parts infoInt
 have HI0 := Lib.hid (And.intro hi (And.intro hz0 (And.intro hz1 hz2))); clear hi hz0 hz1 hz2
 have HTu := Lib.hid fun t ht W => refTurned_t (t := t) s ht W
 have HCo := Lib.hid fun t W => refImage_t s t W
 have HC0 := Lib.hid fun W => refImage_0 s W
 obtain ⟨y, hy⟩ : ∃ x, x = imageS s 0 := ⟨_, rfl⟩
 rw [← hy] at HC0
 have HY := Lib.hid hy
 obtain ⟨R, hR⟩ : ∃ R, R = symL s := ⟨_, rfl⟩
 rw [← hR]
 have HR : Hid (R = symP s 24) := Lib.hid (by rw [hR, symP_end])
 clear hR hy
 go_enter Tryz.func32, Tryz.ntmps32
 go_wp2_with fail
 obtain ⟨W0, hW0⟩ : ∃ W0, W0 = w.alloc (.cells #[.int .u64 (pl s 0), .int .u64 (pl s 1), .int .u64 (pl s 2), .int .u64 (pl s 3), .int .u64 (pl s 4), .int .u64 (pl s 5), .int .u64 (pl s 6), .int .u64 (pl s 7)] 26) := ⟨_, rfl⟩
 have HB : Hid (Blk W0 w.heap.size #[.int .u64 (pl s 0), .int .u64 (pl s 1), .int .u64 (pl s 2), .int .u64 (pl s 3), .int .u64 (pl s 4), .int .u64 (pl s 5), .int .u64 (pl s 6), .int .u64 (pl s 7)] 26 ∧ Below w.heap.size w W0) := Lib.hid (by rw [hW0]; exact ⟨Blk.new _ _ _, (by repeat (first | with_reducible exact bel_refl _ | with_reducible assumption | with_reducible refine bel_drewN ?_ _ | with_reducible refine bel_drew ?_ | with_reducible refine bel_alloc ?_ _ | with_reducible refine bel_row ?_ ?_ _ | with_reducible refine bel_set ?_ ?_ _ | refine bel_trans ?_ (by with_reducible assumption) | (simp; done) | (simp; omega)))⟩)
 rw [← hW0]
 clear hW0
 go_loopw [3, 4] (fun ov tv wx => ∃ k : Nat, k ≤ 24 ∧ tv = .int .i64 k ∧ Hid (OwnI wx w.heap.size ov (natL (symP s k)) ∧ Blk wx w.heap.size #[.int .u64 (pl s 0), .int .u64 (pl s 1), .int .u64 (pl s 2), .int .u64 (pl s 3), .int .u64 (pl s 4), .int .u64 (pl s 5), .int .u64 (pl s 6), .int .u64 (pl s 7)] 26 ∧ Below w.heap.size w wx)) (fun _ tv _ => 24 - (intOf tv).toNat)
 case atStart => exact ⟨0, by omega, rfl, Lib.hid ⟨(show OwnI W0 w.heap.size (.slice none 0 0) (natL (symP s 0)) by rw [symP_zero]; exact World.ownsRow_nil _ _ _ _), HB.out⟩⟩
 case round =>
  clear HB
  obtain ⟨k, hk, rfl, HM⟩ := hrel
  by_cases hlt : k < 24
  ·have hd : decide ((k : Int) < 24) = true := decide_eq_true (by omega)
   have HT1 := Lib.hid fun W => HTu.out k hlt W
   have HC1 := Lib.hid fun W => HCo.out k W
   obtain ⟨p, hp⟩ : ∃ p, p = spunS s k := ⟨_, rfl⟩
   obtain ⟨x, hx⟩ : ∃ q, q = imageS s k := ⟨_, rfl⟩
   rw [← hp] at HT1 HC1
   rw [← hx] at HC1
   obtain ⟨q, hq⟩ : ∃ q, q = (x == y) := ⟨_, rfl⟩
   have HQ : Hid (q = (imageS s k == imageS s 0)) := Lib.hid (by rw [hq, hx, HY.out])
   have HQE : Hid ((x == y) = q) := Lib.hid hq.symm
   have hpl := symP_len s k
   have ho := HM.out.1
   unfold OwnI at ho
   rw [natL_length] at ho
   have HO := Lib.hid (And.intro ho HM.out.2)
   have cs := HM.out.2.1.cell; have ls := HM.out.2.1.lt
   clear hp hq hx ho HM
   go_wp2_with fail
   clear cs ls
   refine (HT1.out _).mono ?_
   rintro e1 w2 ⟨rfl, hb⟩
   obtain ⟨wA, hwA⟩ : ∃ x, x = w2.alloc (.cells #[.int .u64 (pl p 0), .int .u64 (pl p 1), .int .u64 (pl p 2), .int .u64 (pl p 3), .int .u64 (pl p 4), .int .u64 (pl p 5), .int .u64 (pl p 6), .int .u64 (pl p 7)] 26) := ⟨_, rfl⟩
   obtain ⟨gA, hgA⟩ : ∃ x, x = w2.heap.size := ⟨_, rfl⟩
   have HK : Hid (Blk wA gA #[.int .u64 (pl p 0), .int .u64 (pl p 1), .int .u64 (pl p 2), .int .u64 (pl p 3), .int .u64 (pl p 4), .int .u64 (pl p 5), .int .u64 (pl p 6), .int .u64 (pl p 7)] 26 ∧ wA.ownsRow w.heap.size 3 1 _ _ _ ∧ Blk wA w.heap.size #[.int .u64 (pl s 0), .int .u64 (pl s 1), .int .u64 (pl s 2), .int .u64 (pl s 3), .int .u64 (pl s 4), .int .u64 (pl s 5), .int .u64 (pl s 6), .int .u64 (pl s 7)] 26 ∧ Below w.heap.size w wA) := Lib.hid (by
    rw [hwA, hgA]
    exact ⟨Blk.new _ _ _, World.ownsRow.alloc (own_gb HO.out.1 hb) _, (HO.out.2.1.grow hb).alloc _, bel_alloc (bel_trans HO.out.2.2 hb) _⟩)
   go_upto_region 6 with fail
   rw [← hwA, ← hgA]
   clear hwA hgA hb HO
   refine wp_region_val Grows (fun _ _ _ => True) [Is (solV p), Is (solV x), Is (solV s), Is (solV y), Is (.bool q)] (by kernel_rfl) (by kernel_rfl) rfl Grows.refl (fun _ _ _ => Grows.trans) (stable_mem ⟨fun _ _ _ h _ => h, fun _ _ _ h _ => h, fun _ _ _ h _ => h, fun _ _ _ h _ => h, fun _ _ _ h _ => h, trivial⟩) wA (Below.drew (Below.refl _ _)) trivial ?_
   refine val_cons ?_ (fun v0 => ?_)
   ·intro L vs w1 hvs hat hb hI hF; try simp [factsI, Region.binds, Is] at hF
    have D := (HK.out.1).grow (show Below _ _ _ from hb); have cD := D.cell; have lD := D.lt; clear D
    go_simp
    first | exact Grows.refl _ | exact ⟨Grows.refl _, trivial⟩
   refine val_cons ?_ (fun v1 => ?_)
   ·intro L vs w1 hvs hat hb hI hF; try simp [factsI, Region.binds, Is] at hF
    have hb0 := hb
    go_simp
    refine (HC1.out _).mono ?_
    rintro e w2 ⟨rfl, hb2⟩
    first | exact ⟨rfl, hb2⟩ | exact ⟨_, rfl, hb2, trivial, rfl⟩ | exact ⟨_, rfl, hb2, rfl⟩
   refine val_cons ?_ (fun v2 => ?_)
   ·intro L vs w1 hvs hat hb hI hF; try simp [factsI, Region.binds, Is] at hF
    have D := (HK.out.2.2.1).grow (show Below _ _ _ from hb); have cD := D.cell; have lD := D.lt; clear D
    go_simp
    first | exact Grows.refl _ | exact ⟨Grows.refl _, trivial⟩
   refine val_cons ?_ (fun v3 => ?_)
   ·intro L vs w1 hvs hat hb hI hF; try simp [factsI, Region.binds, Is] at hF
    have hb0 := hb
    go_simp
    refine (HC0.out _).mono ?_
    rintro e w2 ⟨rfl, hb2⟩
    first | exact ⟨rfl, hb2⟩ | exact ⟨_, rfl, hb2, trivial, rfl⟩ | exact ⟨_, rfl, hb2, rfl⟩
   refine val_cons ?_ (fun v4 => ?_)
   ·intro L vs w1 hvs hat hb hI hF; try simp [factsI, Region.binds, Is] at hF
    have hq := HQE.out
    go_simp
    try rw [hq]
    first | exact Grows.refl _ | exact ⟨Grows.refl _, trivial⟩
   refine val_nil ?_
   intro vs w1 hvs hb hI hF
   simp [Is, Nat.forall_lt_succ_right] at hF
   simp only [Act.put, List.setIfInBounds_toArray, List.set_cons_succ, List.set_cons_zero, hF]
   clear hF
   have hbg : Below wA.heap.size wA w1 := hb
   have HK2 := Lib.hid (And.intro (own_gb HK.out.2.1 hbg) (And.intro (HK.out.2.2.1.grow hbg) (bel_trans HK.out.2.2.2 hbg)))
   clear hI hb hvs hbg HK
   obtain ⟨wb, hwb⟩ : ∃ wb, wb = w1 := ⟨_, rfl⟩
   rw [← hwb] at HK2 ⊢
   clear hwb
   have hbz2 := HK2.out.2.2.size
   cases q with
   | false =>
    go_wp2_with fail
    go_roundw
    case rel =>
     refine ⟨k + 1, by omega, by go_num, Lib.hid ⟨?_, HK2.out.2⟩⟩
     rw [symP_succ, ← HQ.out, if_neg (by simp)]
     unfold OwnI
     rw [natL_length]
     exact HK2.out.1
    case measure => simp [intOf]; omega
   | true =>
    go_wp2_with (first
     | (at_builtin; refine wpList_append_own _ rfl _ _ 38 rfl w.heap.size 3 i0 (.int .i64 0) 1 8 Tryz.underlying38 HI0.out.1 HI0.out.2.1 HI0.out.2.2.1 HI0.out.2.2.2 rfl (by decide) _ _ _ rfl (HK2.out.1.alloc _) ⟨wb.heap.size, 0, none⟩ 1 1 [.int .i64 (k : Int)] rfl rfl (cell_one_new _ _ _) (fun x hx => by simp at hx; subst hx; rfl) (by unfold maxLen; omega) (by omega) (by simp; omega) ?_; intro v' w3 hown' hgrow3 hnil3; clear hnil3))
    go_roundw
    case rel =>
     refine ⟨k + 1, by omega, by go_num, Lib.hid ⟨?_, ?_, (bel_alloc HK2.out.2.2 _).grown hgrow3 (by simp; omega) (fun j hj => (HK2.out.1.lt j hj).1)⟩⟩
     ·rw [symP_succ, ← HQ.out, if_pos rfl]
      unfold OwnI
      rw [natL_length, List.length_append]
      unfold natL at *
      rw [List.map_append, List.map_append]
      exact hown'
     ·exact (HK2.out.2.1.alloc _).gb hgrow3 (own_apart (HK2.out.1.alloc (.cells #[.int .i64 (k : Int)] 3)) (HK2.out.2.1.alloc (.cells #[.int .i64 (k : Int)] 3)) (by decide))
    case measure => simp [intOf]; omega
  ·obtain rfl : k = 24 := by omega
   have hd : decide (((24 : Nat) : Int) < 24) = false := by decide
   go_wp2_with fail
   go_ret
   exact ⟨_, rfl, by rw [HR.out]; exact HM.out.1, HM.out.2.2⟩
end Go.Proofs.YtkfimbonmnoglaaGreatDoor
end
