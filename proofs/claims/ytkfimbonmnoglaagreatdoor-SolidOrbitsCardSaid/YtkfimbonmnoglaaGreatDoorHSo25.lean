import Derived.Test.YtkfimbonmnoglaaGreatDoorG24
import Derived.Deep.Cut
/-
  Given contracts of functions of the program, and laws for them, one behind the other.
-/
set_option linter.unusedVariables false
set_option linter.unusedSimpArgs false
set_option linter.unusedSectionVars false
section
namespace Go.Solid
open Go.Draw
set_option maxRecDepth 100000
/-! SolidOrder: the order that Fits makes -/
def fitS (a b : Sol) : Bool := decide (b = 0) || (fitsL a b).head?.isSome
theorem fitS_iff {a b : Sol} : fitS a b = true ↔ b = 0 ∨ ∃ m, FitsM a b m := by
 unfold fitS
 by_cases hb : b = 0
 ·simp [hb]
 ·rw [Bool.or_eq_true, fits_head hb, decide_eq_true_eq]
theorem ord_refl (a : Sol) : fitS a a = true := fitS_iff.2 (.inr ⟨_, fits_refl a⟩)
theorem count_none : countS 0 = 0 := count_zero.2 rfl
theorem ord_count {a b : Sol} (h : fitS a b = true) : countS b ≤ countS a := by
 rcases fitS_iff.1 h with rfl | ⟨m, hm⟩
 ·rw [count_none]; exact Nat.zero_le _
 ·exact fits_count hm
theorem ord_trans {a b c : Sol} (h : fitS a b = true) (k : fitS b c = true) : fitS a c = true := by
 rcases fitS_iff.1 k with rfl | ⟨m, hm⟩
 ·exact fitS_iff.2 (.inl rfl)
 ·rcases fitS_iff.1 h with rfl | ⟨n, hn⟩
  ·have := fits_count hm
   rw [count_none] at this
   exact fitS_iff.2 (.inl (count_zero.1 (by omega)))
  ·exact fitS_iff.2 (.inr ⟨_, fits_trans hm hn⟩)
theorem ord_less {a b : Sol} (d : Sol) (h : fitS a b = true) : fitS a (b &&& ~~~d) = true := by
 have hs : subS (b &&& ~~~d) b = true := cut_sub b d
 rcases fitS_iff.1 h with rfl | ⟨m, hm⟩
 ·refine fitS_iff.2 (.inl ?_)
  have := count_le hs
  rw [count_none] at this
  exact count_zero.1 (by omega)
 ·exact fitS_iff.2 (.inr ⟨m, fits_less hm hs⟩)
theorem ord_join {a b : Sol} (d : Sol) (h : fitS a b = true) : fitS (a ||| d) b = true := by
 rcases fitS_iff.1 h with rfl | ⟨m, hm⟩
 ·exact fitS_iff.2 (.inl rfl)
 ·exact fitS_iff.2 (.inr ⟨m, fits_wide hm (subS_iff.2 fun c hc => or_has.2 (.inl hc))⟩)
end Go.Solid
end
section
namespace Go.Solid
open Go.Draw
set_option maxRecDepth 100000
/-! the laws without the reference, as they are asked -/
def sameB (a b : Sol) : Bool := countS a == countS b && canonS a == canonS b
theorem canon_zero {a : Sol} (h : canonS a = canonS 0) : a = 0 := by
 have := canon_count a
 rw [h, canon_count, count_none] at this
 exact count_zero.1 this.symm
theorem both_law (a b : Sol) : (sameB a b == (fitS a b && fitS b a)) = true ∧ (sameB a b == (canonS a == canonS b)) = true := by
 have h1 : sameB a b = (canonS a == canonS b) := by
  unfold sameB
  by_cases h : canonS a = canonS b
  ·have : countS a = countS b := by rw [← canon_count a, h, canon_count]
   rw [this, beq_self_eq_true, Bool.true_and]
  ·rw [beq_eq_false_iff_ne.2 h, Bool.and_false]
 have h2 : (fitS a b && fitS b a) = (canonS a == canonS b) := by
  rw [Bool.eq_iff_iff, Bool.and_eq_true, beq_iff_eq]
  constructor
  ·rintro ⟨h, k⟩
   have hc1 := ord_count h
   have hc2 := ord_count k
   by_cases hb : b = 0
   ·subst hb
    rw [count_none] at hc2
    rw [count_zero.1 (Nat.le_zero.1 hc2)]
   ·have ha : a ≠ 0 := fun e => by
     subst e
     rw [count_none] at hc1
     exact hb (count_zero.1 (Nat.le_zero.1 hc1))
    rcases fitS_iff.1 h with e | ⟨m, hm⟩
    ·exact absurd e hb
    rcases fitS_iff.1 k with e | ⟨n, hn⟩
    ·exact absurd e ha
    exact fits_both hm hn
  ·intro h
   by_cases ha : a = 0
   ·subst ha
    have hb := canon_zero h.symm
    subst hb
    exact ⟨ord_refl 0, ord_refl 0⟩
   ·have hb : b ≠ 0 := fun e => by subst e; exact ha (canon_zero h)
    exact ⟨fitS_iff.2 (.inr (congr_fits ha h)), fitS_iff.2 (.inr (congr_fits hb h.symm))⟩
 rw [h1, h2]
 exact ⟨beq_self_eq_true _, beq_self_eq_true _⟩
theorem orbit_at {s x : Sol} (h : x ∈ imagesS s) : canonS x = canonS s ∧ (symL x).length = (symL s).length := by
 obtain ⟨t, ht, rfl⟩ := mem_images.1 h
 exact ⟨canon_image ht, sym_image ht⟩
theorem turns_law (s : Sol) (t u : Int) (h : (thenM (t, (0, 0, 0)) (u, (0, 0, 0))).2 = 0) :
  (turnedM s (thenM (t, (0, 0, 0)) (u, (0, 0, 0))).1.1) = ((turnedM (turnedM s t).1 u).1, 0) ∧ (thenM (t, (0, 0, 0)) (u, (0, 0, 0))).1.2 = (0, 0, 0) := by
 have hz : (thenM (t, (0, 0, 0)) (u, (0, 0, 0))).1.2 = (0, 0, 0) := by
  unfold thenM
  split
  ·simp only
   split
   ·rw [movT_zero]; unfold addC; simp
   ·rfl
  ·rfl
 by_cases ht : inB t 0 23 = true
 ·by_cases hu : inB u 0 23 = true
  ·have e1 : turnedM s t = (spunS s t.toNat, 0) := by unfold turnedM; rw [if_pos ht]
   have e2 : turnedM (spunS s t.toNat) u = (spunS (spunS s t.toNat) u.toNat, 0) := by unfold turnedM; rw [if_pos hu]
   have h1 : placedM s t (0, 0, 0) = (spunS s t.toNat, 0) := by rw [← turned_placed, e1]
   have h2 : placedM (spunS s t.toNat) u (0, 0, 0) = (spunS (spunS s t.toNat) u.toNat, 0) := by rw [← turned_placed, e2]
   have h3 := then_law (m := (t, (0, 0, 0))) (n := (u, (0, 0, 0))) h1 h2 h
   rw [hz, ← turned_placed] at h3
   rw [e1, e2]
   exact ⟨h3, hz⟩
  ·exfalso
   have hr : ¬ (rightB u (0, 0, 0) = true) := fun hr => hu (inB_iff.2 (rightB_iff.1 hr).1)
   have hr' : rightB u (0, 0, 0) = false := by simpa using hr
   unfold thenM at h
   rw [if_neg (by simp [hr'])] at h
   cases h
 ·exfalso
  have hr : ¬ (rightB t (0, 0, 0) = true) := fun hr => ht (inB_iff.2 (rightB_iff.1 hr).1)
  have hr' : rightB t (0, 0, 0) = false := by simpa using hr
  unfold thenM at h
  rw [if_neg (by simp [hr'])] at h
  cases h
theorem alike_mir (a : Nat) (s : Sol) : Alike (imgS (apS (mirS a)) s) s := alike_ap (undo_mir a) s
end Go.Solid
end
section
namespace Go.Proofs.YtkfimbonmnoglaaGreatDoor
open Go.RowKit Go.Rel Go.Draw Go.Solid
set_option maxRecDepth 100000
attribute [local go_sem] Oper.semAt_some
/-! SolidOrbits -/
theorem sym_call (s : Sol) (w : World) (hT : Tab w) : Calls Tryz.prog 31 #[solV s] w fun e w' => (∃ p c, e = .returned (.slice p (symL s).length c)) ∧ Below w.heap.size w w' := (symmetries_spec s w hT).mono fun e w' he => by
 obtain ⟨u, h1, h2, h3⟩ := he
 obtain ⟨p, c, hv, _, _⟩ := own_shape' h2
 exact ⟨⟨p, c, by rw [h1, hv]; unfold natL; rw [List.length_map]⟩, h3⟩
def IsLn (n : Nat) : Value → World → Prop := fun v _ => ∃ p c, v = .slice p n c
theorem images_call (s : Sol) (w : World) (hT : Tab w) : Calls Tryz.prog 34 #[solV s] w fun e w' => (∃ b off c, e = .returned (.slice (some ⟨b, off, none⟩) (imagesS s).length c) ∧ Cells w' b off 8 ((imagesS s).map solL)) ∧ Below w.heap.size w w' := (images_spec s w hT).mono fun e w' he => by
 obtain ⟨v, h1, h2, h3⟩ := he
 rcases Sl.cases h2 with ⟨h, _⟩ | ⟨b, off, c, hv, _, _, _, hc⟩
 ·obtain ⟨l, hl⟩ := images_ne s
  rw [hl] at h; cases h
 ·exact ⟨⟨b, off, c, by rw [h1, hv, List.length_map], hc⟩, h3⟩
theorem images_24 (s : Sol) : 0 < (imagesS s).length ∧ (imagesS s).length ≤ 24 ∧ (symL s).length ≤ 24 := by
 have h := orbit_law s
 generalize (imagesS s).length = a at h ⊢
 generalize (symL s).length = b at h ⊢
 have h1 : 0 < a := Nat.pos_of_ne_zero fun e => by subst e; rw [Nat.zero_mul] at h; cases h
 have h2 : 0 < b := Nat.pos_of_ne_zero fun e => by subst e; rw [Nat.mul_zero] at h; cases h
 have h3 : a ≤ a * b := Nat.le_mul_of_pos_right a h2
 have h4 : b ≤ a * b := Nat.le_mul_of_pos_left b h1
 omega
theorem wrap_u64 (n : Int) : ∃ u : Nat, IntKind.u64.wrap n = (u : Int) ∧ u < 18446744073709551616 := by
 have h : 0 ≤ IntKind.u64.wrap n ∧ IntKind.u64.wrap n < 18446744073709551616 := by
  unfold IntKind.wrap
  simp [IntKind.signed, IntKind.bits]
  omega
 exact ⟨(IntKind.u64.wrap n).toNat, by omega, by omega⟩
set_option maxHeartbeats 16000000 in
theorem SolidOrbits_walk (s : Sol) (wh : Int) (w : World) (hT : Tab w) (hC : ∀ W, Below w.heap.size w W → Calls Tryz.prog 25 #[] W fun e w' => e = .returned (.bool true) ∧ Below W.heap.size W w') :
  Calls Tryz.prog 8 #[solV s, .int .i64 wh] w fun e w' => e = .returned (.bool true) ∧ Below w.heap.size w w' := by
 have HT := Lib.hid (fun W (hb : Below w.heap.size w W) => hT.grow hb)
 have HC := Lib.hid hC
 clear hT hC
 have HI := Lib.hid fun W (hb : Below w.heap.size w W) => images_call s W (HT.out W hb)
 have HS := Lib.hid fun (x : Sol) W (hb : Below w.heap.size w W) => sym_call x W (HT.out W hb)
 have HK := Lib.hid fun (x : Sol) W (hb : Below w.heap.size w W) => canon_spec x W (HT.out W hb)
 have h24 := orbit_law s
 obtain ⟨hi0, hi24, hs24⟩ := images_24 s
 have hat : ∀ x ∈ imagesS s, canonS x = canonS s ∧ (symL x).length = (symL s).length := fun x hx => orbit_at hx
 have hfst : (imagesS s)[0]? = some (canonS s) := by obtain ⟨l, hl⟩ := images_ne s; rw [hl]; rfl
 obtain ⟨L, hL⟩ : ∃ L, L = imagesS s := ⟨_, rfl⟩
 obtain ⟨K, hK⟩ : ∃ L, L = canonS s := ⟨_, rfl⟩
 obtain ⟨m, hm⟩ : ∃ L, L = (symL s).length := ⟨_, rfl⟩
 have HSs := Lib.hid fun W hb => HS.out s W hb
 have HKs := Lib.hid fun W hb => HK.out s W hb
 rw [← hL] at h24 hi0 hi24 hat hfst HI
 rw [← hm] at h24 hat HSs hs24
 rw [← hK] at hat hfst HKs
 clear hL hK hm
 obtain ⟨n, hn⟩ : ∃ n, n = L.length := ⟨_, rfl⟩
 rw [← hn] at h24 hi0 hi24 HI
 obtain ⟨u, hu1, hu2⟩ := wrap_u64 wh
 have hk : u % n < n := Nat.mod_lt _ hi0
 obtain ⟨k, hkk⟩ : ∃ k, k = u % n := ⟨_, rfl⟩
 rw [← hkk] at hk
 have hx : ∃ x, L[k]? = some x := ⟨L[k]'(by omega), by simp [← hn, hk]⟩
 obtain ⟨x, hx⟩ := hx
 have hax := hat x (List.mem_of_getElem? hx)
 have HSx := Lib.hid fun W hb => HS.out x W hb
 have HKx := Lib.hid fun W hb => HK.out x W hb
 rw [hax.2] at HSx
 rw [hax.1] at HKx
 have x1 : IntKind.i64.wrap ((n : Int) * (m : Int)) = 24 := by rw [← Int.natCast_mul, h24]; exact IntWalk.i64_in _ ⟨by omega, by omega⟩
 have x2 : IntKind.u64.wrap (n : Int) = (n : Int) := by unfold IntKind.wrap; simp [IntKind.signed, IntKind.bits]; omega
 have x3 : wrap64 ((u : Int) % (n : Int)) = (k : Int) := by rw [← Int.natCast_emod, ← hkk]; exact IntWalk.wrap64_in _ ⟨by omega, by omega⟩
 have HX := Lib.hid (And.intro hx hfst)
 have HN := Lib.hid (And.intro hn (And.intro hk (And.intro hkk (And.intro hi24 hi0))))
 clear hx hfst hax hat h24 hs24 HS HK hkk hn hu2
 go_enter Tryz.func8, Tryz.ntmps8
 go_wp2_with fail
 obtain ⟨wO, hw1⟩ : ∃ wO, wO = w.alloc (.cells #[.int .u64 (pl s 0), .int .u64 (pl s 1), .int .u64 (pl s 2), .int .u64 (pl s 3), .int .u64 (pl s 4), .int .u64 (pl s 5), .int .u64 (pl s 6), .int .u64 (pl s 7)] 26) := ⟨_, rfl⟩
 have bs : Blk wO w.heap.size #[.int .u64 (pl s 0), .int .u64 (pl s 1), .int .u64 (pl s 2), .int .u64 (pl s 3), .int .u64 (pl s 4), .int .u64 (pl s 5), .int .u64 (pl s 6), .int .u64 (pl s 7)] 26 ∧ Below w.heap.size w wO := by
  rw [hw1]
  exact ⟨Blk.new _ _ _, bel_alloc (bel_refl w) _⟩
 rw [← hw1]
 have HB := Lib.hid bs
 clear hw1 bs
 refine (HI.out _ HB.out.2).mono ?_
 rintro e1 w2 ⟨⟨b, off, c, rfl, hcs⟩, hb⟩
 have HB2 : Hid (Below wO.heap.size wO w2) := Lib.hid hb
 have HCs := Lib.hid hcs
 clear hb hcs
 have cs := (HB.out.1.grow HB2.out).cell; have ls := (HB.out.1.grow HB2.out).lt
 go_wp2_with fail
 clear cs ls
 refine (HSs.out _ (bel_trans HB.out.2 HB2.out)).mono ?_
 rintro e1 w3 ⟨⟨p3, c3, rfl⟩, hb⟩
 have HB3 : Hid (Below wO.heap.size wO w3) := Lib.hid (bel_trans HB2.out hb)
 have HC3 := Lib.hid (Cells.mono HCs.out hb HCs.out.1)
 clear hb HCs
 go_upto_region 5 with fail
 have cz := sol_cells HC3.out HX.out.1
 obtain ⟨z0, z1, z2, z3, z4, z5, z6, z7⟩ := cz
 have lz := HC3.out.1
 have hkn := HN.out.2.1
 go_wp2_with fail
 clear z0 z1 z2 z3 z4 z5 z6 z7 lz hkn x3
 obtain ⟨wA, hwA⟩ : ∃ y, y = w3.alloc (.cells #[.int .u64 (pl x 0), .int .u64 (pl x 1), .int .u64 (pl x 2), .int .u64 (pl x 3), .int .u64 (pl x 4), .int .u64 (pl x 5), .int .u64 (pl x 6), .int .u64 (pl x 7)] 26) := ⟨_, rfl⟩
 have hA : Blk wA w3.heap.size #[.int .u64 (pl x 0), .int .u64 (pl x 1), .int .u64 (pl x 2), .int .u64 (pl x 3), .int .u64 (pl x 4), .int .u64 (pl x 5), .int .u64 (pl x 6), .int .u64 (pl x 7)] 26 ∧ Blk wA w.heap.size #[.int .u64 (pl s 0), .int .u64 (pl s 1), .int .u64 (pl s 2), .int .u64 (pl s 3), .int .u64 (pl s 4), .int .u64 (pl s 5), .int .u64 (pl s 6), .int .u64 (pl s 7)] 26 ∧ Below w.heap.size w wA ∧ Cells wA b off 8 (L.map solL) := by
  rw [hwA]
  exact ⟨Blk.new _ _ _, (HB.out.1.grow HB3.out).alloc _, bel_alloc (bel_trans HB.out.2 HB3.out) _, Cells.mono HC3.out (bel_alloc (bel_refl _) _) HC3.out.1⟩
 obtain ⟨g, hg⟩ : ∃ y, y = w3.heap.size := ⟨_, rfl⟩
 rw [← hwA, ← hg]
 rw [← hg] at hA
 clear hwA hg HB HB3 HC3
 have HA := Lib.hid hA
 clear hA
 refine wp_region_val Grows (fun _ _ _ => True) [Is (.bool true), Is (.bool true), Is (solV x), Is (solV K), Is (solV s), Is (solV K), Is (.bool true), Is (.bool true), Is (.bool true), Is (solV x), IsLn m, Is (.int .i64 (m : Int)), Is (.int .i64 (m : Int)), Is (.bool true), Is (.bool true), Is (.bool true), Is (.slice (some ⟨b, off, none⟩) n c), Is (.pointer (some ⟨b, off, none⟩)), Is (solV K), Is (solV s), Is (solV K), Is (.bool true), Is (.bool true), Is (.bool true)] (by kernel_rfl) (by kernel_rfl) rfl Grows.refl (fun _ _ _ => Grows.trans) (stable_mem ⟨fun _ _ _ h _ => h, fun _ _ _ h _ => h, fun _ _ _ h _ => h, fun _ _ _ h _ => h, fun _ _ _ h _ => h, fun _ _ _ h _ => h, fun _ _ _ h _ => h, fun _ _ _ h _ => h, fun _ _ _ h _ => h, fun _ _ _ h _ => h, fun _ _ _ h _ => h, fun _ _ _ h _ => h, fun _ _ _ h _ => h, fun _ _ _ h _ => h, fun _ _ _ h _ => h, fun _ _ _ h _ => h, fun _ _ _ h _ => h, fun _ _ _ h _ => h, fun _ _ _ h _ => h, fun _ _ _ h _ => h, fun _ _ _ h _ => h, fun _ _ _ h _ => h, fun _ _ _ h _ => h, fun _ _ _ h _ => h, trivial⟩) wA (Below.drew (Below.refl _ _)) trivial ?_
 refine val_cons ?_ (fun v0 => ?_)
 ·intro L vs w1 hvs hat hb hI hF; try simp [factsI, Region.binds, Is] at hF
  have hb0 := hb
  go_simp
  refine (HC.out _ (bel_trans HA.out.2.2.1 (show Below _ _ _ from hb0))).mono ?_
  rintro e w2 ⟨rfl, hb2⟩
  first | exact ⟨rfl, hb2⟩ | exact ⟨_, rfl, hb2, trivial, rfl⟩ | exact ⟨_, rfl, hb2, rfl⟩
 refine val_cons ?_ (fun v1 => ?_)
 ·intro L vs w1 hvs hat hb hI hF; try simp [factsI, Region.binds, Is] at hF
  have hc := (Grows.cells hb).1
  clear hI
  go_simp
  try simp [upd]
  try first | exact Grows.refl _ | exact trivial | exact ⟨Grows.refl _, trivial⟩
 refine val_cons ?_ (fun v2 => ?_)
 ·intro L vs w1 hvs hat hb hI hF; try simp [factsI, Region.binds, Is] at hF
  have D := (HA.out.1).grow (show Below _ _ _ from hb); have cD := D.cell; have lD := D.lt; clear D
  go_simp
  first | exact Grows.refl _ | exact ⟨Grows.refl _, trivial⟩
 refine val_cons ?_ (fun v3 => ?_)
 ·intro L vs w1 hvs hat hb hI hF; try simp [factsI, Region.binds, Is] at hF
  have hb0 := hb
  go_simp
  refine (HKx.out _ (bel_trans HA.out.2.2.1 (show Below _ _ _ from hb0))).mono ?_
  rintro e w2 ⟨rfl, hb2⟩
  first | exact ⟨rfl, hb2⟩ | exact ⟨_, rfl, hb2, trivial, rfl⟩ | exact ⟨_, rfl, hb2, rfl⟩
 refine val_cons ?_ (fun v4 => ?_)
 ·intro L vs w1 hvs hat hb hI hF; try simp [factsI, Region.binds, Is] at hF
  have D := (HA.out.2.1).grow (show Below _ _ _ from hb); have cD := D.cell; have lD := D.lt; clear D
  go_simp
  first | exact Grows.refl _ | exact ⟨Grows.refl _, trivial⟩
 refine val_cons ?_ (fun v5 => ?_)
 ·intro L vs w1 hvs hat hb hI hF; try simp [factsI, Region.binds, Is] at hF
  have hb0 := hb
  go_simp
  refine (HKs.out _ (bel_trans HA.out.2.2.1 (show Below _ _ _ from hb0))).mono ?_
  rintro e w2 ⟨rfl, hb2⟩
  first | exact ⟨rfl, hb2⟩ | exact ⟨_, rfl, hb2, trivial, rfl⟩ | exact ⟨_, rfl, hb2, rfl⟩
 refine val_cons ?_ (fun v6 => ?_)
 ·intro L vs w1 hvs hat hb hI hF; try simp [factsI, Region.binds, Is] at hF
  have hc := (Grows.cells hb).1
  clear hI
  go_simp
  try simp [upd]
  try first | exact Grows.refl _ | exact trivial | exact ⟨Grows.refl _, trivial⟩
 refine val_cons ?_ (fun v7 => ?_)
 ·intro L vs w1 hvs hat hb hI hF; try simp [factsI, Region.binds, Is] at hF
  have hc := (Grows.cells hb).1
  clear hI
  go_simp
  try simp [upd]
  try first | exact Grows.refl _ | exact trivial | exact ⟨Grows.refl _, trivial⟩
 refine val_cons ?_ (fun v8 => ?_)
 ·intro L vs w1 hvs hat hb hI hF; try simp [factsI, Region.binds, Is] at hF
  have hc := (Grows.cells hb).1
  clear hI
  go_simp
  try simp [upd]
  try first | exact Grows.refl _ | exact trivial | exact ⟨Grows.refl _, trivial⟩
 refine val_cons ?_ (fun v9 => ?_)
 ·intro L vs w1 hvs hat hb hI hF; try simp [factsI, Region.binds, Is] at hF
  have D := (HA.out.1).grow (show Below _ _ _ from hb); have cD := D.cell; have lD := D.lt; clear D
  go_simp
  first | exact Grows.refl _ | exact ⟨Grows.refl _, trivial⟩
 refine val_cons ?_ (fun v10 => ?_)
 ·intro L vs w1 hvs hat hb hI hF; try simp [factsI, Region.binds, Is] at hF
  have hb0 := hb
  go_simp
  refine (HSx.out _ (bel_trans HA.out.2.2.1 (show Below _ _ _ from hb0))).mono ?_
  rintro e w2 ⟨⟨pp, cc, rfl⟩, hb2⟩
  first | exact ⟨rfl, hb2⟩ | exact ⟨_, rfl, hb2, trivial, ⟨pp, cc, rfl⟩⟩ | exact ⟨_, rfl, hb2, ⟨pp, cc, rfl⟩⟩
 refine val_cons ?_ (fun v11 => ?_)
 ·intro L vs w1 hvs hat hb hI hF; try simp [factsI, Region.binds, Is] at hF
  have hF2 : IsLn m v10 w1 := by first | exact hF | exact hF.1 | exact hF.2 | exact hF.1.1 | exact hF.1.2 | exact hF.2.1 | exact hF.2.2
  obtain ⟨pp, cc, hv⟩ := hF2
  subst hv
  go_simp
  first | exact Grows.refl _ | exact ⟨Grows.refl _, trivial⟩
 refine val_cons ?_ (fun v12 => ?_)
 ·intro L vs w1 hvs hat hb hI hF; try simp [factsI, Region.binds, Is] at hF
  have hc := (Grows.cells hb).1
  clear hI
  go_simp
  try simp [upd]
  try first | exact Grows.refl _ | exact trivial | exact ⟨Grows.refl _, trivial⟩
 refine val_cons ?_ (fun v13 => ?_)
 ·intro L vs w1 hvs hat hb hI hF; try simp [factsI, Region.binds, Is] at hF
  have hc := (Grows.cells hb).1
  clear hI
  go_simp
  try simp [upd]
  try first | exact Grows.refl _ | exact trivial | exact ⟨Grows.refl _, trivial⟩
 refine val_cons ?_ (fun v14 => ?_)
 ·intro L vs w1 hvs hat hb hI hF; try simp [factsI, Region.binds, Is] at hF
  have hc := (Grows.cells hb).1
  clear hI
  go_simp
  try simp [upd]
  try first | exact Grows.refl _ | exact trivial | exact ⟨Grows.refl _, trivial⟩
 refine val_cons ?_ (fun v15 => ?_)
 ·intro L vs w1 hvs hat hb hI hF; try simp [factsI, Region.binds, Is] at hF
  have hc := (Grows.cells hb).1
  clear hI
  go_simp
  try simp [upd]
  try first | exact Grows.refl _ | exact trivial | exact ⟨Grows.refl _, trivial⟩
 refine val_cons ?_ (fun v16 => ?_)
 ·intro L vs w1 hvs hat hb hI hF; try simp [factsI, Region.binds, Is] at hF
  have hc := (Grows.cells hb).1
  clear hI
  go_simp
  try simp [upd]
  try first | exact Grows.refl _ | exact trivial | exact ⟨Grows.refl _, trivial⟩
 refine val_cons ?_ (fun v17 => ?_)
 ·intro L vs w1 hvs hat hb hI hF; try simp [factsI, Region.binds, Is] at hF
  have hn0 := HN.out.2.2.2.2
  go_simp
  first | exact Grows.refl _ | exact ⟨Grows.refl _, trivial⟩ | (try simp; first | exact Grows.refl _ | exact ⟨Grows.refl _, trivial⟩)
 refine val_cons ?_ (fun v18 => ?_)
 ·intro L vs w1 hvs hat hb hI hF; try simp [factsI, Region.binds, Is] at hF
  have hb0 := hb
  have HCw := Cells.mono HA.out.2.2.2 (show Below _ _ _ from hb0) HA.out.2.2.2.1
  have cz := sol_cells HCw HX.out.2
  rw [Nat.zero_mul, Nat.add_zero] at cz
  obtain ⟨z0, z1, z2, z3, z4, z5, z6, z7⟩ := cz
  have lz := HCw.1
  clear HCw
  go_simp
  first | exact Grows.refl _ | exact ⟨Grows.refl _, trivial⟩
 refine val_cons ?_ (fun v19 => ?_)
 ·intro L vs w1 hvs hat hb hI hF; try simp [factsI, Region.binds, Is] at hF
  have D := (HA.out.2.1).grow (show Below _ _ _ from hb); have cD := D.cell; have lD := D.lt; clear D
  go_simp
  first | exact Grows.refl _ | exact ⟨Grows.refl _, trivial⟩
 refine val_cons ?_ (fun v20 => ?_)
 ·intro L vs w1 hvs hat hb hI hF; try simp [factsI, Region.binds, Is] at hF
  have hb0 := hb
  go_simp
  refine (HKs.out _ (bel_trans HA.out.2.2.1 (show Below _ _ _ from hb0))).mono ?_
  rintro e w2 ⟨rfl, hb2⟩
  first | exact ⟨rfl, hb2⟩ | exact ⟨_, rfl, hb2, trivial, rfl⟩ | exact ⟨_, rfl, hb2, rfl⟩
 refine val_cons ?_ (fun v21 => ?_)
 ·intro L vs w1 hvs hat hb hI hF; try simp [factsI, Region.binds, Is] at hF
  have hc := (Grows.cells hb).1
  clear hI
  go_simp
  try simp [upd]
  try first | exact Grows.refl _ | exact trivial | exact ⟨Grows.refl _, trivial⟩
 refine val_cons ?_ (fun v22 => ?_)
 ·intro L vs w1 hvs hat hb hI hF; try simp [factsI, Region.binds, Is] at hF
  have hc := (Grows.cells hb).1
  clear hI
  go_simp
  try simp [upd]
  try first | exact Grows.refl _ | exact trivial | exact ⟨Grows.refl _, trivial⟩
 refine val_cons ?_ (fun v23 => ?_)
 ·intro L vs w1 hvs hat hb hI hF; try simp [factsI, Region.binds, Is] at hF
  have hc := (Grows.cells hb).1
  clear hI
  go_simp
  try simp [upd]
  try first | exact Grows.refl _ | exact trivial | exact ⟨Grows.refl _, trivial⟩
 refine val_nil ?_
 intro vs w1 hvs hb hI hF
 simp [Is, Nat.forall_lt_succ_right] at hF
 have e0 := hF.1.1.1.1.1.1.1.1.1.1.1.1.1.1.1.1.1.1.1.1.1.1.1
 have e1 := hF.1.1.1.1.1.1.1.1.1.1.1.1.1.1.1.1.1.1.1.1.1.1.2
 have e2 := hF.1.1.1.1.1.1.1.1.1.1.1.1.1.1.1.1.1.1.1.1.1.2
 have e3 := hF.1.1.1.1.1.1.1.1.1.1.1.1.1.1.1.1.1.1.1.1.2
 have e4 := hF.1.1.1.1.1.1.1.1.1.1.1.1.1.1.1.1.1.1.1.2
 have e5 := hF.1.1.1.1.1.1.1.1.1.1.1.1.1.1.1.1.1.1.2
 have e6 := hF.1.1.1.1.1.1.1.1.1.1.1.1.1.1.1.1.1.2
 have e7 := hF.1.1.1.1.1.1.1.1.1.1.1.1.1.1.1.1.2
 have e8 := hF.1.1.1.1.1.1.1.1.1.1.1.1.1.1.1.2
 have e9 := hF.1.1.1.1.1.1.1.1.1.1.1.1.1.1.2
 have e10 := hF.1.1.1.1.1.1.1.1.1.1.1.1.1.2
 have e11 := hF.1.1.1.1.1.1.1.1.1.1.1.1.2
 have e12 := hF.1.1.1.1.1.1.1.1.1.1.1.2
 have e13 := hF.1.1.1.1.1.1.1.1.1.1.2
 have e14 := hF.1.1.1.1.1.1.1.1.1.2
 have e15 := hF.1.1.1.1.1.1.1.1.2
 have e16 := hF.1.1.1.1.1.1.1.2
 have e17 := hF.1.1.1.1.1.1.2
 have e18 := hF.1.1.1.1.1.2
 have e19 := hF.1.1.1.1.2
 have e20 := hF.1.1.1.2
 have e21 := hF.1.1.2
 have e22 := hF.1.2
 have e23 := hF.2
 clear hF
 simp only [Act.put, List.setIfInBounds_toArray, List.set_cons_succ, List.set_cons_zero, e0, e1, e2, e3, e4, e5, e6, e7, e8, e9, e11, e12, e13, e14, e15, e16, e17, e18, e19, e20, e21, e22, e23]
 clear e0 e1 e2 e3 e4 e5 e6 e7 e8 e9 e11 e12 e13 e14 e15 e16 e17 e18 e19 e20 e21 e22 e23
 have hbw := bel_trans HA.out.2.2.1 (show Below wA.heap.size wA w1 from hb)
 have HF9 := Lib.hid hbw
 clear e10 hbw hb hI hvs
 go_wp2_with fail
 go_ret
 exact ⟨rfl, HF9.out⟩
end Go.Proofs.YtkfimbonmnoglaaGreatDoor
end
