import Derived.Test.YtkfimbonmnoglaaGreatDoorG32
import Derived.Test.YtkfimbonmnoglaaGreatDoorHSo32
import Derived.Deep.Cut
/-
  Given contracts of functions of the program, and laws for them, one behind the other.
-/
set_option linter.unusedVariables false
set_option linter.unusedSimpArgs false
set_option linter.unusedSectionVars false
section
namespace Go.Proofs.YtkfimbonmnoglaaGreatDoor
open Go.RowKit Go.Rel Go.Draw Go.Solid
set_option maxRecDepth 100000
attribute [local go_sem] Oper.semAt_some
/-! SolidTunnels -/
theorem mir_ap (a : Nat) : mirC a = apS (mirS a) := by
 funext c
 unfold mirC apS mirS
 by_cases h0 : a = 0
 ·simp only [h0, if_true]; rfl
 ·by_cases h1 : a = 1
  ·simp only [h1, if_true]; rfl
  ·simp only [h0, h1, if_false]; rfl
theorem alike_mirrored {s q : Sol} {a : Int} (h : mirroredM s a = (q, 0)) : Go.Solid.Alike q s := by
 unfold mirroredM at h
 split at h
 ·have := (Prod.mk.inj h).1
  rw [← this, mir_ap]
  exact alike_ap (undo_mir _) s
 ·have := (Prod.mk.inj h).2
  cases this
/-- what of a solid is the same for one that is alike -/
def AlikeH (q s : Sol) : Prop := countS q = countS s ∧ (partsS q).length = (partsS s).length ∧ tunS q = tunS s ∧ skinS q = skinS s ∧ (cavsS q).length = (cavsS s).length
theorem Alike_h {q s : Sol} (h : Go.Solid.Alike q s) : AlikeH q s := ⟨h.count, h.parts, by unfold tunS; rw [h.parts, h.cavs, h.euler], h.skin, h.cavs⟩
theorem tun_eq (s : Sol) : tunS s = ((partsS s).length : Int) + (cavsS s).length - eulerS s := rfl
theorem parts_call (s : Sol) (w : World) (hT : Tab w) : Calls Tryz.prog 37 #[solV s] w fun e w' => (∃ p c, e = .returned (.slice p (partsS s).length c)) ∧ Below w.heap.size w w' := (parts_spec s w hT).mono fun e w' he => by
 obtain ⟨⟨u, h1, h2⟩, h3⟩ := he
 obtain ⟨p, c, hv, _, _⟩ := own_shape' h2
 exact ⟨⟨p, c, by rw [h1, hv]⟩, h3⟩
theorem cavs_call (s : Sol) (w : World) (hT : Tab w) : Calls Tryz.prog 39 #[solV s] w fun e w' => (∃ p c, e = .returned (.slice p (cavsS s).length c)) ∧ Below w.heap.size w w' := (cavs_spec s w hT).mono fun e w' he => by
 obtain ⟨⟨u, h1, h2⟩, h3⟩ := he
 obtain ⟨p, c, hv, _, _⟩ := own_shape' h2
 exact ⟨⟨p, c, by rw [h1, hv]⟩, h3⟩
attribute [local irreducible] placedM mirroredM
set_option maxHeartbeats 16000000 in
theorem SolidTunnels_walk (s : Sol) (tt : Int) (d : Cl) (ax : Int) (w : World) (hT : Tab w) (hC : ∀ W, Below w.heap.size w W → Calls Tryz.prog 25 #[] W fun e w' => e = .returned (.bool true) ∧ Below W.heap.size W w') :
  Calls Tryz.prog 17 #[solV s, motV tt d, .int .i64 ax] w fun e w' => e = .returned (.bool true) ∧ Below w.heap.size w w' := by
 have HT := Lib.hid (fun W (hb : Below w.heap.size w W) => hT.grow hb)
 have HC := Lib.hid hC
 clear hT hC
 have HP := Lib.hid fun (x : Sol) W (hb : Below w.heap.size w W) => parts_call x W (HT.out W hb)
 have HV := Lib.hid fun (x : Sol) W (hb : Below w.heap.size w W) => cavs_call x W (HT.out W hb)
 have HE := Lib.hid fun W (hb : Below w.heap.size w W) => euler_spec (w := W) s (HT.out W hb)
 have HU := Lib.hid fun (x : Sol) W (hb : Below w.heap.size w W) => tunnels_spec x W (HT.out W hb)
 have HK := Lib.hid fun (x : Sol) W (hb : Below w.heap.size w W) => skin_spec (w := W) x (HT.out W hb)
 have HN := Lib.hid fun (x : Sol) W (hb : Below w.heap.size w W) => count_spec x W
 have HPl := Lib.hid fun W (hb : Below w.heap.size w W) => placed_n s tt d W (HT.out W hb)
 have HMi := Lib.hid fun (x : Sol) W (hb : Below w.heap.size w W) => mirrored_n x ax W (HT.out W hb)
 have hA1 : ∀ p, placedM s tt d = (p, 0) → Go.Solid.Alike p s := fun p h => alike_placed h
 obtain ⟨p, e, hpe⟩ : ∃ p e, placedM s tt d = (p, e) := ⟨_, _, rfl⟩
 rw [hpe] at HPl hA1
 clear hpe
 have h0 := tun_nonneg s
 rw [← tun_eq] at h0
 have hp5 : (partsS s).length ≤ 512 := classes_len _ _
 have hc5 := cavs_len s
 have he5 := euler_le s
 have ht := tun_eq s
 have x0 : ¬ (tunS s < 0) := by omega
 have x1 : IntKind.i64.wrap (((partsS s).length : Int) + (cavsS s).length) = (partsS s).length + (cavsS s).length := IntWalk.i64_in _ ⟨by omega, by omega⟩
 have x2 : IntKind.i64.wrap (((partsS s).length : Int) + (cavsS s).length - eulerS s) = tunS s := by rw [ht]; exact IntWalk.i64_in _ ⟨by omega, by omega⟩
 obtain ⟨cs, hcs⟩ : ∃ x, x = countS s := ⟨_, rfl⟩
 obtain ⟨ps, hps⟩ : ∃ x, x = (partsS s).length := ⟨_, rfl⟩
 obtain ⟨vs', hvs⟩ : ∃ x, x = (cavsS s).length := ⟨_, rfl⟩
 obtain ⟨es, hes⟩ : ∃ x, x = eulerS s := ⟨_, rfl⟩
 obtain ⟨ts, hts⟩ : ∃ x, x = tunS s := ⟨_, rfl⟩
 obtain ⟨ks, hks⟩ : ∃ x, x = skinS s := ⟨_, rfl⟩
 have HPs := Lib.hid fun W hb => HP.out s W hb
 have HVs := Lib.hid fun W hb => HV.out s W hb
 have HUs := Lib.hid fun W hb => HU.out s W hb
 have HKs := Lib.hid fun W hb => HK.out s W hb
 have HNs := Lib.hid fun W hb => HN.out s W hb
 have HX : Hid (∀ q, Go.Solid.Alike q s → countS q = cs ∧ (partsS q).length = ps ∧ tunS q = ts ∧ skinS q = ks ∧ (cavsS q).length = vs') := Lib.hid fun q hq => by
  rw [hcs, hps, hts, hks, hvs]; exact Alike_h hq
 rw [← hcs] at HNs
 rw [← hps] at HPs x1 x2 hp5
 rw [← hvs] at HVs x1 x2 hc5
 rw [← hes] at HE x2 he5
 rw [← hts] at HUs x0 x2
 rw [← hks] at HKs
 have HA1 := Lib.hid hA1
 clear hcs hps hvs hes hts hks ht h0 hp5 hc5 he5 hA1
 go_enter Tryz.func17, Tryz.ntmps17
 go_wp2_with fail
 obtain ⟨wO, hw1⟩ : ∃ wO, wO = (w.alloc (.cells #[.int .u64 (pl s 0), .int .u64 (pl s 1), .int .u64 (pl s 2), .int .u64 (pl s 3), .int .u64 (pl s 4), .int .u64 (pl s 5), .int .u64 (pl s 6), .int .u64 (pl s 7)] 26)).alloc (.cells #[.int .i64 tt, .int .i64 d.1, .int .i64 d.2.1, .int .i64 d.2.2] 23) := ⟨_, rfl⟩
 have bs : Blk wO w.heap.size #[.int .u64 (pl s 0), .int .u64 (pl s 1), .int .u64 (pl s 2), .int .u64 (pl s 3), .int .u64 (pl s 4), .int .u64 (pl s 5), .int .u64 (pl s 6), .int .u64 (pl s 7)] 26 ∧ Blk wO (w.heap.size + 1) #[.int .i64 tt, .int .i64 d.1, .int .i64 d.2.1, .int .i64 d.2.2] 23 ∧ Below w.heap.size w wO := by
  rw [hw1]
  exact ⟨(by repeat (first | with_reducible assumption | (refine Blk.at _ _ ?_; (simp; done)) | with_reducible refine Blk.alloc ?_ _ | with_reducible refine Blk.drew ?_ | with_reducible refine Blk.rowS ?_ _ | with_reducible refine Blk.rowO ?_ _ (by simp))), Blk.at _ _ (by simp), (by repeat (first | with_reducible exact bel_refl _ | with_reducible assumption | with_reducible refine bel_drewN ?_ _ | with_reducible refine bel_drew ?_ | with_reducible refine bel_alloc ?_ _ | with_reducible refine bel_row ?_ ?_ _ | with_reducible refine bel_set ?_ ?_ _ | refine bel_trans ?_ (by with_reducible assumption) | (simp; done) | (simp; omega)))⟩
 rw [← hw1]
 have HB := Lib.hid bs
 clear hw1 bs
 refine (HUs.out _ HB.out.2.2).mono ?_
 rintro e1 w2 ⟨rfl, hb⟩
 have HB2 : Hid (Below wO.heap.size wO w2) := Lib.hid hb
 clear hb
 have HW := Lib.hid (bel_trans HB.out.2.2 HB2.out)
 go_wp2_with fail
 refine wp_region_val Grows (fun _ _ _ => True) [Is (.int .i64 ts), Is (.bool false), Is (.bool false), Is (.int .i64 ts), Is (solV s), IsLen ps, Is (.int .i64 (ps : Int)), Is (solV s), IsLen vs', Is (.int .i64 (vs' : Int)), Is (.int .i64 ((ps : Int) + vs')), Is (solV s), Is (.int .i64 es), Is (.int .i64 ts), Is (.bool false), Is (.bool false)] (by kernel_rfl) (by kernel_rfl) rfl Grows.refl (fun _ _ _ => Grows.trans) (stable_mem ⟨fun _ _ _ h _ => h, fun _ _ _ h _ => h, fun _ _ _ h _ => h, fun _ _ _ h _ => h, fun _ _ _ h _ => h, fun _ _ _ h _ => h, fun _ _ _ h _ => h, fun _ _ _ h _ => h, fun _ _ _ h _ => h, fun _ _ _ h _ => h, fun _ _ _ h _ => h, fun _ _ _ h _ => h, fun _ _ _ h _ => h, fun _ _ _ h _ => h, fun _ _ _ h _ => h, fun _ _ _ h _ => h, trivial⟩) w2 (Below.drew (Below.refl _ _)) trivial ?_
 refine val_cons ?_ (fun v0 => ?_)
 ·intro L vs w1 hvs hat hb hI hF; try simp [factsI, Region.binds, Is] at hF
  have hc := (Grows.cells hb).1
  clear hI
  go_simp
  try simp [upd]
  try first | exact Grows.refl _ | exact trivial | exact ⟨Grows.refl _, trivial⟩
 refine val_cons ?_ (fun v1 => ?_)
 ·intro L vs w1 hvs hat hb hI hF; try simp [factsI, Region.binds, Is] at hF
  have hc := (Grows.cells hb).1
  clear hI
  go_simp
  try simp [upd]
  try first | exact Grows.refl _ | exact trivial | exact ⟨Grows.refl _, trivial⟩
 refine val_cons ?_ (fun v2 => ?_)
 ·intro L vs w1 hvs hat hb hI hF; try simp [factsI, Region.binds, Is] at hF
  have hc := (Grows.cells hb).1
  clear hI
  go_simp
  try simp [upd]
  try first | exact Grows.refl _ | exact trivial | exact ⟨Grows.refl _, trivial⟩
 refine val_cons ?_ (fun v3 => ?_)
 ·intro L vs w1 hvs hat hb hI hF; try simp [factsI, Region.binds, Is] at hF
  have hc := (Grows.cells hb).1
  clear hI
  go_simp
  try simp [upd]
  try first | exact Grows.refl _ | exact trivial | exact ⟨Grows.refl _, trivial⟩
 refine val_cons ?_ (fun v4 => ?_)
 ·intro L vs w1 hvs hat hb hI hF; try simp [factsI, Region.binds, Is] at hF
  have D := (HB.out.1.grow HB2.out).grow (show Below _ _ _ from hb); have cD := D.cell; have lD := D.lt; clear D
  go_simp
  first | exact Grows.refl _ | exact ⟨Grows.refl _, trivial⟩
 refine val_cons ?_ (fun v5 => ?_)
 ·intro L vs w1 hvs hat hb hI hF; try simp [factsI, Region.binds, Is] at hF
  have hb0 := hb
  go_simp
  refine (HPs.out _ (bel_trans HW.out (show Below _ _ _ from hb0))).mono ?_
  rintro e w2 ⟨⟨pp, cc, rfl⟩, hb2⟩
  first | exact ⟨rfl, hb2⟩ | exact ⟨_, rfl, hb2, trivial, ⟨pp, cc, rfl⟩⟩ | exact ⟨_, rfl, hb2, ⟨pp, cc, rfl⟩⟩
 refine val_cons ?_ (fun v6 => ?_)
 ·intro L vs w1 hvs hat hb hI hF; try simp [factsI, Region.binds, Is] at hF
  have hF2 : IsLen ps v5 w1 := by first | exact hF | exact hF.1 | exact hF.2 | exact hF.1.1 | exact hF.1.2 | exact hF.2.1 | exact hF.2.2
  obtain ⟨pp, cc, hv⟩ := hF2
  subst hv
  go_simp
  first | exact Grows.refl _ | exact ⟨Grows.refl _, trivial⟩
 refine val_cons ?_ (fun v7 => ?_)
 ·intro L vs w1 hvs hat hb hI hF; try simp [factsI, Region.binds, Is] at hF
  have D := (HB.out.1.grow HB2.out).grow (show Below _ _ _ from hb); have cD := D.cell; have lD := D.lt; clear D
  go_simp
  first | exact Grows.refl _ | exact ⟨Grows.refl _, trivial⟩
 refine val_cons ?_ (fun v8 => ?_)
 ·intro L vs w1 hvs hat hb hI hF; try simp [factsI, Region.binds, Is] at hF
  have hb0 := hb
  go_simp
  refine (HVs.out _ (bel_trans HW.out (show Below _ _ _ from hb0))).mono ?_
  rintro e w2 ⟨⟨pp, cc, rfl⟩, hb2⟩
  first | exact ⟨rfl, hb2⟩ | exact ⟨_, rfl, hb2, trivial, ⟨pp, cc, rfl⟩⟩ | exact ⟨_, rfl, hb2, ⟨pp, cc, rfl⟩⟩
 refine val_cons ?_ (fun v9 => ?_)
 ·intro L vs w1 hvs hat hb hI hF; try simp [factsI, Region.binds, Is] at hF
  have hF2 : IsLen vs' v8 w1 := by first | exact hF | exact hF.1 | exact hF.2 | exact hF.1.1 | exact hF.1.2 | exact hF.2.1 | exact hF.2.2
  obtain ⟨pp, cc, hv⟩ := hF2
  subst hv
  go_simp
  first | exact Grows.refl _ | exact ⟨Grows.refl _, trivial⟩
 refine val_cons ?_ (fun v10 => ?_)
 ·intro L vs w1 hvs hat hb hI hF; try simp [factsI, Region.binds, Is] at hF
  have hc := (Grows.cells hb).1
  clear hI
  go_simp
  try simp [upd]
  try first | exact Grows.refl _ | exact trivial | exact ⟨Grows.refl _, trivial⟩
 refine val_cons ?_ (fun v11 => ?_)
 ·intro L vs w1 hvs hat hb hI hF; try simp [factsI, Region.binds, Is] at hF
  have D := (HB.out.1.grow HB2.out).grow (show Below _ _ _ from hb); have cD := D.cell; have lD := D.lt; clear D
  go_simp
  first | exact Grows.refl _ | exact ⟨Grows.refl _, trivial⟩
 refine val_cons ?_ (fun v12 => ?_)
 ·intro L vs w1 hvs hat hb hI hF; try simp [factsI, Region.binds, Is] at hF
  have hb0 := hb
  go_simp
  refine (HE.out _ (bel_trans HW.out (show Below _ _ _ from hb0))).mono ?_
  rintro e w2 ⟨rfl, hb2⟩
  first | exact ⟨rfl, hb2⟩ | exact ⟨_, rfl, hb2, trivial, rfl⟩ | exact ⟨_, rfl, hb2, rfl⟩
 refine val_cons ?_ (fun v13 => ?_)
 ·intro L vs w1 hvs hat hb hI hF; try simp [factsI, Region.binds, Is] at hF
  have hc := (Grows.cells hb).1
  clear hI
  go_simp
  try simp [upd]
  try first | exact Grows.refl _ | exact trivial | exact ⟨Grows.refl _, trivial⟩
 refine val_cons ?_ (fun v14 => ?_)
 ·intro L vs w1 hvs hat hb hI hF; try simp [factsI, Region.binds, Is] at hF
  have hc := (Grows.cells hb).1
  clear hI
  go_simp
  try simp [upd]
  try first | exact Grows.refl _ | exact trivial | exact ⟨Grows.refl _, trivial⟩
 refine val_cons ?_ (fun v15 => ?_)
 ·intro L vs w1 hvs hat hb hI hF; try simp [factsI, Region.binds, Is] at hF
  have hc := (Grows.cells hb).1
  clear hI
  go_simp
  try simp [upd]
  try first | exact Grows.refl _ | exact trivial | exact ⟨Grows.refl _, trivial⟩
 refine val_nil ?_
 intro vs w1 hvs hb hI hF
 simp [Is, Nat.forall_lt_succ_right] at hF
 have e0 := hF.1.1.1.1.1.1.1.1.1.1.1.1.1.1.1
 have e1 := hF.1.1.1.1.1.1.1.1.1.1.1.1.1.1.2
 have e2 := hF.1.1.1.1.1.1.1.1.1.1.1.1.1.2
 have e3 := hF.1.1.1.1.1.1.1.1.1.1.1.1.2
 have e4 := hF.1.1.1.1.1.1.1.1.1.1.1.2
 have e5 := hF.1.1.1.1.1.1.1.1.1.1.2
 have e6 := hF.1.1.1.1.1.1.1.1.1.2
 have e7 := hF.1.1.1.1.1.1.1.1.2
 have e8 := hF.1.1.1.1.1.1.1.2
 have e9 := hF.1.1.1.1.1.1.2
 have e10 := hF.1.1.1.1.1.2
 have e11 := hF.1.1.1.1.2
 have e12 := hF.1.1.1.2
 have e13 := hF.1.1.2
 have e14 := hF.1.2
 have e15 := hF.2
 clear hF
 simp only [Act.put, List.setIfInBounds_toArray, List.set_cons_succ, List.set_cons_zero, e0, e1, e2, e3, e4, e6, e7, e9, e10, e11, e12, e13, e14, e15]
 clear e0 e1 e2 e3 e4 e6 e7 e9 e10 e11 e12 e13 e14 e15
 have HB3 : Hid (Below wO.heap.size wO w1) := Lib.hid (bel_trans HB2.out (show Below w2.heap.size w2 w1 from hb))
 obtain ⟨wN, hwN⟩ : ∃ x, x = w1 := ⟨_, rfl⟩
 rw [← hwN] at HB3 ⊢
 clear e5 e8 hb hI hvs hwN HW
 have cs' := (HB.out.1.grow HB3.out).cell; have ls' := (HB.out.1.grow HB3.out).lt
 have cm' := (HB.out.2.1.grow HB3.out).cell; have lm' := (HB.out.2.1.grow HB3.out).lt
 go_wp2_with fail
 clear cs' ls' cm' lm'
 refine (HPl.out _ (bel_trans HB.out.2.2 HB3.out)).mono ?_
 rintro e4 w4 ⟨rfl, hb⟩
 have HB4 : Hid (Below wO.heap.size wO w4) := Lib.hid (bel_trans HB3.out hb)
 clear hb
 go_upto_region 5 with fail
 obtain ⟨wA, hwA⟩ : ∃ x, x = w4.alloc (.cells #[.int .u64 (pl p 0), .int .u64 (pl p 1), .int .u64 (pl p 2), .int .u64 (pl p 3), .int .u64 (pl p 4), .int .u64 (pl p 5), .int .u64 (pl p 6), .int .u64 (pl p 7)] 26) := ⟨_, rfl⟩
 have hA : Blk wA w4.heap.size #[.int .u64 (pl p 0), .int .u64 (pl p 1), .int .u64 (pl p 2), .int .u64 (pl p 3), .int .u64 (pl p 4), .int .u64 (pl p 5), .int .u64 (pl p 6), .int .u64 (pl p 7)] 26 ∧ Below wO.heap.size wO wA ∧ Blk wA w.heap.size #[.int .u64 (pl s 0), .int .u64 (pl s 1), .int .u64 (pl s 2), .int .u64 (pl s 3), .int .u64 (pl s 4), .int .u64 (pl s 5), .int .u64 (pl s 6), .int .u64 (pl s 7)] 26 := by
  rw [hwA]
  exact ⟨Blk.new _ _ _, bel_alloc HB4.out _, (HB.out.1.grow HB4.out).alloc _⟩
 have hO4 : w.heap.size < w4.heap.size ∧ wO.heap.size ≤ w4.heap.size := ⟨Nat.lt_of_lt_of_le HB.out.1.lt HB4.out.size, HB4.out.size⟩
 obtain ⟨g, hg⟩ : ∃ g, g = w4.heap.size := ⟨_, rfl⟩
 rw [← hwA, ← hg]
 rw [← hg] at hA hO4
 clear hwA hg HB4 w4
 have HA := Lib.hid hA
 have HO := Lib.hid hO4
 clear hA hO4
 by_cases he : e = 0
 ·have hal := HA1.out p (by rw [he])
  subst he
  have cg := HA.out.1.cell; have lg := HA.out.1.lt
  go_wp2_with fail
  obtain ⟨wJ, hwJ⟩ : ∃ x, x = wA := ⟨_, rfl⟩
  have HJ : Hid (Blk wJ g #[.int .u64 (pl p 0), .int .u64 (pl p 1), .int .u64 (pl p 2), .int .u64 (pl p 3), .int .u64 (pl p 4), .int .u64 (pl p 5), .int .u64 (pl p 6), .int .u64 (pl p 7)] 26 ∧ Blk wJ w.heap.size #[.int .u64 (pl s 0), .int .u64 (pl s 1), .int .u64 (pl s 2), .int .u64 (pl s 3), .int .u64 (pl s 4), .int .u64 (pl s 5), .int .u64 (pl s 6), .int .u64 (pl s 7)] 26 ∧ Below w.heap.size w wJ) := Lib.hid (by rw [hwJ]; exact ⟨HA.out.1, HA.out.2.2, bel_trans HB.out.2.2 HA.out.2.1⟩)
  have HAL := Lib.hid hal
  rw [← hwJ]
  clear hwJ hal cg lg
  refine (HMi.out p _ HJ.out.2.2).mono ?_
  obtain ⟨q, f, hqf⟩ : ∃ q f, mirroredM p ax = (q, f) := ⟨_, _, rfl⟩
  rw [hqf]
  rintro e5 w5 ⟨rfl, hb⟩
  have HALq : Hid (f = 0 → Go.Solid.Alike q s) := Lib.hid fun h0 => by subst h0; exact (alike_mirrored hqf).trans HAL.out
  clear hqf
  have HB5 : Hid (Below wJ.heap.size wJ w5) := Lib.hid hb
  clear hb
  go_upto_region 8 with fail
  obtain ⟨wC, hwC⟩ : ∃ x, x = w5.alloc (.cells #[.int .u64 (pl q 0), .int .u64 (pl q 1), .int .u64 (pl q 2), .int .u64 (pl q 3), .int .u64 (pl q 4), .int .u64 (pl q 5), .int .u64 (pl q 6), .int .u64 (pl q 7)] 26) := ⟨_, rfl⟩
  have hC2 : Blk wC w5.heap.size #[.int .u64 (pl q 0), .int .u64 (pl q 1), .int .u64 (pl q 2), .int .u64 (pl q 3), .int .u64 (pl q 4), .int .u64 (pl q 5), .int .u64 (pl q 6), .int .u64 (pl q 7)] 26 ∧ Blk wC g #[.int .u64 (pl p 0), .int .u64 (pl p 1), .int .u64 (pl p 2), .int .u64 (pl p 3), .int .u64 (pl p 4), .int .u64 (pl p 5), .int .u64 (pl p 6), .int .u64 (pl p 7)] 26 ∧ Blk wC w.heap.size #[.int .u64 (pl s 0), .int .u64 (pl s 1), .int .u64 (pl s 2), .int .u64 (pl s 3), .int .u64 (pl s 4), .int .u64 (pl s 5), .int .u64 (pl s 6), .int .u64 (pl s 7)] 26 ∧ Below w.heap.size w wC := by
   rw [hwC]
   exact ⟨Blk.new _ _ _, (HJ.out.1.grow HB5.out).alloc _, (HJ.out.2.1.grow HB5.out).alloc _, bel_alloc (bel_trans HJ.out.2.2 HB5.out) _⟩
  have hO5 : g < w5.heap.size ∧ w.heap.size < w5.heap.size := ⟨Nat.lt_of_lt_of_le HJ.out.1.lt HB5.out.size, Nat.lt_of_lt_of_le HJ.out.2.1.lt HB5.out.size⟩
  obtain ⟨g2, hg2⟩ : ∃ g2, g2 = w5.heap.size := ⟨_, rfl⟩
  rw [← hwC, ← hg2]
  rw [← hg2] at hC2 hO5
  clear hwC hg2 HB5 w5
  have HC2 := Lib.hid hC2
  have HO2 := Lib.hid hO5
  clear hC2 hO5 HJ
  by_cases hf : f = 0
  ·have hal := HALq.out hf
   subst hf
   go_wp2_with fail
   obtain ⟨wJ, hwJ⟩ : ∃ x, x = wC := ⟨_, rfl⟩
   have HJ : Hid (Blk wJ g2 #[.int .u64 (pl q 0), .int .u64 (pl q 1), .int .u64 (pl q 2), .int .u64 (pl q 3), .int .u64 (pl q 4), .int .u64 (pl q 5), .int .u64 (pl q 6), .int .u64 (pl q 7)] 26 ∧ Blk wJ w.heap.size #[.int .u64 (pl s 0), .int .u64 (pl s 1), .int .u64 (pl s 2), .int .u64 (pl s 3), .int .u64 (pl s 4), .int .u64 (pl s 5), .int .u64 (pl s 6), .int .u64 (pl s 7)] 26 ∧ Below w.heap.size w wJ) := Lib.hid (by rw [hwJ]; exact ⟨HC2.out.1, HC2.out.2.2.1, HC2.out.2.2.2⟩)
   rw [← hwJ]
   clear hwJ
   have HXQ := Lib.hid (HX.out _ hal)
   obtain ⟨hx1, hx2, hx3, hx4, hx5⟩ := HXQ.out
   have HPq := Lib.hid fun W hb => HP.out q W hb
   have HVq := Lib.hid fun W hb => HV.out q W hb
   have HUq := Lib.hid fun W hb => HU.out q W hb
   have HKq := Lib.hid fun W hb => HK.out q W hb
   have HNq := Lib.hid fun W hb => HN.out q W hb
   rw [hx1] at HNq; rw [hx2] at HPq; rw [hx3] at HUq; rw [hx4] at HKq; rw [hx5] at HVq
   clear hx1 hx2 hx3 hx4 hx5 HXQ
   have HW := Lib.hid HJ.out.2.2
   refine wp_region_val Grows (fun _ _ _ => True) [Is (solV q), Is (.int .i64 (cs : Int)), Is (solV s), Is (.int .i64 (cs : Int)), Is (.bool true), Is (.bool true), Is (solV q), IsLen ps, Is (.int .i64 (ps : Int)), Is (solV s), IsLen ps, Is (.int .i64 (ps : Int)), Is (.bool true), Is (.bool true), Is (.bool true), Is (solV q), Is (.int .i64 ts), Is (.int .i64 ts), Is (.bool true), Is (.bool true), Is (.bool true), Is (solV q), Is (.int .i64 (ks : Nat)), Is (solV s), Is (.int .i64 (ks : Nat)), Is (.bool true), Is (.bool true), Is (.bool true)] (by kernel_rfl) (by kernel_rfl) rfl Grows.refl (fun _ _ _ => Grows.trans) (stable_mem ⟨fun _ _ _ h _ => h, fun _ _ _ h _ => h, fun _ _ _ h _ => h, fun _ _ _ h _ => h, fun _ _ _ h _ => h, fun _ _ _ h _ => h, fun _ _ _ h _ => h, fun _ _ _ h _ => h, fun _ _ _ h _ => h, fun _ _ _ h _ => h, fun _ _ _ h _ => h, fun _ _ _ h _ => h, fun _ _ _ h _ => h, fun _ _ _ h _ => h, fun _ _ _ h _ => h, fun _ _ _ h _ => h, fun _ _ _ h _ => h, fun _ _ _ h _ => h, fun _ _ _ h _ => h, fun _ _ _ h _ => h, fun _ _ _ h _ => h, fun _ _ _ h _ => h, fun _ _ _ h _ => h, fun _ _ _ h _ => h, fun _ _ _ h _ => h, fun _ _ _ h _ => h, fun _ _ _ h _ => h, fun _ _ _ h _ => h, trivial⟩) wJ (Below.drew (Below.refl _ _)) trivial ?_
   refine val_cons ?_ (fun v0 => ?_)
   ·intro L vs w1 hvs hat hb hI hF; try simp [factsI, Region.binds, Is] at hF
    have D := (HJ.out.1).grow (show Below _ _ _ from hb); have cD := D.cell; have lD := D.lt; clear D
    go_simp
    first | exact Grows.refl _ | exact ⟨Grows.refl _, trivial⟩
   refine val_cons ?_ (fun v1 => ?_)
   ·intro L vs w1 hvs hat hb hI hF; try simp [factsI, Region.binds, Is] at hF
    have hb0 := hb
    go_simp
    refine (HNq.out _ (bel_trans HW.out (show Below _ _ _ from hb0))).mono ?_
    rintro e w2 ⟨rfl, hb2⟩
    first | exact ⟨rfl, hb2⟩ | exact ⟨_, rfl, hb2, trivial, rfl⟩ | exact ⟨_, rfl, hb2, rfl⟩
   refine val_cons ?_ (fun v2 => ?_)
   ·intro L vs w1 hvs hat hb hI hF; try simp [factsI, Region.binds, Is] at hF
    have D := (HJ.out.2.1).grow (show Below _ _ _ from hb); have cD := D.cell; have lD := D.lt; clear D
    go_simp
    first | exact Grows.refl _ | exact ⟨Grows.refl _, trivial⟩
   refine val_cons ?_ (fun v3 => ?_)
   ·intro L vs w1 hvs hat hb hI hF; try simp [factsI, Region.binds, Is] at hF
    have hb0 := hb
    go_simp
    refine (HNs.out _ (bel_trans HW.out (show Below _ _ _ from hb0))).mono ?_
    rintro e w2 ⟨rfl, hb2⟩
    first | exact ⟨rfl, hb2⟩ | exact ⟨_, rfl, hb2, trivial, rfl⟩ | exact ⟨_, rfl, hb2, rfl⟩
   refine val_cons ?_ (fun v4 => ?_)
   ·intro L vs w1 hvs hat hb hI hF; try simp [factsI, Region.binds, Is] at hF
    have hc := (Grows.cells hb).1
    clear hI
    go_simp
    try simp [upd]
    try first | exact Grows.refl _ | exact trivial | exact ⟨Grows.refl _, trivial⟩
   refine val_cons ?_ (fun v5 => ?_)
   ·intro L vs w1 hvs hat hb hI hF; try simp [factsI, Region.binds, Is] at hF
    have hc := (Grows.cells hb).1
    clear hI
    go_simp
    try simp [upd]
    try first | exact Grows.refl _ | exact trivial | exact ⟨Grows.refl _, trivial⟩
   refine val_cons ?_ (fun v6 => ?_)
   ·intro L vs w1 hvs hat hb hI hF; try simp [factsI, Region.binds, Is] at hF
    have D := (HJ.out.1).grow (show Below _ _ _ from hb); have cD := D.cell; have lD := D.lt; clear D
    go_simp
    first | exact Grows.refl _ | exact ⟨Grows.refl _, trivial⟩
   refine val_cons ?_ (fun v7 => ?_)
   ·intro L vs w1 hvs hat hb hI hF; try simp [factsI, Region.binds, Is] at hF
    have hb0 := hb
    go_simp
    refine (HPq.out _ (bel_trans HW.out (show Below _ _ _ from hb0))).mono ?_
    rintro e w2 ⟨⟨pp, cc, rfl⟩, hb2⟩
    first | exact ⟨rfl, hb2⟩ | exact ⟨_, rfl, hb2, trivial, ⟨pp, cc, rfl⟩⟩ | exact ⟨_, rfl, hb2, ⟨pp, cc, rfl⟩⟩
   refine val_cons ?_ (fun v8 => ?_)
   ·intro L vs w1 hvs hat hb hI hF; try simp [factsI, Region.binds, Is] at hF
    have hF2 : IsLen ps v7 w1 := by first | exact hF | exact hF.1 | exact hF.2 | exact hF.1.1 | exact hF.1.2 | exact hF.2.1 | exact hF.2.2
    obtain ⟨pp, cc, hv⟩ := hF2
    subst hv
    go_simp
    first | exact Grows.refl _ | exact ⟨Grows.refl _, trivial⟩
   refine val_cons ?_ (fun v9 => ?_)
   ·intro L vs w1 hvs hat hb hI hF; try simp [factsI, Region.binds, Is] at hF
    have D := (HJ.out.2.1).grow (show Below _ _ _ from hb); have cD := D.cell; have lD := D.lt; clear D
    go_simp
    first | exact Grows.refl _ | exact ⟨Grows.refl _, trivial⟩
   refine val_cons ?_ (fun v10 => ?_)
   ·intro L vs w1 hvs hat hb hI hF; try simp [factsI, Region.binds, Is] at hF
    have hb0 := hb
    go_simp
    refine (HPs.out _ (bel_trans HW.out (show Below _ _ _ from hb0))).mono ?_
    rintro e w2 ⟨⟨pp, cc, rfl⟩, hb2⟩
    first | exact ⟨rfl, hb2⟩ | exact ⟨_, rfl, hb2, trivial, ⟨pp, cc, rfl⟩⟩ | exact ⟨_, rfl, hb2, ⟨pp, cc, rfl⟩⟩
   refine val_cons ?_ (fun v11 => ?_)
   ·intro L vs w1 hvs hat hb hI hF; try simp [factsI, Region.binds, Is] at hF
    have hF2 : IsLen ps v10 w1 := by first | exact hF | exact hF.1 | exact hF.2 | exact hF.1.1 | exact hF.1.2 | exact hF.2.1 | exact hF.2.2
    obtain ⟨pp, cc, hv⟩ := hF2
    subst hv
    go_simp
    first | exact Grows.refl _ | exact ⟨Grows.refl _, trivial⟩
   refine val_cons ?_ (fun v12 => ?_)
   ·intro L vs w1 hvs hat hb hI hF; try simp [factsI, Region.binds, Is] at hF
    have hc := (Grows.cells hb).1
    clear hI
    go_simp
    try simp [upd]
    try first | exact Grows.refl _ | exact trivial | exact ⟨Grows.refl _, trivial⟩
   refine val_cons ?_ (fun v13 => ?_)
   ·intro L vs w1 hvs hat hb hI hF; try simp [factsI, Region.binds, Is] at hF
    have hc := (Grows.cells hb).1
    clear hI
    go_simp
    try simp [upd]
    try first | exact Grows.refl _ | exact trivial | exact ⟨Grows.refl _, trivial⟩
   refine val_cons ?_ (fun v14 => ?_)
   ·intro L vs w1 hvs hat hb hI hF; try simp [factsI, Region.binds, Is] at hF
    have hc := (Grows.cells hb).1
    clear hI
    go_simp
    try simp [upd]
    try first | exact Grows.refl _ | exact trivial | exact ⟨Grows.refl _, trivial⟩
   refine val_cons ?_ (fun v15 => ?_)
   ·intro L vs w1 hvs hat hb hI hF; try simp [factsI, Region.binds, Is] at hF
    have D := (HJ.out.1).grow (show Below _ _ _ from hb); have cD := D.cell; have lD := D.lt; clear D
    go_simp
    first | exact Grows.refl _ | exact ⟨Grows.refl _, trivial⟩
   refine val_cons ?_ (fun v16 => ?_)
   ·intro L vs w1 hvs hat hb hI hF; try simp [factsI, Region.binds, Is] at hF
    have hb0 := hb
    go_simp
    refine (HUq.out _ (bel_trans HW.out (show Below _ _ _ from hb0))).mono ?_
    rintro e w2 ⟨rfl, hb2⟩
    first | exact ⟨rfl, hb2⟩ | exact ⟨_, rfl, hb2, trivial, rfl⟩ | exact ⟨_, rfl, hb2, rfl⟩
   refine val_cons ?_ (fun v17 => ?_)
   ·intro L vs w1 hvs hat hb hI hF; try simp [factsI, Region.binds, Is] at hF
    have hc := (Grows.cells hb).1
    clear hI
    go_simp
    try simp [upd]
    try first | exact Grows.refl _ | exact trivial | exact ⟨Grows.refl _, trivial⟩
   refine val_cons ?_ (fun v18 => ?_)
   ·intro L vs w1 hvs hat hb hI hF; try simp [factsI, Region.binds, Is] at hF
    have hc := (Grows.cells hb).1
    clear hI
    go_simp
    try simp [upd]
    try first | exact Grows.refl _ | exact trivial | exact ⟨Grows.refl _, trivial⟩
   refine val_cons ?_ (fun v19 => ?_)
   ·intro L vs w1 hvs hat hb hI hF; try simp [factsI, Region.binds, Is] at hF
    have hc := (Grows.cells hb).1
    clear hI
    go_simp
    try simp [upd]
    try first | exact Grows.refl _ | exact trivial | exact ⟨Grows.refl _, trivial⟩
   refine val_cons ?_ (fun v20 => ?_)
   ·intro L vs w1 hvs hat hb hI hF; try simp [factsI, Region.binds, Is] at hF
    have hc := (Grows.cells hb).1
    clear hI
    go_simp
    try simp [upd]
    try first | exact Grows.refl _ | exact trivial | exact ⟨Grows.refl _, trivial⟩
   refine val_cons ?_ (fun v21 => ?_)
   ·intro L vs w1 hvs hat hb hI hF; try simp [factsI, Region.binds, Is] at hF
    have D := (HJ.out.1).grow (show Below _ _ _ from hb); have cD := D.cell; have lD := D.lt; clear D
    go_simp
    first | exact Grows.refl _ | exact ⟨Grows.refl _, trivial⟩
   refine val_cons ?_ (fun v22 => ?_)
   ·intro L vs w1 hvs hat hb hI hF; try simp [factsI, Region.binds, Is] at hF
    have hb0 := hb
    go_simp
    refine (HKq.out _ (bel_trans HW.out (show Below _ _ _ from hb0))).mono ?_
    rintro e w2 ⟨rfl, hb2⟩
    first | exact ⟨rfl, hb2⟩ | exact ⟨_, rfl, hb2, trivial, rfl⟩ | exact ⟨_, rfl, hb2, rfl⟩
   refine val_cons ?_ (fun v23 => ?_)
   ·intro L vs w1 hvs hat hb hI hF; try simp [factsI, Region.binds, Is] at hF
    have D := (HJ.out.2.1).grow (show Below _ _ _ from hb); have cD := D.cell; have lD := D.lt; clear D
    go_simp
    first | exact Grows.refl _ | exact ⟨Grows.refl _, trivial⟩
   refine val_cons ?_ (fun v24 => ?_)
   ·intro L vs w1 hvs hat hb hI hF; try simp [factsI, Region.binds, Is] at hF
    have hb0 := hb
    go_simp
    refine (HKs.out _ (bel_trans HW.out (show Below _ _ _ from hb0))).mono ?_
    rintro e w2 ⟨rfl, hb2⟩
    first | exact ⟨rfl, hb2⟩ | exact ⟨_, rfl, hb2, trivial, rfl⟩ | exact ⟨_, rfl, hb2, rfl⟩
   refine val_cons ?_ (fun v25 => ?_)
   ·intro L vs w1 hvs hat hb hI hF; try simp [factsI, Region.binds, Is] at hF
    have hc := (Grows.cells hb).1
    clear hI
    go_simp
    try simp [upd]
    try first | exact Grows.refl _ | exact trivial | exact ⟨Grows.refl _, trivial⟩
   refine val_cons ?_ (fun v26 => ?_)
   ·intro L vs w1 hvs hat hb hI hF; try simp [factsI, Region.binds, Is] at hF
    have hc := (Grows.cells hb).1
    clear hI
    go_simp
    try simp [upd]
    try first | exact Grows.refl _ | exact trivial | exact ⟨Grows.refl _, trivial⟩
   refine val_cons ?_ (fun v27 => ?_)
   ·intro L vs w1 hvs hat hb hI hF; try simp [factsI, Region.binds, Is] at hF
    have hc := (Grows.cells hb).1
    clear hI
    go_simp
    try simp [upd]
    try first | exact Grows.refl _ | exact trivial | exact ⟨Grows.refl _, trivial⟩
   refine val_nil ?_
   intro vs w1 hvs hb hI hF
   simp [Is, Nat.forall_lt_succ_right] at hF
   have e0 := hF.1.1.1.1.1.1.1.1.1.1.1.1.1.1.1.1.1.1.1.1.1.1.1.1.1.1.1
   have e1 := hF.1.1.1.1.1.1.1.1.1.1.1.1.1.1.1.1.1.1.1.1.1.1.1.1.1.1.2
   have e2 := hF.1.1.1.1.1.1.1.1.1.1.1.1.1.1.1.1.1.1.1.1.1.1.1.1.1.2
   have e3 := hF.1.1.1.1.1.1.1.1.1.1.1.1.1.1.1.1.1.1.1.1.1.1.1.1.2
   have e4 := hF.1.1.1.1.1.1.1.1.1.1.1.1.1.1.1.1.1.1.1.1.1.1.1.2
   have e5 := hF.1.1.1.1.1.1.1.1.1.1.1.1.1.1.1.1.1.1.1.1.1.1.2
   have e6 := hF.1.1.1.1.1.1.1.1.1.1.1.1.1.1.1.1.1.1.1.1.1.2
   have e7 := hF.1.1.1.1.1.1.1.1.1.1.1.1.1.1.1.1.1.1.1.1.2
   have e8 := hF.1.1.1.1.1.1.1.1.1.1.1.1.1.1.1.1.1.1.1.2
   have e9 := hF.1.1.1.1.1.1.1.1.1.1.1.1.1.1.1.1.1.1.2
   have e10 := hF.1.1.1.1.1.1.1.1.1.1.1.1.1.1.1.1.1.2
   have e11 := hF.1.1.1.1.1.1.1.1.1.1.1.1.1.1.1.1.2
   have e12 := hF.1.1.1.1.1.1.1.1.1.1.1.1.1.1.1.2
   have e13 := hF.1.1.1.1.1.1.1.1.1.1.1.1.1.1.2
   have e14 := hF.1.1.1.1.1.1.1.1.1.1.1.1.1.2
   have e15 := hF.1.1.1.1.1.1.1.1.1.1.1.1.2
   have e16 := hF.1.1.1.1.1.1.1.1.1.1.1.2
   have e17 := hF.1.1.1.1.1.1.1.1.1.1.2
   have e18 := hF.1.1.1.1.1.1.1.1.1.2
   have e19 := hF.1.1.1.1.1.1.1.1.2
   have e20 := hF.1.1.1.1.1.1.1.2
   have e21 := hF.1.1.1.1.1.1.2
   have e22 := hF.1.1.1.1.1.2
   have e23 := hF.1.1.1.1.2
   have e24 := hF.1.1.1.2
   have e25 := hF.1.1.2
   have e26 := hF.1.2
   have e27 := hF.2
   clear hF
   simp only [Act.put, List.setIfInBounds_toArray, List.set_cons_succ, List.set_cons_zero, e0, e1, e2, e3, e4, e5, e6, e8, e9, e11, e12, e13, e14, e15, e16, e17, e18, e19, e20, e21, e22, e23, e24, e25, e26, e27]
   clear e0 e1 e2 e3 e4 e5 e6 e8 e9 e11 e12 e13 e14 e15 e16 e17 e18 e19 e20 e21 e22 e23 e24 e25 e26 e27
   have HJ2 : Hid (Below wJ.heap.size wJ w1) := Lib.hid (show Below wJ.heap.size wJ w1 from hb)
   obtain ⟨wN2, hwN⟩ : ∃ x, x = w1 := ⟨_, rfl⟩
   rw [← hwN] at HJ2 ⊢
   clear e7 e10 hb hI hvs hwN
   have HW2 := Lib.hid (bel_trans HW.out HJ2.out)
   go_wp2_with fail
   refine wp_region_val Grows (fun _ _ _ => True) [Is (.bool true), Is (.bool true), Is (.bool true), Is (.bool true), Is (.bool true), Is (solV q), IsLen vs', Is (.int .i64 (vs' : Int)), Is (solV s), IsLen vs', Is (.int .i64 (vs' : Int)), Is (.bool true), Is (.bool true), Is (.bool true)] (by kernel_rfl) (by kernel_rfl) rfl Grows.refl (fun _ _ _ => Grows.trans) (stable_mem ⟨fun _ _ _ h _ => h, fun _ _ _ h _ => h, fun _ _ _ h _ => h, fun _ _ _ h _ => h, fun _ _ _ h _ => h, fun _ _ _ h _ => h, fun _ _ _ h _ => h, fun _ _ _ h _ => h, fun _ _ _ h _ => h, fun _ _ _ h _ => h, fun _ _ _ h _ => h, fun _ _ _ h _ => h, fun _ _ _ h _ => h, fun _ _ _ h _ => h, trivial⟩) wN2 (Below.drew (Below.refl _ _)) trivial ?_
   refine val_cons ?_ (fun v0 => ?_)
   ·intro L vs w1 hvs hat hb hI hF; try simp [factsI, Region.binds, Is] at hF
    have hb0 := hb
    go_simp
    refine (HC.out _ (bel_trans HW2.out (show Below _ _ _ from hb0))).mono ?_
    rintro e w2 ⟨rfl, hb2⟩
    first | exact ⟨rfl, hb2⟩ | exact ⟨_, rfl, hb2, trivial, rfl⟩ | exact ⟨_, rfl, hb2, rfl⟩
   refine val_cons ?_ (fun v1 => ?_)
   ·intro L vs w1 hvs hat hb hI hF; try simp [factsI, Region.binds, Is] at hF
    have hc := (Grows.cells hb).1
    clear hI
    go_simp
    try simp [upd]
    try first | exact Grows.refl _ | exact trivial | exact ⟨Grows.refl _, trivial⟩
   refine val_cons ?_ (fun v2 => ?_)
   ·intro L vs w1 hvs hat hb hI hF; try simp [factsI, Region.binds, Is] at hF
    have hc := (Grows.cells hb).1
    clear hI
    go_simp
    try simp [upd]
    try first | exact Grows.refl _ | exact trivial | exact ⟨Grows.refl _, trivial⟩
   refine val_cons ?_ (fun v3 => ?_)
   ·intro L vs w1 hvs hat hb hI hF; try simp [factsI, Region.binds, Is] at hF
    have hc := (Grows.cells hb).1
    clear hI
    go_simp
    try simp [upd]
    try first | exact Grows.refl _ | exact trivial | exact ⟨Grows.refl _, trivial⟩
   refine val_cons ?_ (fun v4 => ?_)
   ·intro L vs w1 hvs hat hb hI hF; try simp [factsI, Region.binds, Is] at hF
    have hc := (Grows.cells hb).1
    clear hI
    go_simp
    try simp [upd]
    try first | exact Grows.refl _ | exact trivial | exact ⟨Grows.refl _, trivial⟩
   refine val_cons ?_ (fun v5 => ?_)
   ·intro L vs w1 hvs hat hb hI hF; try simp [factsI, Region.binds, Is] at hF
    have D := (HJ.out.1.grow HJ2.out).grow (show Below _ _ _ from hb); have cD := D.cell; have lD := D.lt; clear D
    go_simp
    first | exact Grows.refl _ | exact ⟨Grows.refl _, trivial⟩
   refine val_cons ?_ (fun v6 => ?_)
   ·intro L vs w1 hvs hat hb hI hF; try simp [factsI, Region.binds, Is] at hF
    have hb0 := hb
    go_simp
    refine (HVq.out _ (bel_trans HW2.out (show Below _ _ _ from hb0))).mono ?_
    rintro e w2 ⟨⟨pp, cc, rfl⟩, hb2⟩
    first | exact ⟨rfl, hb2⟩ | exact ⟨_, rfl, hb2, trivial, ⟨pp, cc, rfl⟩⟩ | exact ⟨_, rfl, hb2, ⟨pp, cc, rfl⟩⟩
   refine val_cons ?_ (fun v7 => ?_)
   ·intro L vs w1 hvs hat hb hI hF; try simp [factsI, Region.binds, Is] at hF
    have hF2 : IsLen vs' v6 w1 := by first | exact hF | exact hF.1 | exact hF.2 | exact hF.1.1 | exact hF.1.2 | exact hF.2.1 | exact hF.2.2
    obtain ⟨pp, cc, hv⟩ := hF2
    subst hv
    go_simp
    first | exact Grows.refl _ | exact ⟨Grows.refl _, trivial⟩
   refine val_cons ?_ (fun v8 => ?_)
   ·intro L vs w1 hvs hat hb hI hF; try simp [factsI, Region.binds, Is] at hF
    have D := (HJ.out.2.1.grow HJ2.out).grow (show Below _ _ _ from hb); have cD := D.cell; have lD := D.lt; clear D
    go_simp
    first | exact Grows.refl _ | exact ⟨Grows.refl _, trivial⟩
   refine val_cons ?_ (fun v9 => ?_)
   ·intro L vs w1 hvs hat hb hI hF; try simp [factsI, Region.binds, Is] at hF
    have hb0 := hb
    go_simp
    refine (HVs.out _ (bel_trans HW2.out (show Below _ _ _ from hb0))).mono ?_
    rintro e w2 ⟨⟨pp, cc, rfl⟩, hb2⟩
    first | exact ⟨rfl, hb2⟩ | exact ⟨_, rfl, hb2, trivial, ⟨pp, cc, rfl⟩⟩ | exact ⟨_, rfl, hb2, ⟨pp, cc, rfl⟩⟩
   refine val_cons ?_ (fun v10 => ?_)
   ·intro L vs w1 hvs hat hb hI hF; try simp [factsI, Region.binds, Is] at hF
    have hF2 : IsLen vs' v9 w1 := by first | exact hF | exact hF.1 | exact hF.2 | exact hF.1.1 | exact hF.1.2 | exact hF.2.1 | exact hF.2.2
    obtain ⟨pp, cc, hv⟩ := hF2
    subst hv
    go_simp
    first | exact Grows.refl _ | exact ⟨Grows.refl _, trivial⟩
   refine val_cons ?_ (fun v11 => ?_)
   ·intro L vs w1 hvs hat hb hI hF; try simp [factsI, Region.binds, Is] at hF
    have hc := (Grows.cells hb).1
    clear hI
    go_simp
    try simp [upd]
    try first | exact Grows.refl _ | exact trivial | exact ⟨Grows.refl _, trivial⟩
   refine val_cons ?_ (fun v12 => ?_)
   ·intro L vs w1 hvs hat hb hI hF; try simp [factsI, Region.binds, Is] at hF
    have hc := (Grows.cells hb).1
    clear hI
    go_simp
    try simp [upd]
    try first | exact Grows.refl _ | exact trivial | exact ⟨Grows.refl _, trivial⟩
   refine val_cons ?_ (fun v13 => ?_)
   ·intro L vs w1 hvs hat hb hI hF; try simp [factsI, Region.binds, Is] at hF
    have hc := (Grows.cells hb).1
    clear hI
    go_simp
    try simp [upd]
    try first | exact Grows.refl _ | exact trivial | exact ⟨Grows.refl _, trivial⟩
   refine val_nil ?_
   intro vs w1 hvs hb hI hF
   simp [Is, Nat.forall_lt_succ_right] at hF
   have e0 := hF.1.1.1.1.1.1.1.1.1.1.1.1.1
   have e1 := hF.1.1.1.1.1.1.1.1.1.1.1.1.2
   have e2 := hF.1.1.1.1.1.1.1.1.1.1.1.2
   have e3 := hF.1.1.1.1.1.1.1.1.1.1.2
   have e4 := hF.1.1.1.1.1.1.1.1.1.2
   have e5 := hF.1.1.1.1.1.1.1.1.2
   have e6 := hF.1.1.1.1.1.1.1.2
   have e7 := hF.1.1.1.1.1.1.2
   have e8 := hF.1.1.1.1.1.2
   have e9 := hF.1.1.1.1.2
   have e10 := hF.1.1.1.2
   have e11 := hF.1.1.2
   have e12 := hF.1.2
   have e13 := hF.2
   clear hF
   simp only [Act.put, List.setIfInBounds_toArray, List.set_cons_succ, List.set_cons_zero, e0, e1, e2, e3, e4, e5, e7, e8, e10, e11, e12, e13]
   clear e0 e1 e2 e3 e4 e5 e7 e8 e10 e11 e12 e13
   have hbw := bel_trans HW2.out (show Below wN2.heap.size wN2 w1 from hb)
   have HF9 := Lib.hid hbw
   clear e6 e9 hbw hb hI hvs
   go_wp2_with fail
   go_ret
   exact ⟨rfl, HF9.out⟩
  ·have BG := HC2.out.2.1
   have c1 := BG.cell; have l1 := BG.lt
   have B1 := HC2.out.1
   have r1 := B1.row; have l2 := B1.lt
   have hO5 := HO2.out
   have hbJ := bel_row HC2.out.2.2.2 (g := g2) (by omega) #[.int .u64 (pl p 0), .int .u64 (pl p 1), .int .u64 (pl p 2), .int .u64 (pl p 3), .int .u64 (pl p 4), .int .u64 (pl p 5), .int .u64 (pl p 6), .int .u64 (pl p 7)]
   have bJ1 : Blk (wC.setRow g2 #[.int .u64 (pl p 0), .int .u64 (pl p 1), .int .u64 (pl p 2), .int .u64 (pl p 3), .int .u64 (pl p 4), .int .u64 (pl p 5), .int .u64 (pl p 6), .int .u64 (pl p 7)]) g2 #[.int .u64 (pl p 0), .int .u64 (pl p 1), .int .u64 (pl p 2), .int .u64 (pl p 3), .int .u64 (pl p 4), .int .u64 (pl p 5), .int .u64 (pl p 6), .int .u64 (pl p 7)] 26 := B1.rowS _
   have bJ2 : Blk (wC.setRow g2 #[.int .u64 (pl p 0), .int .u64 (pl p 1), .int .u64 (pl p 2), .int .u64 (pl p 3), .int .u64 (pl p 4), .int .u64 (pl p 5), .int .u64 (pl p 6), .int .u64 (pl p 7)]) w.heap.size #[.int .u64 (pl s 0), .int .u64 (pl s 1), .int .u64 (pl s 2), .int .u64 (pl s 3), .int .u64 (pl s 4), .int .u64 (pl s 5), .int .u64 (pl s 6), .int .u64 (pl s 7)] 26 := HC2.out.2.2.1.rowO _ (by omega)
   have HJ0 := Lib.hid (And.intro bJ1 (And.intro bJ2 hbJ))
   have cG := (BG.rowO (g := g2) #[.int .u64 (pl q 0), .int .u64 (pl q 1), .int .u64 (pl q 2), .int .u64 (pl q 3), .int .u64 (pl q 4), .int .u64 (pl q 5), .int .u64 (pl q 6), .int .u64 (pl q 7)] (by omega)).cell
   rw [← B1.rw]
   clear B1 BG hbJ bJ1 bJ2 c1
   go_wp2_with fail
   obtain ⟨wJ, hwJ⟩ : ∃ x, x = wC.setRow g2 #[.int .u64 (pl p 0), .int .u64 (pl p 1), .int .u64 (pl p 2), .int .u64 (pl p 3), .int .u64 (pl p 4), .int .u64 (pl p 5), .int .u64 (pl p 6), .int .u64 (pl p 7)] := ⟨_, rfl⟩
   rw [← hwJ] at HJ0 ⊢
   have HJ := HJ0
   clear hwJ HJ0 r1 l1 l2 hO5 cG
   have HXQ := Lib.hid (HX.out _ HAL.out)
   obtain ⟨hx1, hx2, hx3, hx4, hx5⟩ := HXQ.out
   have HPq := Lib.hid fun W hb => HP.out p W hb
   have HVq := Lib.hid fun W hb => HV.out p W hb
   have HUq := Lib.hid fun W hb => HU.out p W hb
   have HKq := Lib.hid fun W hb => HK.out p W hb
   have HNq := Lib.hid fun W hb => HN.out p W hb
   rw [hx1] at HNq; rw [hx2] at HPq; rw [hx3] at HUq; rw [hx4] at HKq; rw [hx5] at HVq
   clear hx1 hx2 hx3 hx4 hx5 HXQ
   have HW := Lib.hid HJ.out.2.2
   refine wp_region_val Grows (fun _ _ _ => True) [Is (solV p), Is (.int .i64 (cs : Int)), Is (solV s), Is (.int .i64 (cs : Int)), Is (.bool true), Is (.bool true), Is (solV p), IsLen ps, Is (.int .i64 (ps : Int)), Is (solV s), IsLen ps, Is (.int .i64 (ps : Int)), Is (.bool true), Is (.bool true), Is (.bool true), Is (solV p), Is (.int .i64 ts), Is (.int .i64 ts), Is (.bool true), Is (.bool true), Is (.bool true), Is (solV p), Is (.int .i64 (ks : Nat)), Is (solV s), Is (.int .i64 (ks : Nat)), Is (.bool true), Is (.bool true), Is (.bool true)] (by kernel_rfl) (by kernel_rfl) rfl Grows.refl (fun _ _ _ => Grows.trans) (stable_mem ⟨fun _ _ _ h _ => h, fun _ _ _ h _ => h, fun _ _ _ h _ => h, fun _ _ _ h _ => h, fun _ _ _ h _ => h, fun _ _ _ h _ => h, fun _ _ _ h _ => h, fun _ _ _ h _ => h, fun _ _ _ h _ => h, fun _ _ _ h _ => h, fun _ _ _ h _ => h, fun _ _ _ h _ => h, fun _ _ _ h _ => h, fun _ _ _ h _ => h, fun _ _ _ h _ => h, fun _ _ _ h _ => h, fun _ _ _ h _ => h, fun _ _ _ h _ => h, fun _ _ _ h _ => h, fun _ _ _ h _ => h, fun _ _ _ h _ => h, fun _ _ _ h _ => h, fun _ _ _ h _ => h, fun _ _ _ h _ => h, fun _ _ _ h _ => h, fun _ _ _ h _ => h, fun _ _ _ h _ => h, fun _ _ _ h _ => h, trivial⟩) wJ (Below.drew (Below.refl _ _)) trivial ?_
   refine val_cons ?_ (fun v0 => ?_)
   ·intro L vs w1 hvs hat hb hI hF; try simp [factsI, Region.binds, Is] at hF
    have D := (HJ.out.1).grow (show Below _ _ _ from hb); have cD := D.cell; have lD := D.lt; clear D
    go_simp
    first | exact Grows.refl _ | exact ⟨Grows.refl _, trivial⟩
   refine val_cons ?_ (fun v1 => ?_)
   ·intro L vs w1 hvs hat hb hI hF; try simp [factsI, Region.binds, Is] at hF
    have hb0 := hb
    go_simp
    refine (HNq.out _ (bel_trans HW.out (show Below _ _ _ from hb0))).mono ?_
    rintro e w2 ⟨rfl, hb2⟩
    first | exact ⟨rfl, hb2⟩ | exact ⟨_, rfl, hb2, trivial, rfl⟩ | exact ⟨_, rfl, hb2, rfl⟩
   refine val_cons ?_ (fun v2 => ?_)
   ·intro L vs w1 hvs hat hb hI hF; try simp [factsI, Region.binds, Is] at hF
    have D := (HJ.out.2.1).grow (show Below _ _ _ from hb); have cD := D.cell; have lD := D.lt; clear D
    go_simp
    first | exact Grows.refl _ | exact ⟨Grows.refl _, trivial⟩
   refine val_cons ?_ (fun v3 => ?_)
   ·intro L vs w1 hvs hat hb hI hF; try simp [factsI, Region.binds, Is] at hF
    have hb0 := hb
    go_simp
    refine (HNs.out _ (bel_trans HW.out (show Below _ _ _ from hb0))).mono ?_
    rintro e w2 ⟨rfl, hb2⟩
    first | exact ⟨rfl, hb2⟩ | exact ⟨_, rfl, hb2, trivial, rfl⟩ | exact ⟨_, rfl, hb2, rfl⟩
   refine val_cons ?_ (fun v4 => ?_)
   ·intro L vs w1 hvs hat hb hI hF; try simp [factsI, Region.binds, Is] at hF
    have hc := (Grows.cells hb).1
    clear hI
    go_simp
    try simp [upd]
    try first | exact Grows.refl _ | exact trivial | exact ⟨Grows.refl _, trivial⟩
   refine val_cons ?_ (fun v5 => ?_)
   ·intro L vs w1 hvs hat hb hI hF; try simp [factsI, Region.binds, Is] at hF
    have hc := (Grows.cells hb).1
    clear hI
    go_simp
    try simp [upd]
    try first | exact Grows.refl _ | exact trivial | exact ⟨Grows.refl _, trivial⟩
   refine val_cons ?_ (fun v6 => ?_)
   ·intro L vs w1 hvs hat hb hI hF; try simp [factsI, Region.binds, Is] at hF
    have D := (HJ.out.1).grow (show Below _ _ _ from hb); have cD := D.cell; have lD := D.lt; clear D
    go_simp
    first | exact Grows.refl _ | exact ⟨Grows.refl _, trivial⟩
   refine val_cons ?_ (fun v7 => ?_)
   ·intro L vs w1 hvs hat hb hI hF; try simp [factsI, Region.binds, Is] at hF
    have hb0 := hb
    go_simp
    refine (HPq.out _ (bel_trans HW.out (show Below _ _ _ from hb0))).mono ?_
    rintro e w2 ⟨⟨pp, cc, rfl⟩, hb2⟩
    first | exact ⟨rfl, hb2⟩ | exact ⟨_, rfl, hb2, trivial, ⟨pp, cc, rfl⟩⟩ | exact ⟨_, rfl, hb2, ⟨pp, cc, rfl⟩⟩
   refine val_cons ?_ (fun v8 => ?_)
   ·intro L vs w1 hvs hat hb hI hF; try simp [factsI, Region.binds, Is] at hF
    have hF2 : IsLen ps v7 w1 := by first | exact hF | exact hF.1 | exact hF.2 | exact hF.1.1 | exact hF.1.2 | exact hF.2.1 | exact hF.2.2
    obtain ⟨pp, cc, hv⟩ := hF2
    subst hv
    go_simp
    first | exact Grows.refl _ | exact ⟨Grows.refl _, trivial⟩
   refine val_cons ?_ (fun v9 => ?_)
   ·intro L vs w1 hvs hat hb hI hF; try simp [factsI, Region.binds, Is] at hF
    have D := (HJ.out.2.1).grow (show Below _ _ _ from hb); have cD := D.cell; have lD := D.lt; clear D
    go_simp
    first | exact Grows.refl _ | exact ⟨Grows.refl _, trivial⟩
   refine val_cons ?_ (fun v10 => ?_)
   ·intro L vs w1 hvs hat hb hI hF; try simp [factsI, Region.binds, Is] at hF
    have hb0 := hb
    go_simp
    refine (HPs.out _ (bel_trans HW.out (show Below _ _ _ from hb0))).mono ?_
    rintro e w2 ⟨⟨pp, cc, rfl⟩, hb2⟩
    first | exact ⟨rfl, hb2⟩ | exact ⟨_, rfl, hb2, trivial, ⟨pp, cc, rfl⟩⟩ | exact ⟨_, rfl, hb2, ⟨pp, cc, rfl⟩⟩
   refine val_cons ?_ (fun v11 => ?_)
   ·intro L vs w1 hvs hat hb hI hF; try simp [factsI, Region.binds, Is] at hF
    have hF2 : IsLen ps v10 w1 := by first | exact hF | exact hF.1 | exact hF.2 | exact hF.1.1 | exact hF.1.2 | exact hF.2.1 | exact hF.2.2
    obtain ⟨pp, cc, hv⟩ := hF2
    subst hv
    go_simp
    first | exact Grows.refl _ | exact ⟨Grows.refl _, trivial⟩
   refine val_cons ?_ (fun v12 => ?_)
   ·intro L vs w1 hvs hat hb hI hF; try simp [factsI, Region.binds, Is] at hF
    have hc := (Grows.cells hb).1
    clear hI
    go_simp
    try simp [upd]
    try first | exact Grows.refl _ | exact trivial | exact ⟨Grows.refl _, trivial⟩
   refine val_cons ?_ (fun v13 => ?_)
   ·intro L vs w1 hvs hat hb hI hF; try simp [factsI, Region.binds, Is] at hF
    have hc := (Grows.cells hb).1
    clear hI
    go_simp
    try simp [upd]
    try first | exact Grows.refl _ | exact trivial | exact ⟨Grows.refl _, trivial⟩
   refine val_cons ?_ (fun v14 => ?_)
   ·intro L vs w1 hvs hat hb hI hF; try simp [factsI, Region.binds, Is] at hF
    have hc := (Grows.cells hb).1
    clear hI
    go_simp
    try simp [upd]
    try first | exact Grows.refl _ | exact trivial | exact ⟨Grows.refl _, trivial⟩
   refine val_cons ?_ (fun v15 => ?_)
   ·intro L vs w1 hvs hat hb hI hF; try simp [factsI, Region.binds, Is] at hF
    have D := (HJ.out.1).grow (show Below _ _ _ from hb); have cD := D.cell; have lD := D.lt; clear D
    go_simp
    first | exact Grows.refl _ | exact ⟨Grows.refl _, trivial⟩
   refine val_cons ?_ (fun v16 => ?_)
   ·intro L vs w1 hvs hat hb hI hF; try simp [factsI, Region.binds, Is] at hF
    have hb0 := hb
    go_simp
    refine (HUq.out _ (bel_trans HW.out (show Below _ _ _ from hb0))).mono ?_
    rintro e w2 ⟨rfl, hb2⟩
    first | exact ⟨rfl, hb2⟩ | exact ⟨_, rfl, hb2, trivial, rfl⟩ | exact ⟨_, rfl, hb2, rfl⟩
   refine val_cons ?_ (fun v17 => ?_)
   ·intro L vs w1 hvs hat hb hI hF; try simp [factsI, Region.binds, Is] at hF
    have hc := (Grows.cells hb).1
    clear hI
    go_simp
    try simp [upd]
    try first | exact Grows.refl _ | exact trivial | exact ⟨Grows.refl _, trivial⟩
   refine val_cons ?_ (fun v18 => ?_)
   ·intro L vs w1 hvs hat hb hI hF; try simp [factsI, Region.binds, Is] at hF
    have hc := (Grows.cells hb).1
    clear hI
    go_simp
    try simp [upd]
    try first | exact Grows.refl _ | exact trivial | exact ⟨Grows.refl _, trivial⟩
   refine val_cons ?_ (fun v19 => ?_)
   ·intro L vs w1 hvs hat hb hI hF; try simp [factsI, Region.binds, Is] at hF
    have hc := (Grows.cells hb).1
    clear hI
    go_simp
    try simp [upd]
    try first | exact Grows.refl _ | exact trivial | exact ⟨Grows.refl _, trivial⟩
   refine val_cons ?_ (fun v20 => ?_)
   ·intro L vs w1 hvs hat hb hI hF; try simp [factsI, Region.binds, Is] at hF
    have hc := (Grows.cells hb).1
    clear hI
    go_simp
    try simp [upd]
    try first | exact Grows.refl _ | exact trivial | exact ⟨Grows.refl _, trivial⟩
   refine val_cons ?_ (fun v21 => ?_)
   ·intro L vs w1 hvs hat hb hI hF; try simp [factsI, Region.binds, Is] at hF
    have D := (HJ.out.1).grow (show Below _ _ _ from hb); have cD := D.cell; have lD := D.lt; clear D
    go_simp
    first | exact Grows.refl _ | exact ⟨Grows.refl _, trivial⟩
   refine val_cons ?_ (fun v22 => ?_)
   ·intro L vs w1 hvs hat hb hI hF; try simp [factsI, Region.binds, Is] at hF
    have hb0 := hb
    go_simp
    refine (HKq.out _ (bel_trans HW.out (show Below _ _ _ from hb0))).mono ?_
    rintro e w2 ⟨rfl, hb2⟩
    first | exact ⟨rfl, hb2⟩ | exact ⟨_, rfl, hb2, trivial, rfl⟩ | exact ⟨_, rfl, hb2, rfl⟩
   refine val_cons ?_ (fun v23 => ?_)
   ·intro L vs w1 hvs hat hb hI hF; try simp [factsI, Region.binds, Is] at hF
    have D := (HJ.out.2.1).grow (show Below _ _ _ from hb); have cD := D.cell; have lD := D.lt; clear D
    go_simp
    first | exact Grows.refl _ | exact ⟨Grows.refl _, trivial⟩
   refine val_cons ?_ (fun v24 => ?_)
   ·intro L vs w1 hvs hat hb hI hF; try simp [factsI, Region.binds, Is] at hF
    have hb0 := hb
    go_simp
    refine (HKs.out _ (bel_trans HW.out (show Below _ _ _ from hb0))).mono ?_
    rintro e w2 ⟨rfl, hb2⟩
    first | exact ⟨rfl, hb2⟩ | exact ⟨_, rfl, hb2, trivial, rfl⟩ | exact ⟨_, rfl, hb2, rfl⟩
   refine val_cons ?_ (fun v25 => ?_)
   ·intro L vs w1 hvs hat hb hI hF; try simp [factsI, Region.binds, Is] at hF
    have hc := (Grows.cells hb).1
    clear hI
    go_simp
    try simp [upd]
    try first | exact Grows.refl _ | exact trivial | exact ⟨Grows.refl _, trivial⟩
   refine val_cons ?_ (fun v26 => ?_)
   ·intro L vs w1 hvs hat hb hI hF; try simp [factsI, Region.binds, Is] at hF
    have hc := (Grows.cells hb).1
    clear hI
    go_simp
    try simp [upd]
    try first | exact Grows.refl _ | exact trivial | exact ⟨Grows.refl _, trivial⟩
   refine val_cons ?_ (fun v27 => ?_)
   ·intro L vs w1 hvs hat hb hI hF; try simp [factsI, Region.binds, Is] at hF
    have hc := (Grows.cells hb).1
    clear hI
    go_simp
    try simp [upd]
    try first | exact Grows.refl _ | exact trivial | exact ⟨Grows.refl _, trivial⟩
   refine val_nil ?_
   intro vs w1 hvs hb hI hF
   simp [Is, Nat.forall_lt_succ_right] at hF
   have e0 := hF.1.1.1.1.1.1.1.1.1.1.1.1.1.1.1.1.1.1.1.1.1.1.1.1.1.1.1
   have e1 := hF.1.1.1.1.1.1.1.1.1.1.1.1.1.1.1.1.1.1.1.1.1.1.1.1.1.1.2
   have e2 := hF.1.1.1.1.1.1.1.1.1.1.1.1.1.1.1.1.1.1.1.1.1.1.1.1.1.2
   have e3 := hF.1.1.1.1.1.1.1.1.1.1.1.1.1.1.1.1.1.1.1.1.1.1.1.1.2
   have e4 := hF.1.1.1.1.1.1.1.1.1.1.1.1.1.1.1.1.1.1.1.1.1.1.1.2
   have e5 := hF.1.1.1.1.1.1.1.1.1.1.1.1.1.1.1.1.1.1.1.1.1.1.2
   have e6 := hF.1.1.1.1.1.1.1.1.1.1.1.1.1.1.1.1.1.1.1.1.1.2
   have e7 := hF.1.1.1.1.1.1.1.1.1.1.1.1.1.1.1.1.1.1.1.1.2
   have e8 := hF.1.1.1.1.1.1.1.1.1.1.1.1.1.1.1.1.1.1.1.2
   have e9 := hF.1.1.1.1.1.1.1.1.1.1.1.1.1.1.1.1.1.1.2
   have e10 := hF.1.1.1.1.1.1.1.1.1.1.1.1.1.1.1.1.1.2
   have e11 := hF.1.1.1.1.1.1.1.1.1.1.1.1.1.1.1.1.2
   have e12 := hF.1.1.1.1.1.1.1.1.1.1.1.1.1.1.1.2
   have e13 := hF.1.1.1.1.1.1.1.1.1.1.1.1.1.1.2
   have e14 := hF.1.1.1.1.1.1.1.1.1.1.1.1.1.2
   have e15 := hF.1.1.1.1.1.1.1.1.1.1.1.1.2
   have e16 := hF.1.1.1.1.1.1.1.1.1.1.1.2
   have e17 := hF.1.1.1.1.1.1.1.1.1.1.2
   have e18 := hF.1.1.1.1.1.1.1.1.1.2
   have e19 := hF.1.1.1.1.1.1.1.1.2
   have e20 := hF.1.1.1.1.1.1.1.2
   have e21 := hF.1.1.1.1.1.1.2
   have e22 := hF.1.1.1.1.1.2
   have e23 := hF.1.1.1.1.2
   have e24 := hF.1.1.1.2
   have e25 := hF.1.1.2
   have e26 := hF.1.2
   have e27 := hF.2
   clear hF
   simp only [Act.put, List.setIfInBounds_toArray, List.set_cons_succ, List.set_cons_zero, e0, e1, e2, e3, e4, e5, e6, e8, e9, e11, e12, e13, e14, e15, e16, e17, e18, e19, e20, e21, e22, e23, e24, e25, e26, e27]
   clear e0 e1 e2 e3 e4 e5 e6 e8 e9 e11 e12 e13 e14 e15 e16 e17 e18 e19 e20 e21 e22 e23 e24 e25 e26 e27
   have HJ2 : Hid (Below wJ.heap.size wJ w1) := Lib.hid (show Below wJ.heap.size wJ w1 from hb)
   obtain ⟨wN2, hwN⟩ : ∃ x, x = w1 := ⟨_, rfl⟩
   rw [← hwN] at HJ2 ⊢
   clear e7 e10 hb hI hvs hwN
   have HW2 := Lib.hid (bel_trans HW.out HJ2.out)
   go_wp2_with fail
   refine wp_region_val Grows (fun _ _ _ => True) [Is (.bool true), Is (.bool true), Is (.bool true), Is (.bool true), Is (.bool true), Is (solV p), IsLen vs', Is (.int .i64 (vs' : Int)), Is (solV s), IsLen vs', Is (.int .i64 (vs' : Int)), Is (.bool true), Is (.bool true), Is (.bool true)] (by kernel_rfl) (by kernel_rfl) rfl Grows.refl (fun _ _ _ => Grows.trans) (stable_mem ⟨fun _ _ _ h _ => h, fun _ _ _ h _ => h, fun _ _ _ h _ => h, fun _ _ _ h _ => h, fun _ _ _ h _ => h, fun _ _ _ h _ => h, fun _ _ _ h _ => h, fun _ _ _ h _ => h, fun _ _ _ h _ => h, fun _ _ _ h _ => h, fun _ _ _ h _ => h, fun _ _ _ h _ => h, fun _ _ _ h _ => h, fun _ _ _ h _ => h, trivial⟩) wN2 (Below.drew (Below.refl _ _)) trivial ?_
   refine val_cons ?_ (fun v0 => ?_)
   ·intro L vs w1 hvs hat hb hI hF; try simp [factsI, Region.binds, Is] at hF
    have hb0 := hb
    go_simp
    refine (HC.out _ (bel_trans HW2.out (show Below _ _ _ from hb0))).mono ?_
    rintro e w2 ⟨rfl, hb2⟩
    first | exact ⟨rfl, hb2⟩ | exact ⟨_, rfl, hb2, trivial, rfl⟩ | exact ⟨_, rfl, hb2, rfl⟩
   refine val_cons ?_ (fun v1 => ?_)
   ·intro L vs w1 hvs hat hb hI hF; try simp [factsI, Region.binds, Is] at hF
    have hc := (Grows.cells hb).1
    clear hI
    go_simp
    try simp [upd]
    try first | exact Grows.refl _ | exact trivial | exact ⟨Grows.refl _, trivial⟩
   refine val_cons ?_ (fun v2 => ?_)
   ·intro L vs w1 hvs hat hb hI hF; try simp [factsI, Region.binds, Is] at hF
    have hc := (Grows.cells hb).1
    clear hI
    go_simp
    try simp [upd]
    try first | exact Grows.refl _ | exact trivial | exact ⟨Grows.refl _, trivial⟩
   refine val_cons ?_ (fun v3 => ?_)
   ·intro L vs w1 hvs hat hb hI hF; try simp [factsI, Region.binds, Is] at hF
    have hc := (Grows.cells hb).1
    clear hI
    go_simp
    try simp [upd]
    try first | exact Grows.refl _ | exact trivial | exact ⟨Grows.refl _, trivial⟩
   refine val_cons ?_ (fun v4 => ?_)
   ·intro L vs w1 hvs hat hb hI hF; try simp [factsI, Region.binds, Is] at hF
    have hc := (Grows.cells hb).1
    clear hI
    go_simp
    try simp [upd]
    try first | exact Grows.refl _ | exact trivial | exact ⟨Grows.refl _, trivial⟩
   refine val_cons ?_ (fun v5 => ?_)
   ·intro L vs w1 hvs hat hb hI hF; try simp [factsI, Region.binds, Is] at hF
    have D := (HJ.out.1.grow HJ2.out).grow (show Below _ _ _ from hb); have cD := D.cell; have lD := D.lt; clear D
    go_simp
    first | exact Grows.refl _ | exact ⟨Grows.refl _, trivial⟩
   refine val_cons ?_ (fun v6 => ?_)
   ·intro L vs w1 hvs hat hb hI hF; try simp [factsI, Region.binds, Is] at hF
    have hb0 := hb
    go_simp
    refine (HVq.out _ (bel_trans HW2.out (show Below _ _ _ from hb0))).mono ?_
    rintro e w2 ⟨⟨pp, cc, rfl⟩, hb2⟩
    first | exact ⟨rfl, hb2⟩ | exact ⟨_, rfl, hb2, trivial, ⟨pp, cc, rfl⟩⟩ | exact ⟨_, rfl, hb2, ⟨pp, cc, rfl⟩⟩
   refine val_cons ?_ (fun v7 => ?_)
   ·intro L vs w1 hvs hat hb hI hF; try simp [factsI, Region.binds, Is] at hF
    have hF2 : IsLen vs' v6 w1 := by first | exact hF | exact hF.1 | exact hF.2 | exact hF.1.1 | exact hF.1.2 | exact hF.2.1 | exact hF.2.2
    obtain ⟨pp, cc, hv⟩ := hF2
    subst hv
    go_simp
    first | exact Grows.refl _ | exact ⟨Grows.refl _, trivial⟩
   refine val_cons ?_ (fun v8 => ?_)
   ·intro L vs w1 hvs hat hb hI hF; try simp [factsI, Region.binds, Is] at hF
    have D := (HJ.out.2.1.grow HJ2.out).grow (show Below _ _ _ from hb); have cD := D.cell; have lD := D.lt; clear D
    go_simp
    first | exact Grows.refl _ | exact ⟨Grows.refl _, trivial⟩
   refine val_cons ?_ (fun v9 => ?_)
   ·intro L vs w1 hvs hat hb hI hF; try simp [factsI, Region.binds, Is] at hF
    have hb0 := hb
    go_simp
    refine (HVs.out _ (bel_trans HW2.out (show Below _ _ _ from hb0))).mono ?_
    rintro e w2 ⟨⟨pp, cc, rfl⟩, hb2⟩
    first | exact ⟨rfl, hb2⟩ | exact ⟨_, rfl, hb2, trivial, ⟨pp, cc, rfl⟩⟩ | exact ⟨_, rfl, hb2, ⟨pp, cc, rfl⟩⟩
   refine val_cons ?_ (fun v10 => ?_)
   ·intro L vs w1 hvs hat hb hI hF; try simp [factsI, Region.binds, Is] at hF
    have hF2 : IsLen vs' v9 w1 := by first | exact hF | exact hF.1 | exact hF.2 | exact hF.1.1 | exact hF.1.2 | exact hF.2.1 | exact hF.2.2
    obtain ⟨pp, cc, hv⟩ := hF2
    subst hv
    go_simp
    first | exact Grows.refl _ | exact ⟨Grows.refl _, trivial⟩
   refine val_cons ?_ (fun v11 => ?_)
   ·intro L vs w1 hvs hat hb hI hF; try simp [factsI, Region.binds, Is] at hF
    have hc := (Grows.cells hb).1
    clear hI
    go_simp
    try simp [upd]
    try first | exact Grows.refl _ | exact trivial | exact ⟨Grows.refl _, trivial⟩
   refine val_cons ?_ (fun v12 => ?_)
   ·intro L vs w1 hvs hat hb hI hF; try simp [factsI, Region.binds, Is] at hF
    have hc := (Grows.cells hb).1
    clear hI
    go_simp
    try simp [upd]
    try first | exact Grows.refl _ | exact trivial | exact ⟨Grows.refl _, trivial⟩
   refine val_cons ?_ (fun v13 => ?_)
   ·intro L vs w1 hvs hat hb hI hF; try simp [factsI, Region.binds, Is] at hF
    have hc := (Grows.cells hb).1
    clear hI
    go_simp
    try simp [upd]
    try first | exact Grows.refl _ | exact trivial | exact ⟨Grows.refl _, trivial⟩
   refine val_nil ?_
   intro vs w1 hvs hb hI hF
   simp [Is, Nat.forall_lt_succ_right] at hF
   have e0 := hF.1.1.1.1.1.1.1.1.1.1.1.1.1
   have e1 := hF.1.1.1.1.1.1.1.1.1.1.1.1.2
   have e2 := hF.1.1.1.1.1.1.1.1.1.1.1.2
   have e3 := hF.1.1.1.1.1.1.1.1.1.1.2
   have e4 := hF.1.1.1.1.1.1.1.1.1.2
   have e5 := hF.1.1.1.1.1.1.1.1.2
   have e6 := hF.1.1.1.1.1.1.1.2
   have e7 := hF.1.1.1.1.1.1.2
   have e8 := hF.1.1.1.1.1.2
   have e9 := hF.1.1.1.1.2
   have e10 := hF.1.1.1.2
   have e11 := hF.1.1.2
   have e12 := hF.1.2
   have e13 := hF.2
   clear hF
   simp only [Act.put, List.setIfInBounds_toArray, List.set_cons_succ, List.set_cons_zero, e0, e1, e2, e3, e4, e5, e7, e8, e10, e11, e12, e13]
   clear e0 e1 e2 e3 e4 e5 e7 e8 e10 e11 e12 e13
   have hbw := bel_trans HW2.out (show Below wN2.heap.size wN2 w1 from hb)
   have HF9 := Lib.hid hbw
   clear e6 e9 hbw hb hI hvs
   go_wp2_with fail
   go_ret
   exact ⟨rfl, HF9.out⟩
 ·have BS := HA.out.2.2
  have c1 := BS.cell; have l1 := BS.lt
  have B1 := HA.out.1
  have r1 := B1.row; have l2 := B1.lt
  have hO4 := HO.out
  have hbJ := bel_row (bel_trans HB.out.2.2 HA.out.2.1) (g := g) (by omega) #[.int .u64 (pl s 0), .int .u64 (pl s 1), .int .u64 (pl s 2), .int .u64 (pl s 3), .int .u64 (pl s 4), .int .u64 (pl s 5), .int .u64 (pl s 6), .int .u64 (pl s 7)]
  have bJ1 : Blk (wA.setRow g #[.int .u64 (pl s 0), .int .u64 (pl s 1), .int .u64 (pl s 2), .int .u64 (pl s 3), .int .u64 (pl s 4), .int .u64 (pl s 5), .int .u64 (pl s 6), .int .u64 (pl s 7)]) g #[.int .u64 (pl s 0), .int .u64 (pl s 1), .int .u64 (pl s 2), .int .u64 (pl s 3), .int .u64 (pl s 4), .int .u64 (pl s 5), .int .u64 (pl s 6), .int .u64 (pl s 7)] 26 := B1.rowS _
  have bJ2 : Blk (wA.setRow g #[.int .u64 (pl s 0), .int .u64 (pl s 1), .int .u64 (pl s 2), .int .u64 (pl s 3), .int .u64 (pl s 4), .int .u64 (pl s 5), .int .u64 (pl s 6), .int .u64 (pl s 7)]) w.heap.size #[.int .u64 (pl s 0), .int .u64 (pl s 1), .int .u64 (pl s 2), .int .u64 (pl s 3), .int .u64 (pl s 4), .int .u64 (pl s 5), .int .u64 (pl s 6), .int .u64 (pl s 7)] 26 := BS.rowO _ (by omega)
  have cS := (BS.rowO (g := g) #[.int .u64 (pl p 0), .int .u64 (pl p 1), .int .u64 (pl p 2), .int .u64 (pl p 3), .int .u64 (pl p 4), .int .u64 (pl p 5), .int .u64 (pl p 6), .int .u64 (pl p 7)] (by omega)).cell
  have cJ := bJ1.cell; have lJ := bJ1.lt
  have HJ0 := Lib.hid (And.intro bJ1 (And.intro bJ2 hbJ))
  rw [← B1.rw]
  clear B1 BS hbJ bJ1 bJ2 c1
  go_wp2_with fail
  obtain ⟨wJ, hwJ⟩ : ∃ x, x = wA.setRow g #[.int .u64 (pl s 0), .int .u64 (pl s 1), .int .u64 (pl s 2), .int .u64 (pl s 3), .int .u64 (pl s 4), .int .u64 (pl s 5), .int .u64 (pl s 6), .int .u64 (pl s 7)] := ⟨_, rfl⟩
  rw [← hwJ] at HJ0 ⊢
  have HJ := HJ0
  have HAL := Lib.hid (Go.Solid.Alike.refl s)
  clear hwJ HJ0 r1 l1 l2 hO4 cS cJ lJ
  refine (HMi.out s _ HJ.out.2.2).mono ?_
  obtain ⟨q, f, hqf⟩ : ∃ q f, mirroredM s ax = (q, f) := ⟨_, _, rfl⟩
  rw [hqf]
  rintro e5 w5 ⟨rfl, hb⟩
  have HALq : Hid (f = 0 → Go.Solid.Alike q s) := Lib.hid fun h0 => by subst h0; exact (alike_mirrored hqf).trans HAL.out
  clear hqf
  have HB5 : Hid (Below wJ.heap.size wJ w5) := Lib.hid hb
  clear hb
  go_upto_region 8 with fail
  obtain ⟨wC, hwC⟩ : ∃ x, x = w5.alloc (.cells #[.int .u64 (pl q 0), .int .u64 (pl q 1), .int .u64 (pl q 2), .int .u64 (pl q 3), .int .u64 (pl q 4), .int .u64 (pl q 5), .int .u64 (pl q 6), .int .u64 (pl q 7)] 26) := ⟨_, rfl⟩
  have hC2 : Blk wC w5.heap.size #[.int .u64 (pl q 0), .int .u64 (pl q 1), .int .u64 (pl q 2), .int .u64 (pl q 3), .int .u64 (pl q 4), .int .u64 (pl q 5), .int .u64 (pl q 6), .int .u64 (pl q 7)] 26 ∧ Blk wC g #[.int .u64 (pl s 0), .int .u64 (pl s 1), .int .u64 (pl s 2), .int .u64 (pl s 3), .int .u64 (pl s 4), .int .u64 (pl s 5), .int .u64 (pl s 6), .int .u64 (pl s 7)] 26 ∧ Blk wC w.heap.size #[.int .u64 (pl s 0), .int .u64 (pl s 1), .int .u64 (pl s 2), .int .u64 (pl s 3), .int .u64 (pl s 4), .int .u64 (pl s 5), .int .u64 (pl s 6), .int .u64 (pl s 7)] 26 ∧ Below w.heap.size w wC := by
   rw [hwC]
   exact ⟨Blk.new _ _ _, (HJ.out.1.grow HB5.out).alloc _, (HJ.out.2.1.grow HB5.out).alloc _, bel_alloc (bel_trans HJ.out.2.2 HB5.out) _⟩
  have hO5 : g < w5.heap.size ∧ w.heap.size < w5.heap.size := ⟨Nat.lt_of_lt_of_le HJ.out.1.lt HB5.out.size, Nat.lt_of_lt_of_le HJ.out.2.1.lt HB5.out.size⟩
  obtain ⟨g2, hg2⟩ : ∃ g2, g2 = w5.heap.size := ⟨_, rfl⟩
  rw [← hwC, ← hg2]
  rw [← hg2] at hC2 hO5
  clear hwC hg2 HB5 w5
  have HC2 := Lib.hid hC2
  have HO2 := Lib.hid hO5
  clear hC2 hO5 HJ
  by_cases hf : f = 0
  ·have hal := HALq.out hf
   subst hf
   go_wp2_with fail
   obtain ⟨wJ, hwJ⟩ : ∃ x, x = wC := ⟨_, rfl⟩
   have HJ : Hid (Blk wJ g2 #[.int .u64 (pl q 0), .int .u64 (pl q 1), .int .u64 (pl q 2), .int .u64 (pl q 3), .int .u64 (pl q 4), .int .u64 (pl q 5), .int .u64 (pl q 6), .int .u64 (pl q 7)] 26 ∧ Blk wJ w.heap.size #[.int .u64 (pl s 0), .int .u64 (pl s 1), .int .u64 (pl s 2), .int .u64 (pl s 3), .int .u64 (pl s 4), .int .u64 (pl s 5), .int .u64 (pl s 6), .int .u64 (pl s 7)] 26 ∧ Below w.heap.size w wJ) := Lib.hid (by rw [hwJ]; exact ⟨HC2.out.1, HC2.out.2.2.1, HC2.out.2.2.2⟩)
   rw [← hwJ]
   clear hwJ
   have HXQ := Lib.hid (HX.out _ hal)
   obtain ⟨hx1, hx2, hx3, hx4, hx5⟩ := HXQ.out
   have HPq := Lib.hid fun W hb => HP.out q W hb
   have HVq := Lib.hid fun W hb => HV.out q W hb
   have HUq := Lib.hid fun W hb => HU.out q W hb
   have HKq := Lib.hid fun W hb => HK.out q W hb
   have HNq := Lib.hid fun W hb => HN.out q W hb
   rw [hx1] at HNq; rw [hx2] at HPq; rw [hx3] at HUq; rw [hx4] at HKq; rw [hx5] at HVq
   clear hx1 hx2 hx3 hx4 hx5 HXQ
   have HW := Lib.hid HJ.out.2.2
   refine wp_region_val Grows (fun _ _ _ => True) [Is (solV q), Is (.int .i64 (cs : Int)), Is (solV s), Is (.int .i64 (cs : Int)), Is (.bool true), Is (.bool true), Is (solV q), IsLen ps, Is (.int .i64 (ps : Int)), Is (solV s), IsLen ps, Is (.int .i64 (ps : Int)), Is (.bool true), Is (.bool true), Is (.bool true), Is (solV q), Is (.int .i64 ts), Is (.int .i64 ts), Is (.bool true), Is (.bool true), Is (.bool true), Is (solV q), Is (.int .i64 (ks : Nat)), Is (solV s), Is (.int .i64 (ks : Nat)), Is (.bool true), Is (.bool true), Is (.bool true)] (by kernel_rfl) (by kernel_rfl) rfl Grows.refl (fun _ _ _ => Grows.trans) (stable_mem ⟨fun _ _ _ h _ => h, fun _ _ _ h _ => h, fun _ _ _ h _ => h, fun _ _ _ h _ => h, fun _ _ _ h _ => h, fun _ _ _ h _ => h, fun _ _ _ h _ => h, fun _ _ _ h _ => h, fun _ _ _ h _ => h, fun _ _ _ h _ => h, fun _ _ _ h _ => h, fun _ _ _ h _ => h, fun _ _ _ h _ => h, fun _ _ _ h _ => h, fun _ _ _ h _ => h, fun _ _ _ h _ => h, fun _ _ _ h _ => h, fun _ _ _ h _ => h, fun _ _ _ h _ => h, fun _ _ _ h _ => h, fun _ _ _ h _ => h, fun _ _ _ h _ => h, fun _ _ _ h _ => h, fun _ _ _ h _ => h, fun _ _ _ h _ => h, fun _ _ _ h _ => h, fun _ _ _ h _ => h, fun _ _ _ h _ => h, trivial⟩) wJ (Below.drew (Below.refl _ _)) trivial ?_
   refine val_cons ?_ (fun v0 => ?_)
   ·intro L vs w1 hvs hat hb hI hF; try simp [factsI, Region.binds, Is] at hF
    have D := (HJ.out.1).grow (show Below _ _ _ from hb); have cD := D.cell; have lD := D.lt; clear D
    go_simp
    first | exact Grows.refl _ | exact ⟨Grows.refl _, trivial⟩
   refine val_cons ?_ (fun v1 => ?_)
   ·intro L vs w1 hvs hat hb hI hF; try simp [factsI, Region.binds, Is] at hF
    have hb0 := hb
    go_simp
    refine (HNq.out _ (bel_trans HW.out (show Below _ _ _ from hb0))).mono ?_
    rintro e w2 ⟨rfl, hb2⟩
    first | exact ⟨rfl, hb2⟩ | exact ⟨_, rfl, hb2, trivial, rfl⟩ | exact ⟨_, rfl, hb2, rfl⟩
   refine val_cons ?_ (fun v2 => ?_)
   ·intro L vs w1 hvs hat hb hI hF; try simp [factsI, Region.binds, Is] at hF
    have D := (HJ.out.2.1).grow (show Below _ _ _ from hb); have cD := D.cell; have lD := D.lt; clear D
    go_simp
    first | exact Grows.refl _ | exact ⟨Grows.refl _, trivial⟩
   refine val_cons ?_ (fun v3 => ?_)
   ·intro L vs w1 hvs hat hb hI hF; try simp [factsI, Region.binds, Is] at hF
    have hb0 := hb
    go_simp
    refine (HNs.out _ (bel_trans HW.out (show Below _ _ _ from hb0))).mono ?_
    rintro e w2 ⟨rfl, hb2⟩
    first | exact ⟨rfl, hb2⟩ | exact ⟨_, rfl, hb2, trivial, rfl⟩ | exact ⟨_, rfl, hb2, rfl⟩
   refine val_cons ?_ (fun v4 => ?_)
   ·intro L vs w1 hvs hat hb hI hF; try simp [factsI, Region.binds, Is] at hF
    have hc := (Grows.cells hb).1
    clear hI
    go_simp
    try simp [upd]
    try first | exact Grows.refl _ | exact trivial | exact ⟨Grows.refl _, trivial⟩
   refine val_cons ?_ (fun v5 => ?_)
   ·intro L vs w1 hvs hat hb hI hF; try simp [factsI, Region.binds, Is] at hF
    have hc := (Grows.cells hb).1
    clear hI
    go_simp
    try simp [upd]
    try first | exact Grows.refl _ | exact trivial | exact ⟨Grows.refl _, trivial⟩
   refine val_cons ?_ (fun v6 => ?_)
   ·intro L vs w1 hvs hat hb hI hF; try simp [factsI, Region.binds, Is] at hF
    have D := (HJ.out.1).grow (show Below _ _ _ from hb); have cD := D.cell; have lD := D.lt; clear D
    go_simp
    first | exact Grows.refl _ | exact ⟨Grows.refl _, trivial⟩
   refine val_cons ?_ (fun v7 => ?_)
   ·intro L vs w1 hvs hat hb hI hF; try simp [factsI, Region.binds, Is] at hF
    have hb0 := hb
    go_simp
    refine (HPq.out _ (bel_trans HW.out (show Below _ _ _ from hb0))).mono ?_
    rintro e w2 ⟨⟨pp, cc, rfl⟩, hb2⟩
    first | exact ⟨rfl, hb2⟩ | exact ⟨_, rfl, hb2, trivial, ⟨pp, cc, rfl⟩⟩ | exact ⟨_, rfl, hb2, ⟨pp, cc, rfl⟩⟩
   refine val_cons ?_ (fun v8 => ?_)
   ·intro L vs w1 hvs hat hb hI hF; try simp [factsI, Region.binds, Is] at hF
    have hF2 : IsLen ps v7 w1 := by first | exact hF | exact hF.1 | exact hF.2 | exact hF.1.1 | exact hF.1.2 | exact hF.2.1 | exact hF.2.2
    obtain ⟨pp, cc, hv⟩ := hF2
    subst hv
    go_simp
    first | exact Grows.refl _ | exact ⟨Grows.refl _, trivial⟩
   refine val_cons ?_ (fun v9 => ?_)
   ·intro L vs w1 hvs hat hb hI hF; try simp [factsI, Region.binds, Is] at hF
    have D := (HJ.out.2.1).grow (show Below _ _ _ from hb); have cD := D.cell; have lD := D.lt; clear D
    go_simp
    first | exact Grows.refl _ | exact ⟨Grows.refl _, trivial⟩
   refine val_cons ?_ (fun v10 => ?_)
   ·intro L vs w1 hvs hat hb hI hF; try simp [factsI, Region.binds, Is] at hF
    have hb0 := hb
    go_simp
    refine (HPs.out _ (bel_trans HW.out (show Below _ _ _ from hb0))).mono ?_
    rintro e w2 ⟨⟨pp, cc, rfl⟩, hb2⟩
    first | exact ⟨rfl, hb2⟩ | exact ⟨_, rfl, hb2, trivial, ⟨pp, cc, rfl⟩⟩ | exact ⟨_, rfl, hb2, ⟨pp, cc, rfl⟩⟩
   refine val_cons ?_ (fun v11 => ?_)
   ·intro L vs w1 hvs hat hb hI hF; try simp [factsI, Region.binds, Is] at hF
    have hF2 : IsLen ps v10 w1 := by first | exact hF | exact hF.1 | exact hF.2 | exact hF.1.1 | exact hF.1.2 | exact hF.2.1 | exact hF.2.2
    obtain ⟨pp, cc, hv⟩ := hF2
    subst hv
    go_simp
    first | exact Grows.refl _ | exact ⟨Grows.refl _, trivial⟩
   refine val_cons ?_ (fun v12 => ?_)
   ·intro L vs w1 hvs hat hb hI hF; try simp [factsI, Region.binds, Is] at hF
    have hc := (Grows.cells hb).1
    clear hI
    go_simp
    try simp [upd]
    try first | exact Grows.refl _ | exact trivial | exact ⟨Grows.refl _, trivial⟩
   refine val_cons ?_ (fun v13 => ?_)
   ·intro L vs w1 hvs hat hb hI hF; try simp [factsI, Region.binds, Is] at hF
    have hc := (Grows.cells hb).1
    clear hI
    go_simp
    try simp [upd]
    try first | exact Grows.refl _ | exact trivial | exact ⟨Grows.refl _, trivial⟩
   refine val_cons ?_ (fun v14 => ?_)
   ·intro L vs w1 hvs hat hb hI hF; try simp [factsI, Region.binds, Is] at hF
    have hc := (Grows.cells hb).1
    clear hI
    go_simp
    try simp [upd]
    try first | exact Grows.refl _ | exact trivial | exact ⟨Grows.refl _, trivial⟩
   refine val_cons ?_ (fun v15 => ?_)
   ·intro L vs w1 hvs hat hb hI hF; try simp [factsI, Region.binds, Is] at hF
    have D := (HJ.out.1).grow (show Below _ _ _ from hb); have cD := D.cell; have lD := D.lt; clear D
    go_simp
    first | exact Grows.refl _ | exact ⟨Grows.refl _, trivial⟩
   refine val_cons ?_ (fun v16 => ?_)
   ·intro L vs w1 hvs hat hb hI hF; try simp [factsI, Region.binds, Is] at hF
    have hb0 := hb
    go_simp
    refine (HUq.out _ (bel_trans HW.out (show Below _ _ _ from hb0))).mono ?_
    rintro e w2 ⟨rfl, hb2⟩
    first | exact ⟨rfl, hb2⟩ | exact ⟨_, rfl, hb2, trivial, rfl⟩ | exact ⟨_, rfl, hb2, rfl⟩
   refine val_cons ?_ (fun v17 => ?_)
   ·intro L vs w1 hvs hat hb hI hF; try simp [factsI, Region.binds, Is] at hF
    have hc := (Grows.cells hb).1
    clear hI
    go_simp
    try simp [upd]
    try first | exact Grows.refl _ | exact trivial | exact ⟨Grows.refl _, trivial⟩
   refine val_cons ?_ (fun v18 => ?_)
   ·intro L vs w1 hvs hat hb hI hF; try simp [factsI, Region.binds, Is] at hF
    have hc := (Grows.cells hb).1
    clear hI
    go_simp
    try simp [upd]
    try first | exact Grows.refl _ | exact trivial | exact ⟨Grows.refl _, trivial⟩
   refine val_cons ?_ (fun v19 => ?_)
   ·intro L vs w1 hvs hat hb hI hF; try simp [factsI, Region.binds, Is] at hF
    have hc := (Grows.cells hb).1
    clear hI
    go_simp
    try simp [upd]
    try first | exact Grows.refl _ | exact trivial | exact ⟨Grows.refl _, trivial⟩
   refine val_cons ?_ (fun v20 => ?_)
   ·intro L vs w1 hvs hat hb hI hF; try simp [factsI, Region.binds, Is] at hF
    have hc := (Grows.cells hb).1
    clear hI
    go_simp
    try simp [upd]
    try first | exact Grows.refl _ | exact trivial | exact ⟨Grows.refl _, trivial⟩
   refine val_cons ?_ (fun v21 => ?_)
   ·intro L vs w1 hvs hat hb hI hF; try simp [factsI, Region.binds, Is] at hF
    have D := (HJ.out.1).grow (show Below _ _ _ from hb); have cD := D.cell; have lD := D.lt; clear D
    go_simp
    first | exact Grows.refl _ | exact ⟨Grows.refl _, trivial⟩
   refine val_cons ?_ (fun v22 => ?_)
   ·intro L vs w1 hvs hat hb hI hF; try simp [factsI, Region.binds, Is] at hF
    have hb0 := hb
    go_simp
    refine (HKq.out _ (bel_trans HW.out (show Below _ _ _ from hb0))).mono ?_
    rintro e w2 ⟨rfl, hb2⟩
    first | exact ⟨rfl, hb2⟩ | exact ⟨_, rfl, hb2, trivial, rfl⟩ | exact ⟨_, rfl, hb2, rfl⟩
   refine val_cons ?_ (fun v23 => ?_)
   ·intro L vs w1 hvs hat hb hI hF; try simp [factsI, Region.binds, Is] at hF
    have D := (HJ.out.2.1).grow (show Below _ _ _ from hb); have cD := D.cell; have lD := D.lt; clear D
    go_simp
    first | exact Grows.refl _ | exact ⟨Grows.refl _, trivial⟩
   refine val_cons ?_ (fun v24 => ?_)
   ·intro L vs w1 hvs hat hb hI hF; try simp [factsI, Region.binds, Is] at hF
    have hb0 := hb
    go_simp
    refine (HKs.out _ (bel_trans HW.out (show Below _ _ _ from hb0))).mono ?_
    rintro e w2 ⟨rfl, hb2⟩
    first | exact ⟨rfl, hb2⟩ | exact ⟨_, rfl, hb2, trivial, rfl⟩ | exact ⟨_, rfl, hb2, rfl⟩
   refine val_cons ?_ (fun v25 => ?_)
   ·intro L vs w1 hvs hat hb hI hF; try simp [factsI, Region.binds, Is] at hF
    have hc := (Grows.cells hb).1
    clear hI
    go_simp
    try simp [upd]
    try first | exact Grows.refl _ | exact trivial | exact ⟨Grows.refl _, trivial⟩
   refine val_cons ?_ (fun v26 => ?_)
   ·intro L vs w1 hvs hat hb hI hF; try simp [factsI, Region.binds, Is] at hF
    have hc := (Grows.cells hb).1
    clear hI
    go_simp
    try simp [upd]
    try first | exact Grows.refl _ | exact trivial | exact ⟨Grows.refl _, trivial⟩
   refine val_cons ?_ (fun v27 => ?_)
   ·intro L vs w1 hvs hat hb hI hF; try simp [factsI, Region.binds, Is] at hF
    have hc := (Grows.cells hb).1
    clear hI
    go_simp
    try simp [upd]
    try first | exact Grows.refl _ | exact trivial | exact ⟨Grows.refl _, trivial⟩
   refine val_nil ?_
   intro vs w1 hvs hb hI hF
   simp [Is, Nat.forall_lt_succ_right] at hF
   have e0 := hF.1.1.1.1.1.1.1.1.1.1.1.1.1.1.1.1.1.1.1.1.1.1.1.1.1.1.1
   have e1 := hF.1.1.1.1.1.1.1.1.1.1.1.1.1.1.1.1.1.1.1.1.1.1.1.1.1.1.2
   have e2 := hF.1.1.1.1.1.1.1.1.1.1.1.1.1.1.1.1.1.1.1.1.1.1.1.1.1.2
   have e3 := hF.1.1.1.1.1.1.1.1.1.1.1.1.1.1.1.1.1.1.1.1.1.1.1.1.2
   have e4 := hF.1.1.1.1.1.1.1.1.1.1.1.1.1.1.1.1.1.1.1.1.1.1.1.2
   have e5 := hF.1.1.1.1.1.1.1.1.1.1.1.1.1.1.1.1.1.1.1.1.1.1.2
   have e6 := hF.1.1.1.1.1.1.1.1.1.1.1.1.1.1.1.1.1.1.1.1.1.2
   have e7 := hF.1.1.1.1.1.1.1.1.1.1.1.1.1.1.1.1.1.1.1.1.2
   have e8 := hF.1.1.1.1.1.1.1.1.1.1.1.1.1.1.1.1.1.1.1.2
   have e9 := hF.1.1.1.1.1.1.1.1.1.1.1.1.1.1.1.1.1.1.2
   have e10 := hF.1.1.1.1.1.1.1.1.1.1.1.1.1.1.1.1.1.2
   have e11 := hF.1.1.1.1.1.1.1.1.1.1.1.1.1.1.1.1.2
   have e12 := hF.1.1.1.1.1.1.1.1.1.1.1.1.1.1.1.2
   have e13 := hF.1.1.1.1.1.1.1.1.1.1.1.1.1.1.2
   have e14 := hF.1.1.1.1.1.1.1.1.1.1.1.1.1.2
   have e15 := hF.1.1.1.1.1.1.1.1.1.1.1.1.2
   have e16 := hF.1.1.1.1.1.1.1.1.1.1.1.2
   have e17 := hF.1.1.1.1.1.1.1.1.1.1.2
   have e18 := hF.1.1.1.1.1.1.1.1.1.2
   have e19 := hF.1.1.1.1.1.1.1.1.2
   have e20 := hF.1.1.1.1.1.1.1.2
   have e21 := hF.1.1.1.1.1.1.2
   have e22 := hF.1.1.1.1.1.2
   have e23 := hF.1.1.1.1.2
   have e24 := hF.1.1.1.2
   have e25 := hF.1.1.2
   have e26 := hF.1.2
   have e27 := hF.2
   clear hF
   simp only [Act.put, List.setIfInBounds_toArray, List.set_cons_succ, List.set_cons_zero, e0, e1, e2, e3, e4, e5, e6, e8, e9, e11, e12, e13, e14, e15, e16, e17, e18, e19, e20, e21, e22, e23, e24, e25, e26, e27]
   clear e0 e1 e2 e3 e4 e5 e6 e8 e9 e11 e12 e13 e14 e15 e16 e17 e18 e19 e20 e21 e22 e23 e24 e25 e26 e27
   have HJ2 : Hid (Below wJ.heap.size wJ w1) := Lib.hid (show Below wJ.heap.size wJ w1 from hb)
   obtain ⟨wN2, hwN⟩ : ∃ x, x = w1 := ⟨_, rfl⟩
   rw [← hwN] at HJ2 ⊢
   clear e7 e10 hb hI hvs hwN
   have HW2 := Lib.hid (bel_trans HW.out HJ2.out)
   go_wp2_with fail
   refine wp_region_val Grows (fun _ _ _ => True) [Is (.bool true), Is (.bool true), Is (.bool true), Is (.bool true), Is (.bool true), Is (solV q), IsLen vs', Is (.int .i64 (vs' : Int)), Is (solV s), IsLen vs', Is (.int .i64 (vs' : Int)), Is (.bool true), Is (.bool true), Is (.bool true)] (by kernel_rfl) (by kernel_rfl) rfl Grows.refl (fun _ _ _ => Grows.trans) (stable_mem ⟨fun _ _ _ h _ => h, fun _ _ _ h _ => h, fun _ _ _ h _ => h, fun _ _ _ h _ => h, fun _ _ _ h _ => h, fun _ _ _ h _ => h, fun _ _ _ h _ => h, fun _ _ _ h _ => h, fun _ _ _ h _ => h, fun _ _ _ h _ => h, fun _ _ _ h _ => h, fun _ _ _ h _ => h, fun _ _ _ h _ => h, fun _ _ _ h _ => h, trivial⟩) wN2 (Below.drew (Below.refl _ _)) trivial ?_
   refine val_cons ?_ (fun v0 => ?_)
   ·intro L vs w1 hvs hat hb hI hF; try simp [factsI, Region.binds, Is] at hF
    have hb0 := hb
    go_simp
    refine (HC.out _ (bel_trans HW2.out (show Below _ _ _ from hb0))).mono ?_
    rintro e w2 ⟨rfl, hb2⟩
    first | exact ⟨rfl, hb2⟩ | exact ⟨_, rfl, hb2, trivial, rfl⟩ | exact ⟨_, rfl, hb2, rfl⟩
   refine val_cons ?_ (fun v1 => ?_)
   ·intro L vs w1 hvs hat hb hI hF; try simp [factsI, Region.binds, Is] at hF
    have hc := (Grows.cells hb).1
    clear hI
    go_simp
    try simp [upd]
    try first | exact Grows.refl _ | exact trivial | exact ⟨Grows.refl _, trivial⟩
   refine val_cons ?_ (fun v2 => ?_)
   ·intro L vs w1 hvs hat hb hI hF; try simp [factsI, Region.binds, Is] at hF
    have hc := (Grows.cells hb).1
    clear hI
    go_simp
    try simp [upd]
    try first | exact Grows.refl _ | exact trivial | exact ⟨Grows.refl _, trivial⟩
   refine val_cons ?_ (fun v3 => ?_)
   ·intro L vs w1 hvs hat hb hI hF; try simp [factsI, Region.binds, Is] at hF
    have hc := (Grows.cells hb).1
    clear hI
    go_simp
    try simp [upd]
    try first | exact Grows.refl _ | exact trivial | exact ⟨Grows.refl _, trivial⟩
   refine val_cons ?_ (fun v4 => ?_)
   ·intro L vs w1 hvs hat hb hI hF; try simp [factsI, Region.binds, Is] at hF
    have hc := (Grows.cells hb).1
    clear hI
    go_simp
    try simp [upd]
    try first | exact Grows.refl _ | exact trivial | exact ⟨Grows.refl _, trivial⟩
   refine val_cons ?_ (fun v5 => ?_)
   ·intro L vs w1 hvs hat hb hI hF; try simp [factsI, Region.binds, Is] at hF
    have D := (HJ.out.1.grow HJ2.out).grow (show Below _ _ _ from hb); have cD := D.cell; have lD := D.lt; clear D
    go_simp
    first | exact Grows.refl _ | exact ⟨Grows.refl _, trivial⟩
   refine val_cons ?_ (fun v6 => ?_)
   ·intro L vs w1 hvs hat hb hI hF; try simp [factsI, Region.binds, Is] at hF
    have hb0 := hb
    go_simp
    refine (HVq.out _ (bel_trans HW2.out (show Below _ _ _ from hb0))).mono ?_
    rintro e w2 ⟨⟨pp, cc, rfl⟩, hb2⟩
    first | exact ⟨rfl, hb2⟩ | exact ⟨_, rfl, hb2, trivial, ⟨pp, cc, rfl⟩⟩ | exact ⟨_, rfl, hb2, ⟨pp, cc, rfl⟩⟩
   refine val_cons ?_ (fun v7 => ?_)
   ·intro L vs w1 hvs hat hb hI hF; try simp [factsI, Region.binds, Is] at hF
    have hF2 : IsLen vs' v6 w1 := by first | exact hF | exact hF.1 | exact hF.2 | exact hF.1.1 | exact hF.1.2 | exact hF.2.1 | exact hF.2.2
    obtain ⟨pp, cc, hv⟩ := hF2
    subst hv
    go_simp
    first | exact Grows.refl _ | exact ⟨Grows.refl _, trivial⟩
   refine val_cons ?_ (fun v8 => ?_)
   ·intro L vs w1 hvs hat hb hI hF; try simp [factsI, Region.binds, Is] at hF
    have D := (HJ.out.2.1.grow HJ2.out).grow (show Below _ _ _ from hb); have cD := D.cell; have lD := D.lt; clear D
    go_simp
    first | exact Grows.refl _ | exact ⟨Grows.refl _, trivial⟩
   refine val_cons ?_ (fun v9 => ?_)
   ·intro L vs w1 hvs hat hb hI hF; try simp [factsI, Region.binds, Is] at hF
    have hb0 := hb
    go_simp
    refine (HVs.out _ (bel_trans HW2.out (show Below _ _ _ from hb0))).mono ?_
    rintro e w2 ⟨⟨pp, cc, rfl⟩, hb2⟩
    first | exact ⟨rfl, hb2⟩ | exact ⟨_, rfl, hb2, trivial, ⟨pp, cc, rfl⟩⟩ | exact ⟨_, rfl, hb2, ⟨pp, cc, rfl⟩⟩
   refine val_cons ?_ (fun v10 => ?_)
   ·intro L vs w1 hvs hat hb hI hF; try simp [factsI, Region.binds, Is] at hF
    have hF2 : IsLen vs' v9 w1 := by first | exact hF | exact hF.1 | exact hF.2 | exact hF.1.1 | exact hF.1.2 | exact hF.2.1 | exact hF.2.2
    obtain ⟨pp, cc, hv⟩ := hF2
    subst hv
    go_simp
    first | exact Grows.refl _ | exact ⟨Grows.refl _, trivial⟩
   refine val_cons ?_ (fun v11 => ?_)
   ·intro L vs w1 hvs hat hb hI hF; try simp [factsI, Region.binds, Is] at hF
    have hc := (Grows.cells hb).1
    clear hI
    go_simp
    try simp [upd]
    try first | exact Grows.refl _ | exact trivial | exact ⟨Grows.refl _, trivial⟩
   refine val_cons ?_ (fun v12 => ?_)
   ·intro L vs w1 hvs hat hb hI hF; try simp [factsI, Region.binds, Is] at hF
    have hc := (Grows.cells hb).1
    clear hI
    go_simp
    try simp [upd]
    try first | exact Grows.refl _ | exact trivial | exact ⟨Grows.refl _, trivial⟩
   refine val_cons ?_ (fun v13 => ?_)
   ·intro L vs w1 hvs hat hb hI hF; try simp [factsI, Region.binds, Is] at hF
    have hc := (Grows.cells hb).1
    clear hI
    go_simp
    try simp [upd]
    try first | exact Grows.refl _ | exact trivial | exact ⟨Grows.refl _, trivial⟩
   refine val_nil ?_
   intro vs w1 hvs hb hI hF
   simp [Is, Nat.forall_lt_succ_right] at hF
   have e0 := hF.1.1.1.1.1.1.1.1.1.1.1.1.1
   have e1 := hF.1.1.1.1.1.1.1.1.1.1.1.1.2
   have e2 := hF.1.1.1.1.1.1.1.1.1.1.1.2
   have e3 := hF.1.1.1.1.1.1.1.1.1.1.2
   have e4 := hF.1.1.1.1.1.1.1.1.1.2
   have e5 := hF.1.1.1.1.1.1.1.1.2
   have e6 := hF.1.1.1.1.1.1.1.2
   have e7 := hF.1.1.1.1.1.1.2
   have e8 := hF.1.1.1.1.1.2
   have e9 := hF.1.1.1.1.2
   have e10 := hF.1.1.1.2
   have e11 := hF.1.1.2
   have e12 := hF.1.2
   have e13 := hF.2
   clear hF
   simp only [Act.put, List.setIfInBounds_toArray, List.set_cons_succ, List.set_cons_zero, e0, e1, e2, e3, e4, e5, e7, e8, e10, e11, e12, e13]
   clear e0 e1 e2 e3 e4 e5 e7 e8 e10 e11 e12 e13
   have hbw := bel_trans HW2.out (show Below wN2.heap.size wN2 w1 from hb)
   have HF9 := Lib.hid hbw
   clear e6 e9 hbw hb hI hvs
   go_wp2_with fail
   go_ret
   exact ⟨rfl, HF9.out⟩
  ·have BG := HC2.out.2.1
   have c1 := BG.cell; have l1 := BG.lt
   have B1 := HC2.out.1
   have r1 := B1.row; have l2 := B1.lt
   have hO5 := HO2.out
   have hbJ := bel_row HC2.out.2.2.2 (g := g2) (by omega) #[.int .u64 (pl s 0), .int .u64 (pl s 1), .int .u64 (pl s 2), .int .u64 (pl s 3), .int .u64 (pl s 4), .int .u64 (pl s 5), .int .u64 (pl s 6), .int .u64 (pl s 7)]
   have bJ1 : Blk (wC.setRow g2 #[.int .u64 (pl s 0), .int .u64 (pl s 1), .int .u64 (pl s 2), .int .u64 (pl s 3), .int .u64 (pl s 4), .int .u64 (pl s 5), .int .u64 (pl s 6), .int .u64 (pl s 7)]) g2 #[.int .u64 (pl s 0), .int .u64 (pl s 1), .int .u64 (pl s 2), .int .u64 (pl s 3), .int .u64 (pl s 4), .int .u64 (pl s 5), .int .u64 (pl s 6), .int .u64 (pl s 7)] 26 := B1.rowS _
   have bJ2 : Blk (wC.setRow g2 #[.int .u64 (pl s 0), .int .u64 (pl s 1), .int .u64 (pl s 2), .int .u64 (pl s 3), .int .u64 (pl s 4), .int .u64 (pl s 5), .int .u64 (pl s 6), .int .u64 (pl s 7)]) w.heap.size #[.int .u64 (pl s 0), .int .u64 (pl s 1), .int .u64 (pl s 2), .int .u64 (pl s 3), .int .u64 (pl s 4), .int .u64 (pl s 5), .int .u64 (pl s 6), .int .u64 (pl s 7)] 26 := HC2.out.2.2.1.rowO _ (by omega)
   have HJ0 := Lib.hid (And.intro bJ1 (And.intro bJ2 hbJ))
   have cG := (BG.rowO (g := g2) #[.int .u64 (pl q 0), .int .u64 (pl q 1), .int .u64 (pl q 2), .int .u64 (pl q 3), .int .u64 (pl q 4), .int .u64 (pl q 5), .int .u64 (pl q 6), .int .u64 (pl q 7)] (by omega)).cell
   rw [← B1.rw]
   clear B1 BG hbJ bJ1 bJ2 c1
   go_wp2_with fail
   obtain ⟨wJ, hwJ⟩ : ∃ x, x = wC.setRow g2 #[.int .u64 (pl s 0), .int .u64 (pl s 1), .int .u64 (pl s 2), .int .u64 (pl s 3), .int .u64 (pl s 4), .int .u64 (pl s 5), .int .u64 (pl s 6), .int .u64 (pl s 7)] := ⟨_, rfl⟩
   rw [← hwJ] at HJ0 ⊢
   have HJ := HJ0
   clear hwJ HJ0 r1 l1 l2 hO5 cG
   have HXQ := Lib.hid (HX.out _ HAL.out)
   obtain ⟨hx1, hx2, hx3, hx4, hx5⟩ := HXQ.out
   have HPq := Lib.hid fun W hb => HP.out s W hb
   have HVq := Lib.hid fun W hb => HV.out s W hb
   have HUq := Lib.hid fun W hb => HU.out s W hb
   have HKq := Lib.hid fun W hb => HK.out s W hb
   have HNq := Lib.hid fun W hb => HN.out s W hb
   rw [hx1] at HNq; rw [hx2] at HPq; rw [hx3] at HUq; rw [hx4] at HKq; rw [hx5] at HVq
   clear hx1 hx2 hx3 hx4 hx5 HXQ
   have HW := Lib.hid HJ.out.2.2
   refine wp_region_val Grows (fun _ _ _ => True) [Is (solV s), Is (.int .i64 (cs : Int)), Is (solV s), Is (.int .i64 (cs : Int)), Is (.bool true), Is (.bool true), Is (solV s), IsLen ps, Is (.int .i64 (ps : Int)), Is (solV s), IsLen ps, Is (.int .i64 (ps : Int)), Is (.bool true), Is (.bool true), Is (.bool true), Is (solV s), Is (.int .i64 ts), Is (.int .i64 ts), Is (.bool true), Is (.bool true), Is (.bool true), Is (solV s), Is (.int .i64 (ks : Nat)), Is (solV s), Is (.int .i64 (ks : Nat)), Is (.bool true), Is (.bool true), Is (.bool true)] (by kernel_rfl) (by kernel_rfl) rfl Grows.refl (fun _ _ _ => Grows.trans) (stable_mem ⟨fun _ _ _ h _ => h, fun _ _ _ h _ => h, fun _ _ _ h _ => h, fun _ _ _ h _ => h, fun _ _ _ h _ => h, fun _ _ _ h _ => h, fun _ _ _ h _ => h, fun _ _ _ h _ => h, fun _ _ _ h _ => h, fun _ _ _ h _ => h, fun _ _ _ h _ => h, fun _ _ _ h _ => h, fun _ _ _ h _ => h, fun _ _ _ h _ => h, fun _ _ _ h _ => h, fun _ _ _ h _ => h, fun _ _ _ h _ => h, fun _ _ _ h _ => h, fun _ _ _ h _ => h, fun _ _ _ h _ => h, fun _ _ _ h _ => h, fun _ _ _ h _ => h, fun _ _ _ h _ => h, fun _ _ _ h _ => h, fun _ _ _ h _ => h, fun _ _ _ h _ => h, fun _ _ _ h _ => h, fun _ _ _ h _ => h, trivial⟩) wJ (Below.drew (Below.refl _ _)) trivial ?_
   refine val_cons ?_ (fun v0 => ?_)
   ·intro L vs w1 hvs hat hb hI hF; try simp [factsI, Region.binds, Is] at hF
    have D := (HJ.out.1).grow (show Below _ _ _ from hb); have cD := D.cell; have lD := D.lt; clear D
    go_simp
    first | exact Grows.refl _ | exact ⟨Grows.refl _, trivial⟩
   refine val_cons ?_ (fun v1 => ?_)
   ·intro L vs w1 hvs hat hb hI hF; try simp [factsI, Region.binds, Is] at hF
    have hb0 := hb
    go_simp
    refine (HNq.out _ (bel_trans HW.out (show Below _ _ _ from hb0))).mono ?_
    rintro e w2 ⟨rfl, hb2⟩
    first | exact ⟨rfl, hb2⟩ | exact ⟨_, rfl, hb2, trivial, rfl⟩ | exact ⟨_, rfl, hb2, rfl⟩
   refine val_cons ?_ (fun v2 => ?_)
   ·intro L vs w1 hvs hat hb hI hF; try simp [factsI, Region.binds, Is] at hF
    have D := (HJ.out.2.1).grow (show Below _ _ _ from hb); have cD := D.cell; have lD := D.lt; clear D
    go_simp
    first | exact Grows.refl _ | exact ⟨Grows.refl _, trivial⟩
   refine val_cons ?_ (fun v3 => ?_)
   ·intro L vs w1 hvs hat hb hI hF; try simp [factsI, Region.binds, Is] at hF
    have hb0 := hb
    go_simp
    refine (HNs.out _ (bel_trans HW.out (show Below _ _ _ from hb0))).mono ?_
    rintro e w2 ⟨rfl, hb2⟩
    first | exact ⟨rfl, hb2⟩ | exact ⟨_, rfl, hb2, trivial, rfl⟩ | exact ⟨_, rfl, hb2, rfl⟩
   refine val_cons ?_ (fun v4 => ?_)
   ·intro L vs w1 hvs hat hb hI hF; try simp [factsI, Region.binds, Is] at hF
    have hc := (Grows.cells hb).1
    clear hI
    go_simp
    try simp [upd]
    try first | exact Grows.refl _ | exact trivial | exact ⟨Grows.refl _, trivial⟩
   refine val_cons ?_ (fun v5 => ?_)
   ·intro L vs w1 hvs hat hb hI hF; try simp [factsI, Region.binds, Is] at hF
    have hc := (Grows.cells hb).1
    clear hI
    go_simp
    try simp [upd]
    try first | exact Grows.refl _ | exact trivial | exact ⟨Grows.refl _, trivial⟩
   refine val_cons ?_ (fun v6 => ?_)
   ·intro L vs w1 hvs hat hb hI hF; try simp [factsI, Region.binds, Is] at hF
    have D := (HJ.out.1).grow (show Below _ _ _ from hb); have cD := D.cell; have lD := D.lt; clear D
    go_simp
    first | exact Grows.refl _ | exact ⟨Grows.refl _, trivial⟩
   refine val_cons ?_ (fun v7 => ?_)
   ·intro L vs w1 hvs hat hb hI hF; try simp [factsI, Region.binds, Is] at hF
    have hb0 := hb
    go_simp
    refine (HPq.out _ (bel_trans HW.out (show Below _ _ _ from hb0))).mono ?_
    rintro e w2 ⟨⟨pp, cc, rfl⟩, hb2⟩
    first | exact ⟨rfl, hb2⟩ | exact ⟨_, rfl, hb2, trivial, ⟨pp, cc, rfl⟩⟩ | exact ⟨_, rfl, hb2, ⟨pp, cc, rfl⟩⟩
   refine val_cons ?_ (fun v8 => ?_)
   ·intro L vs w1 hvs hat hb hI hF; try simp [factsI, Region.binds, Is] at hF
    have hF2 : IsLen ps v7 w1 := by first | exact hF | exact hF.1 | exact hF.2 | exact hF.1.1 | exact hF.1.2 | exact hF.2.1 | exact hF.2.2
    obtain ⟨pp, cc, hv⟩ := hF2
    subst hv
    go_simp
    first | exact Grows.refl _ | exact ⟨Grows.refl _, trivial⟩
   refine val_cons ?_ (fun v9 => ?_)
   ·intro L vs w1 hvs hat hb hI hF; try simp [factsI, Region.binds, Is] at hF
    have D := (HJ.out.2.1).grow (show Below _ _ _ from hb); have cD := D.cell; have lD := D.lt; clear D
    go_simp
    first | exact Grows.refl _ | exact ⟨Grows.refl _, trivial⟩
   refine val_cons ?_ (fun v10 => ?_)
   ·intro L vs w1 hvs hat hb hI hF; try simp [factsI, Region.binds, Is] at hF
    have hb0 := hb
    go_simp
    refine (HPs.out _ (bel_trans HW.out (show Below _ _ _ from hb0))).mono ?_
    rintro e w2 ⟨⟨pp, cc, rfl⟩, hb2⟩
    first | exact ⟨rfl, hb2⟩ | exact ⟨_, rfl, hb2, trivial, ⟨pp, cc, rfl⟩⟩ | exact ⟨_, rfl, hb2, ⟨pp, cc, rfl⟩⟩
   refine val_cons ?_ (fun v11 => ?_)
   ·intro L vs w1 hvs hat hb hI hF; try simp [factsI, Region.binds, Is] at hF
    have hF2 : IsLen ps v10 w1 := by first | exact hF | exact hF.1 | exact hF.2 | exact hF.1.1 | exact hF.1.2 | exact hF.2.1 | exact hF.2.2
    obtain ⟨pp, cc, hv⟩ := hF2
    subst hv
    go_simp
    first | exact Grows.refl _ | exact ⟨Grows.refl _, trivial⟩
   refine val_cons ?_ (fun v12 => ?_)
   ·intro L vs w1 hvs hat hb hI hF; try simp [factsI, Region.binds, Is] at hF
    have hc := (Grows.cells hb).1
    clear hI
    go_simp
    try simp [upd]
    try first | exact Grows.refl _ | exact trivial | exact ⟨Grows.refl _, trivial⟩
   refine val_cons ?_ (fun v13 => ?_)
   ·intro L vs w1 hvs hat hb hI hF; try simp [factsI, Region.binds, Is] at hF
    have hc := (Grows.cells hb).1
    clear hI
    go_simp
    try simp [upd]
    try first | exact Grows.refl _ | exact trivial | exact ⟨Grows.refl _, trivial⟩
   refine val_cons ?_ (fun v14 => ?_)
   ·intro L vs w1 hvs hat hb hI hF; try simp [factsI, Region.binds, Is] at hF
    have hc := (Grows.cells hb).1
    clear hI
    go_simp
    try simp [upd]
    try first | exact Grows.refl _ | exact trivial | exact ⟨Grows.refl _, trivial⟩
   refine val_cons ?_ (fun v15 => ?_)
   ·intro L vs w1 hvs hat hb hI hF; try simp [factsI, Region.binds, Is] at hF
    have D := (HJ.out.1).grow (show Below _ _ _ from hb); have cD := D.cell; have lD := D.lt; clear D
    go_simp
    first | exact Grows.refl _ | exact ⟨Grows.refl _, trivial⟩
   refine val_cons ?_ (fun v16 => ?_)
   ·intro L vs w1 hvs hat hb hI hF; try simp [factsI, Region.binds, Is] at hF
    have hb0 := hb
    go_simp
    refine (HUq.out _ (bel_trans HW.out (show Below _ _ _ from hb0))).mono ?_
    rintro e w2 ⟨rfl, hb2⟩
    first | exact ⟨rfl, hb2⟩ | exact ⟨_, rfl, hb2, trivial, rfl⟩ | exact ⟨_, rfl, hb2, rfl⟩
   refine val_cons ?_ (fun v17 => ?_)
   ·intro L vs w1 hvs hat hb hI hF; try simp [factsI, Region.binds, Is] at hF
    have hc := (Grows.cells hb).1
    clear hI
    go_simp
    try simp [upd]
    try first | exact Grows.refl _ | exact trivial | exact ⟨Grows.refl _, trivial⟩
   refine val_cons ?_ (fun v18 => ?_)
   ·intro L vs w1 hvs hat hb hI hF; try simp [factsI, Region.binds, Is] at hF
    have hc := (Grows.cells hb).1
    clear hI
    go_simp
    try simp [upd]
    try first | exact Grows.refl _ | exact trivial | exact ⟨Grows.refl _, trivial⟩
   refine val_cons ?_ (fun v19 => ?_)
   ·intro L vs w1 hvs hat hb hI hF; try simp [factsI, Region.binds, Is] at hF
    have hc := (Grows.cells hb).1
    clear hI
    go_simp
    try simp [upd]
    try first | exact Grows.refl _ | exact trivial | exact ⟨Grows.refl _, trivial⟩
   refine val_cons ?_ (fun v20 => ?_)
   ·intro L vs w1 hvs hat hb hI hF; try simp [factsI, Region.binds, Is] at hF
    have hc := (Grows.cells hb).1
    clear hI
    go_simp
    try simp [upd]
    try first | exact Grows.refl _ | exact trivial | exact ⟨Grows.refl _, trivial⟩
   refine val_cons ?_ (fun v21 => ?_)
   ·intro L vs w1 hvs hat hb hI hF; try simp [factsI, Region.binds, Is] at hF
    have D := (HJ.out.1).grow (show Below _ _ _ from hb); have cD := D.cell; have lD := D.lt; clear D
    go_simp
    first | exact Grows.refl _ | exact ⟨Grows.refl _, trivial⟩
   refine val_cons ?_ (fun v22 => ?_)
   ·intro L vs w1 hvs hat hb hI hF; try simp [factsI, Region.binds, Is] at hF
    have hb0 := hb
    go_simp
    refine (HKq.out _ (bel_trans HW.out (show Below _ _ _ from hb0))).mono ?_
    rintro e w2 ⟨rfl, hb2⟩
    first | exact ⟨rfl, hb2⟩ | exact ⟨_, rfl, hb2, trivial, rfl⟩ | exact ⟨_, rfl, hb2, rfl⟩
   refine val_cons ?_ (fun v23 => ?_)
   ·intro L vs w1 hvs hat hb hI hF; try simp [factsI, Region.binds, Is] at hF
    have D := (HJ.out.2.1).grow (show Below _ _ _ from hb); have cD := D.cell; have lD := D.lt; clear D
    go_simp
    first | exact Grows.refl _ | exact ⟨Grows.refl _, trivial⟩
   refine val_cons ?_ (fun v24 => ?_)
   ·intro L vs w1 hvs hat hb hI hF; try simp [factsI, Region.binds, Is] at hF
    have hb0 := hb
    go_simp
    refine (HKs.out _ (bel_trans HW.out (show Below _ _ _ from hb0))).mono ?_
    rintro e w2 ⟨rfl, hb2⟩
    first | exact ⟨rfl, hb2⟩ | exact ⟨_, rfl, hb2, trivial, rfl⟩ | exact ⟨_, rfl, hb2, rfl⟩
   refine val_cons ?_ (fun v25 => ?_)
   ·intro L vs w1 hvs hat hb hI hF; try simp [factsI, Region.binds, Is] at hF
    have hc := (Grows.cells hb).1
    clear hI
    go_simp
    try simp [upd]
    try first | exact Grows.refl _ | exact trivial | exact ⟨Grows.refl _, trivial⟩
   refine val_cons ?_ (fun v26 => ?_)
   ·intro L vs w1 hvs hat hb hI hF; try simp [factsI, Region.binds, Is] at hF
    have hc := (Grows.cells hb).1
    clear hI
    go_simp
    try simp [upd]
    try first | exact Grows.refl _ | exact trivial | exact ⟨Grows.refl _, trivial⟩
   refine val_cons ?_ (fun v27 => ?_)
   ·intro L vs w1 hvs hat hb hI hF; try simp [factsI, Region.binds, Is] at hF
    have hc := (Grows.cells hb).1
    clear hI
    go_simp
    try simp [upd]
    try first | exact Grows.refl _ | exact trivial | exact ⟨Grows.refl _, trivial⟩
   refine val_nil ?_
   intro vs w1 hvs hb hI hF
   simp [Is, Nat.forall_lt_succ_right] at hF
   have e0 := hF.1.1.1.1.1.1.1.1.1.1.1.1.1.1.1.1.1.1.1.1.1.1.1.1.1.1.1
   have e1 := hF.1.1.1.1.1.1.1.1.1.1.1.1.1.1.1.1.1.1.1.1.1.1.1.1.1.1.2
   have e2 := hF.1.1.1.1.1.1.1.1.1.1.1.1.1.1.1.1.1.1.1.1.1.1.1.1.1.2
   have e3 := hF.1.1.1.1.1.1.1.1.1.1.1.1.1.1.1.1.1.1.1.1.1.1.1.1.2
   have e4 := hF.1.1.1.1.1.1.1.1.1.1.1.1.1.1.1.1.1.1.1.1.1.1.1.2
   have e5 := hF.1.1.1.1.1.1.1.1.1.1.1.1.1.1.1.1.1.1.1.1.1.1.2
   have e6 := hF.1.1.1.1.1.1.1.1.1.1.1.1.1.1.1.1.1.1.1.1.1.2
   have e7 := hF.1.1.1.1.1.1.1.1.1.1.1.1.1.1.1.1.1.1.1.1.2
   have e8 := hF.1.1.1.1.1.1.1.1.1.1.1.1.1.1.1.1.1.1.1.2
   have e9 := hF.1.1.1.1.1.1.1.1.1.1.1.1.1.1.1.1.1.1.2
   have e10 := hF.1.1.1.1.1.1.1.1.1.1.1.1.1.1.1.1.1.2
   have e11 := hF.1.1.1.1.1.1.1.1.1.1.1.1.1.1.1.1.2
   have e12 := hF.1.1.1.1.1.1.1.1.1.1.1.1.1.1.1.2
   have e13 := hF.1.1.1.1.1.1.1.1.1.1.1.1.1.1.2
   have e14 := hF.1.1.1.1.1.1.1.1.1.1.1.1.1.2
   have e15 := hF.1.1.1.1.1.1.1.1.1.1.1.1.2
   have e16 := hF.1.1.1.1.1.1.1.1.1.1.1.2
   have e17 := hF.1.1.1.1.1.1.1.1.1.1.2
   have e18 := hF.1.1.1.1.1.1.1.1.1.2
   have e19 := hF.1.1.1.1.1.1.1.1.2
   have e20 := hF.1.1.1.1.1.1.1.2
   have e21 := hF.1.1.1.1.1.1.2
   have e22 := hF.1.1.1.1.1.2
   have e23 := hF.1.1.1.1.2
   have e24 := hF.1.1.1.2
   have e25 := hF.1.1.2
   have e26 := hF.1.2
   have e27 := hF.2
   clear hF
   simp only [Act.put, List.setIfInBounds_toArray, List.set_cons_succ, List.set_cons_zero, e0, e1, e2, e3, e4, e5, e6, e8, e9, e11, e12, e13, e14, e15, e16, e17, e18, e19, e20, e21, e22, e23, e24, e25, e26, e27]
   clear e0 e1 e2 e3 e4 e5 e6 e8 e9 e11 e12 e13 e14 e15 e16 e17 e18 e19 e20 e21 e22 e23 e24 e25 e26 e27
   have HJ2 : Hid (Below wJ.heap.size wJ w1) := Lib.hid (show Below wJ.heap.size wJ w1 from hb)
   obtain ⟨wN2, hwN⟩ : ∃ x, x = w1 := ⟨_, rfl⟩
   rw [← hwN] at HJ2 ⊢
   clear e7 e10 hb hI hvs hwN
   have HW2 := Lib.hid (bel_trans HW.out HJ2.out)
   go_wp2_with fail
   refine wp_region_val Grows (fun _ _ _ => True) [Is (.bool true), Is (.bool true), Is (.bool true), Is (.bool true), Is (.bool true), Is (solV s), IsLen vs', Is (.int .i64 (vs' : Int)), Is (solV s), IsLen vs', Is (.int .i64 (vs' : Int)), Is (.bool true), Is (.bool true), Is (.bool true)] (by kernel_rfl) (by kernel_rfl) rfl Grows.refl (fun _ _ _ => Grows.trans) (stable_mem ⟨fun _ _ _ h _ => h, fun _ _ _ h _ => h, fun _ _ _ h _ => h, fun _ _ _ h _ => h, fun _ _ _ h _ => h, fun _ _ _ h _ => h, fun _ _ _ h _ => h, fun _ _ _ h _ => h, fun _ _ _ h _ => h, fun _ _ _ h _ => h, fun _ _ _ h _ => h, fun _ _ _ h _ => h, fun _ _ _ h _ => h, fun _ _ _ h _ => h, trivial⟩) wN2 (Below.drew (Below.refl _ _)) trivial ?_
   refine val_cons ?_ (fun v0 => ?_)
   ·intro L vs w1 hvs hat hb hI hF; try simp [factsI, Region.binds, Is] at hF
    have hb0 := hb
    go_simp
    refine (HC.out _ (bel_trans HW2.out (show Below _ _ _ from hb0))).mono ?_
    rintro e w2 ⟨rfl, hb2⟩
    first | exact ⟨rfl, hb2⟩ | exact ⟨_, rfl, hb2, trivial, rfl⟩ | exact ⟨_, rfl, hb2, rfl⟩
   refine val_cons ?_ (fun v1 => ?_)
   ·intro L vs w1 hvs hat hb hI hF; try simp [factsI, Region.binds, Is] at hF
    have hc := (Grows.cells hb).1
    clear hI
    go_simp
    try simp [upd]
    try first | exact Grows.refl _ | exact trivial | exact ⟨Grows.refl _, trivial⟩
   refine val_cons ?_ (fun v2 => ?_)
   ·intro L vs w1 hvs hat hb hI hF; try simp [factsI, Region.binds, Is] at hF
    have hc := (Grows.cells hb).1
    clear hI
    go_simp
    try simp [upd]
    try first | exact Grows.refl _ | exact trivial | exact ⟨Grows.refl _, trivial⟩
   refine val_cons ?_ (fun v3 => ?_)
   ·intro L vs w1 hvs hat hb hI hF; try simp [factsI, Region.binds, Is] at hF
    have hc := (Grows.cells hb).1
    clear hI
    go_simp
    try simp [upd]
    try first | exact Grows.refl _ | exact trivial | exact ⟨Grows.refl _, trivial⟩
   refine val_cons ?_ (fun v4 => ?_)
   ·intro L vs w1 hvs hat hb hI hF; try simp [factsI, Region.binds, Is] at hF
    have hc := (Grows.cells hb).1
    clear hI
    go_simp
    try simp [upd]
    try first | exact Grows.refl _ | exact trivial | exact ⟨Grows.refl _, trivial⟩
   refine val_cons ?_ (fun v5 => ?_)
   ·intro L vs w1 hvs hat hb hI hF; try simp [factsI, Region.binds, Is] at hF
    have D := (HJ.out.1.grow HJ2.out).grow (show Below _ _ _ from hb); have cD := D.cell; have lD := D.lt; clear D
    go_simp
    first | exact Grows.refl _ | exact ⟨Grows.refl _, trivial⟩
   refine val_cons ?_ (fun v6 => ?_)
   ·intro L vs w1 hvs hat hb hI hF; try simp [factsI, Region.binds, Is] at hF
    have hb0 := hb
    go_simp
    refine (HVq.out _ (bel_trans HW2.out (show Below _ _ _ from hb0))).mono ?_
    rintro e w2 ⟨⟨pp, cc, rfl⟩, hb2⟩
    first | exact ⟨rfl, hb2⟩ | exact ⟨_, rfl, hb2, trivial, ⟨pp, cc, rfl⟩⟩ | exact ⟨_, rfl, hb2, ⟨pp, cc, rfl⟩⟩
   refine val_cons ?_ (fun v7 => ?_)
   ·intro L vs w1 hvs hat hb hI hF; try simp [factsI, Region.binds, Is] at hF
    have hF2 : IsLen vs' v6 w1 := by first | exact hF | exact hF.1 | exact hF.2 | exact hF.1.1 | exact hF.1.2 | exact hF.2.1 | exact hF.2.2
    obtain ⟨pp, cc, hv⟩ := hF2
    subst hv
    go_simp
    first | exact Grows.refl _ | exact ⟨Grows.refl _, trivial⟩
   refine val_cons ?_ (fun v8 => ?_)
   ·intro L vs w1 hvs hat hb hI hF; try simp [factsI, Region.binds, Is] at hF
    have D := (HJ.out.2.1.grow HJ2.out).grow (show Below _ _ _ from hb); have cD := D.cell; have lD := D.lt; clear D
    go_simp
    first | exact Grows.refl _ | exact ⟨Grows.refl _, trivial⟩
   refine val_cons ?_ (fun v9 => ?_)
   ·intro L vs w1 hvs hat hb hI hF; try simp [factsI, Region.binds, Is] at hF
    have hb0 := hb
    go_simp
    refine (HVs.out _ (bel_trans HW2.out (show Below _ _ _ from hb0))).mono ?_
    rintro e w2 ⟨⟨pp, cc, rfl⟩, hb2⟩
    first | exact ⟨rfl, hb2⟩ | exact ⟨_, rfl, hb2, trivial, ⟨pp, cc, rfl⟩⟩ | exact ⟨_, rfl, hb2, ⟨pp, cc, rfl⟩⟩
   refine val_cons ?_ (fun v10 => ?_)
   ·intro L vs w1 hvs hat hb hI hF; try simp [factsI, Region.binds, Is] at hF
    have hF2 : IsLen vs' v9 w1 := by first | exact hF | exact hF.1 | exact hF.2 | exact hF.1.1 | exact hF.1.2 | exact hF.2.1 | exact hF.2.2
    obtain ⟨pp, cc, hv⟩ := hF2
    subst hv
    go_simp
    first | exact Grows.refl _ | exact ⟨Grows.refl _, trivial⟩
   refine val_cons ?_ (fun v11 => ?_)
   ·intro L vs w1 hvs hat hb hI hF; try simp [factsI, Region.binds, Is] at hF
    have hc := (Grows.cells hb).1
    clear hI
    go_simp
    try simp [upd]
    try first | exact Grows.refl _ | exact trivial | exact ⟨Grows.refl _, trivial⟩
   refine val_cons ?_ (fun v12 => ?_)
   ·intro L vs w1 hvs hat hb hI hF; try simp [factsI, Region.binds, Is] at hF
    have hc := (Grows.cells hb).1
    clear hI
    go_simp
    try simp [upd]
    try first | exact Grows.refl _ | exact trivial | exact ⟨Grows.refl _, trivial⟩
   refine val_cons ?_ (fun v13 => ?_)
   ·intro L vs w1 hvs hat hb hI hF; try simp [factsI, Region.binds, Is] at hF
    have hc := (Grows.cells hb).1
    clear hI
    go_simp
    try simp [upd]
    try first | exact Grows.refl _ | exact trivial | exact ⟨Grows.refl _, trivial⟩
   refine val_nil ?_
   intro vs w1 hvs hb hI hF
   simp [Is, Nat.forall_lt_succ_right] at hF
   have e0 := hF.1.1.1.1.1.1.1.1.1.1.1.1.1
   have e1 := hF.1.1.1.1.1.1.1.1.1.1.1.1.2
   have e2 := hF.1.1.1.1.1.1.1.1.1.1.1.2
   have e3 := hF.1.1.1.1.1.1.1.1.1.1.2
   have e4 := hF.1.1.1.1.1.1.1.1.1.2
   have e5 := hF.1.1.1.1.1.1.1.1.2
   have e6 := hF.1.1.1.1.1.1.1.2
   have e7 := hF.1.1.1.1.1.1.2
   have e8 := hF.1.1.1.1.1.2
   have e9 := hF.1.1.1.1.2
   have e10 := hF.1.1.1.2
   have e11 := hF.1.1.2
   have e12 := hF.1.2
   have e13 := hF.2
   clear hF
   simp only [Act.put, List.setIfInBounds_toArray, List.set_cons_succ, List.set_cons_zero, e0, e1, e2, e3, e4, e5, e7, e8, e10, e11, e12, e13]
   clear e0 e1 e2 e3 e4 e5 e7 e8 e10 e11 e12 e13
   have hbw := bel_trans HW2.out (show Below wN2.heap.size wN2 w1 from hb)
   have HF9 := Lib.hid hbw
   clear e6 e9 hbw hb hI hvs
   go_wp2_with fail
   go_ret
   exact ⟨rfl, HF9.out⟩
end Go.Proofs.YtkfimbonmnoglaaGreatDoor
end
