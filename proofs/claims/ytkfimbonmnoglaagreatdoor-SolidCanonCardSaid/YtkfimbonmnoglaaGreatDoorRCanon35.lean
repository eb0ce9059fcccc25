import Derived.Test.YtkfimbonmnoglaaGreatDoorRCanon34
import Derived.Deep.Cut
/-
  Given contracts of functions of the program, and laws for them, one behind the other.
-/
set_option linter.unusedVariables false
set_option linter.unusedSimpArgs false
set_option linter.unusedSectionVars false
section
namespace Go.Proofs.YtkfimbonmnoglaaGreatDoor
open Go.RowKit Go.Rel Go.Draw Go.Solid
set_option maxRecDepth 100000
attribute [local go_sem] Oper.semAt_some
def QcI (l : List Int) (m : List Sol) (a b c d : Bool) (v1 v3 v7 v9 : Value) (W : World) : Prop := (a = true → Sl W 1 v1 (ints1 l)) ∧ (b = true → Sl W 1 v3 (ints1 l)) ∧ (c = true → SlS W v7 m) ∧ (d = true → SlS W v9 m)
theorem QcI.bel {l : List Int} {m : List Sol} {a b c d : Bool} {v1 v3 v7 v9 : Value} {W W' : World} (h : QcI l m a b c d v1 v3 v7 v9 W) (hb : Below W.heap.size W W') : QcI l m a b c d v1 v3 v7 v9 W' :=
 ⟨fun e => (h.1 e).mono hb, fun e => (h.2.1 e).mono hb, fun e => (h.2.2.1 e).mono hb, fun e => (h.2.2.2 e).mono hb⟩
theorem QcI.start (l : List Int) (m : List Sol) (v1 v3 v7 v9 : Value) (W : World) : QcI l m false false false false v1 v3 v7 v9 W := ⟨fun e => (by cases e), fun e => (by cases e), fun e => (by cases e), fun e => (by cases e)⟩
theorem QcI.p1 {l : List Int} {m : List Sol} {v3 v7 v9 u : Value} {W : World} (h : Sl W 1 u (ints1 l)) : QcI l m true false false false u v3 v7 v9 W := ⟨fun _ => h, fun e => (by cases e), fun e => (by cases e), fun e => (by cases e)⟩
theorem QcI.p3 {l : List Int} {m : List Sol} {a b c d : Bool} {v1 v3 v7 v9 u : Value} {W : World} (h : QcI l m a b c d v1 v3 v7 v9 W) (hu : Sl W 1 u (ints1 l)) : QcI l m a true c d v1 u v7 v9 W := ⟨h.1, fun _ => hu, h.2.2⟩
theorem QcI.p7 {l : List Int} {m : List Sol} {a b c d : Bool} {v1 v3 v7 v9 u : Value} {W : World} (h : QcI l m a b c d v1 v3 v7 v9 W) (hu : SlS W u m) : QcI l m a b true d v1 v3 u v9 W := ⟨h.1, h.2.1, fun _ => hu, h.2.2.2⟩
theorem QcI.p9 {l : List Int} {m : List Sol} {a b c d : Bool} {v1 v3 v7 v9 u : Value} {W : World} (h : QcI l m a b c d v1 v3 v7 v9 W) (hu : SlS W u m) : QcI l m a b c true v1 v3 v7 u W := ⟨h.1, h.2.1, h.2.2.1, fun _ => hu⟩
theorem QcI.g1 {l : List Int} {m : List Sol} {a b c d : Bool} {v1 v3 v7 v9 : Value} {W : World} (h : QcI l m a b c d v1 v3 v7 v9 W) (e : a = true) : Sl W 1 v1 (ints1 l) := h.1 e
theorem QcI.g3 {l : List Int} {m : List Sol} {a b c d : Bool} {v1 v3 v7 v9 : Value} {W : World} (h : QcI l m a b c d v1 v3 v7 v9 W) (e : b = true) : Sl W 1 v3 (ints1 l) := h.2.1 e
theorem QcI.g7 {l : List Int} {m : List Sol} {a b c d : Bool} {v1 v3 v7 v9 : Value} {W : World} (h : QcI l m a b c d v1 v3 v7 v9 W) (e : c = true) : SlS W v7 m := h.2.2.1 e
theorem QcI.g9 {l : List Int} {m : List Sol} {a b c d : Bool} {v1 v3 v7 v9 : Value} {W : World} (h : QcI l m a b c d v1 v3 v7 v9 W) (e : d = true) : SlS W v9 m := h.2.2.2 e
theorem ownI_sl {W : World} {base : Nat} {u : Value} {l : List Int} (h : OwnI W base u l) : Sl W 1 u (ints1 l) := h.sl
theorem same_canon (a b : Sol) : (countS a == countS b && canonS a == canonS b) = (canonS a == canonS b) := by
 cases h : (canonS a == canonS b) with
 | false => simp
 | true =>
  have : countS a = countS b := by rw [← canon_count a, ← canon_count b, eq_of_beq h]
  simp [this]
theorem images_len (s : Sol) : (imagesS s).length ≤ 1000000 := by
 have h := imgF_len s 24
 rw [imgF_end] at h
 omega
theorem sym_len (s : Sol) : (natL (symL s)).length ≤ 1000000 := by
 rw [natL_length, ← symP_end]
 have := symP_len s 24
 omega
attribute [local irreducible] QcI natL symL imagesS canonS countS
set_option maxHeartbeats 16000000 in
theorem SolidCanon_walk (a b : Sol) (w : World) (hT : Tab w) (hC : ∀ W, Below w.heap.size w W → Calls Tryz.prog 25 #[] W fun e w' => e = .returned (.bool true) ∧ Below W.heap.size W w') :
  Calls Tryz.prog 4 #[solV a, solV b] w fun e w' => e = .returned (.bool true) ∧ Below w.heap.size w w' := by
 have HT := Lib.hid (fun W (hb : Below w.heap.size w W) => hT.grow hb)
 have HC := Lib.hid hC
 clear hT hC
 have HK1 := Lib.hid fun W (hb : Below w.heap.size w W) => canon_spec a W (HT.out W hb)
 have HK2 := Lib.hid fun W (hb : Below w.heap.size w W) => refCanon_spec a W
 have HS1_ := Lib.hid fun W (hb : Below w.heap.size w W) => same_spec a b W (HT.out W hb)
 have HS2_ := Lib.hid fun W (hb : Below w.heap.size w W) => refSame_spec a b W
 have HY1 := Lib.hid fun W (hb : Below w.heap.size w W) => symmetries_spec a W (HT.out W hb)
 have HY2 := Lib.hid fun W (hb : Below w.heap.size w W) => refSymmetries_spec a W
 have HI1 := Lib.hid fun W (hb : Below w.heap.size w W) => images_spec a W (HT.out W hb)
 have HI2_ := Lib.hid fun W (hb : Below w.heap.size w W) => refImages_spec a W
 rw [same_canon] at HS1_
 obtain ⟨q, hq⟩ : ∃ q, q = (canonS a == canonS b) := ⟨_, rfl⟩
 rw [← hq] at HS1_ HS2_
 obtain ⟨x, hx⟩ : ∃ x, x = canonS a := ⟨_, rfl⟩
 rw [← hx] at HK1 HK2
 have HM5 := Lib.hid (images_len a)
 have HL5 := Lib.hid (sym_len a)
 obtain ⟨m, hm⟩ : ∃ m, m = imagesS a := ⟨_, rfl⟩
 rw [← hm] at HI1 HI2_ HM5
 obtain ⟨l, hl⟩ : ∃ l, l = natL (symL a) := ⟨_, rfl⟩
 rw [← hl] at HY1 HY2 HL5
 clear hq hx hm hl
 go_enter Tryz.func4, Tryz.ntmps4
 go_wp2_with fail
 obtain ⟨wS0, hwS⟩ : ∃ x, x = (w.alloc (.cells #[.int .u64 (pl a 0), .int .u64 (pl a 1), .int .u64 (pl a 2), .int .u64 (pl a 3), .int .u64 (pl a 4), .int .u64 (pl a 5), .int .u64 (pl a 6), .int .u64 (pl a 7)] 26)).alloc (.cells #[.int .u64 (pl b 0), .int .u64 (pl b 1), .int .u64 (pl b 2), .int .u64 (pl b 3), .int .u64 (pl b 4), .int .u64 (pl b 5), .int .u64 (pl b 6), .int .u64 (pl b 7)] 26) := ⟨_, rfl⟩
 have HS0 : Hid (Blk wS0 (w.heap.size) #[.int .u64 (pl a 0), .int .u64 (pl a 1), .int .u64 (pl a 2), .int .u64 (pl a 3), .int .u64 (pl a 4), .int .u64 (pl a 5), .int .u64 (pl a 6), .int .u64 (pl a 7)] 26 ∧ Blk wS0 (w.heap.size + 1) #[.int .u64 (pl b 0), .int .u64 (pl b 1), .int .u64 (pl b 2), .int .u64 (pl b 3), .int .u64 (pl b 4), .int .u64 (pl b 5), .int .u64 (pl b 6), .int .u64 (pl b 7)] 26 ∧ Below w.heap.size w wS0) := Lib.hid (by rw [hwS]; exact ⟨(by repeat (first | with_reducible assumption | (refine Blk.at _ _ ?_; (simp; done)) | with_reducible refine Blk.alloc ?_ _ | with_reducible refine Blk.drew ?_ | with_reducible refine Blk.rowS ?_ _ | with_reducible refine Blk.rowO ?_ _ (by simp))), Blk.at _ _ (by simp), (by repeat (first | with_reducible exact bel_refl _ | with_reducible assumption | with_reducible refine bel_drewN ?_ _ | with_reducible refine bel_drew ?_ | with_reducible refine bel_alloc ?_ _ | with_reducible refine bel_row ?_ ?_ _ | with_reducible refine bel_set ?_ ?_ _ | refine bel_trans ?_ (by with_reducible assumption) | (simp; done) | (simp; omega)))⟩)
 have HO0 : Hid True := Lib.hid trivial
 rw [← hwS]
 clear hwS
 refine wp_region_val Grows (fun _ _ _ => True) [Is (solV a), Is (solV x), Is (solV a), Is (solV x), Is (.bool true), Is (.bool true), Is (solV a), Is (solV b), Is (.bool q), Is (solV a), Is (solV b), Is (.bool q), Is (.bool true), Is (.bool true), Is (.bool true)] (by kernel_rfl) (by kernel_rfl) rfl Grows.refl (fun _ _ _ => Grows.trans) (stable_mem ⟨fun _ _ _ h _ => h, fun _ _ _ h _ => h, fun _ _ _ h _ => h, fun _ _ _ h _ => h, fun _ _ _ h _ => h, fun _ _ _ h _ => h, fun _ _ _ h _ => h, fun _ _ _ h _ => h, fun _ _ _ h _ => h, fun _ _ _ h _ => h, fun _ _ _ h _ => h, fun _ _ _ h _ => h, fun _ _ _ h _ => h, fun _ _ _ h _ => h, fun _ _ _ h _ => h, trivial⟩) wS0 (Below.drew (Below.refl _ _)) trivial ?_
 refine val_cons ?_ (fun v0 => ?_)
 ·intro L vs w1 hvs hat hb hI hF; try simp [factsI, Region.binds, Is] at hF
  have D := (HS0.out.1).grow (show Below _ _ _ from hb); have cD := D.cell; have lD := D.lt; clear D
  go_simp
  first | exact Grows.refl _ | exact ⟨Grows.refl _, trivial⟩
 refine val_cons ?_ (fun v1 => ?_)
 ·intro L vs w1 hvs hat hb hI hF; try simp [factsI, Region.binds, Is] at hF
  have hb0 := hb
  go_simp
  refine (HK1.out _ (bel_trans HS0.out.2.2 (show Below _ _ _ from hb0))).mono ?_
  rintro e w2 ⟨rfl, hb2⟩
  first | exact ⟨rfl, hb2⟩ | exact ⟨_, rfl, hb2, trivial, rfl⟩ | exact ⟨_, rfl, hb2, rfl⟩
 refine val_cons ?_ (fun v2 => ?_)
 ·intro L vs w1 hvs hat hb hI hF; try simp [factsI, Region.binds, Is] at hF
  have D := (HS0.out.1).grow (show Below _ _ _ from hb); have cD := D.cell; have lD := D.lt; clear D
  go_simp
  first | exact Grows.refl _ | exact ⟨Grows.refl _, trivial⟩
 refine val_cons ?_ (fun v3 => ?_)
 ·intro L vs w1 hvs hat hb hI hF; try simp [factsI, Region.binds, Is] at hF
  have hb0 := hb
  go_simp
  refine (HK2.out _ (bel_trans HS0.out.2.2 (show Below _ _ _ from hb0))).mono ?_
  rintro e w2 ⟨rfl, hb2⟩
  first | exact ⟨rfl, hb2⟩ | exact ⟨_, rfl, hb2, trivial, rfl⟩ | exact ⟨_, rfl, hb2, rfl⟩
 refine val_cons ?_ (fun v4 => ?_)
 ·intro L vs w1 hvs hat hb hI hF; try simp [factsI, Region.binds, Is] at hF
  have hc := (Grows.cells hb).1
  clear hI
  go_simp
  try simp [upd]
  try first | exact Grows.refl _ | exact trivial | exact ⟨Grows.refl _, trivial⟩
 refine val_cons ?_ (fun v5 => ?_)
 ·intro L vs w1 hvs hat hb hI hF; try simp [factsI, Region.binds, Is] at hF
  have hc := (Grows.cells hb).1
  clear hI
  go_simp
  try simp [upd]
  try first | exact Grows.refl _ | exact trivial | exact ⟨Grows.refl _, trivial⟩
 refine val_cons ?_ (fun v6 => ?_)
 ·intro L vs w1 hvs hat hb hI hF; try simp [factsI, Region.binds, Is] at hF
  have D := (HS0.out.1).grow (show Below _ _ _ from hb); have cD := D.cell; have lD := D.lt; clear D
  go_simp
  first | exact Grows.refl _ | exact ⟨Grows.refl _, trivial⟩
 refine val_cons ?_ (fun v7 => ?_)
 ·intro L vs w1 hvs hat hb hI hF; try simp [factsI, Region.binds, Is] at hF
  have D := (HS0.out.2.1).grow (show Below _ _ _ from hb); have cD := D.cell; have lD := D.lt; clear D
  go_simp
  first | exact Grows.refl _ | exact ⟨Grows.refl _, trivial⟩
 refine val_cons ?_ (fun v8 => ?_)
 ·intro L vs w1 hvs hat hb hI hF; try simp [factsI, Region.binds, Is] at hF
  have hb0 := hb
  go_simp
  refine (HS1_.out _ (bel_trans HS0.out.2.2 (show Below _ _ _ from hb0))).mono ?_
  rintro e w2 ⟨rfl, hb2⟩
  first | exact ⟨rfl, hb2⟩ | exact ⟨_, rfl, hb2, trivial, rfl⟩ | exact ⟨_, rfl, hb2, rfl⟩
 refine val_cons ?_ (fun v9 => ?_)
 ·intro L vs w1 hvs hat hb hI hF; try simp [factsI, Region.binds, Is] at hF
  have D := (HS0.out.1).grow (show Below _ _ _ from hb); have cD := D.cell; have lD := D.lt; clear D
  go_simp
  first | exact Grows.refl _ | exact ⟨Grows.refl _, trivial⟩
 refine val_cons ?_ (fun v10 => ?_)
 ·intro L vs w1 hvs hat hb hI hF; try simp [factsI, Region.binds, Is] at hF
  have D := (HS0.out.2.1).grow (show Below _ _ _ from hb); have cD := D.cell; have lD := D.lt; clear D
  go_simp
  first | exact Grows.refl _ | exact ⟨Grows.refl _, trivial⟩
 refine val_cons ?_ (fun v11 => ?_)
 ·intro L vs w1 hvs hat hb hI hF; try simp [factsI, Region.binds, Is] at hF
  have hb0 := hb
  go_simp
  refine (HS2_.out _ (bel_trans HS0.out.2.2 (show Below _ _ _ from hb0))).mono ?_
  rintro e w2 ⟨rfl, hb2⟩
  first | exact ⟨rfl, hb2⟩ | exact ⟨_, rfl, hb2, trivial, rfl⟩ | exact ⟨_, rfl, hb2, rfl⟩
 refine val_cons ?_ (fun v12 => ?_)
 ·intro L vs w1 hvs hat hb hI hF; try simp [factsI, Region.binds, Is] at hF
  have hc := (Grows.cells hb).1
  clear hI
  go_simp
  try simp [upd]
  try first | exact Grows.refl _ | exact trivial | exact ⟨Grows.refl _, trivial⟩
 refine val_cons ?_ (fun v13 => ?_)
 ·intro L vs w1 hvs hat hb hI hF; try simp [factsI, Region.binds, Is] at hF
  have hc := (Grows.cells hb).1
  clear hI
  go_simp
  try simp [upd]
  try first | exact Grows.refl _ | exact trivial | exact ⟨Grows.refl _, trivial⟩
 refine val_cons ?_ (fun v14 => ?_)
 ·intro L vs w1 hvs hat hb hI hF; try simp [factsI, Region.binds, Is] at hF
  have hc := (Grows.cells hb).1
  clear hI
  go_simp
  try simp [upd]
  try first | exact Grows.refl _ | exact trivial | exact ⟨Grows.refl _, trivial⟩
 refine val_nil ?_
 intro vs w1 hvs hb hI hF
 simp [Is, Nat.forall_lt_succ_right] at hF
 have e0 := hF.1.1.1.1.1.1.1.1.1.1.1.1.1.1
 have e1 := hF.1.1.1.1.1.1.1.1.1.1.1.1.1.2
 have e2 := hF.1.1.1.1.1.1.1.1.1.1.1.1.2
 have e3 := hF.1.1.1.1.1.1.1.1.1.1.1.2
 have e4 := hF.1.1.1.1.1.1.1.1.1.1.2
 have e5 := hF.1.1.1.1.1.1.1.1.1.2
 have e6 := hF.1.1.1.1.1.1.1.1.2
 have e7 := hF.1.1.1.1.1.1.1.2
 have e8 := hF.1.1.1.1.1.1.2
 have e9 := hF.1.1.1.1.1.2
 have e10 := hF.1.1.1.1.2
 have e11 := hF.1.1.1.2
 have e12 := hF.1.1.2
 have e13 := hF.1.2
 have e14 := hF.2
 clear hF
 simp only [Act.put, List.setIfInBounds_toArray, List.set_cons_succ, List.set_cons_zero, e0, e1, e2, e3, e4, e5, e6, e7, e8, e9, e10, e11, e12, e13]
 clear e0 e1 e2 e3 e4 e5 e6 e7 e8 e9 e10 e11 e12 e13
 have hbg : Below wS0.heap.size wS0 w1 := hb
 have HS3 : Hid (Blk w1 (w.heap.size) #[.int .u64 (pl a 0), .int .u64 (pl a 1), .int .u64 (pl a 2), .int .u64 (pl a 3), .int .u64 (pl a 4), .int .u64 (pl a 5), .int .u64 (pl a 6), .int .u64 (pl a 7)] 26 ∧ Blk w1 (w.heap.size + 1) #[.int .u64 (pl b 0), .int .u64 (pl b 1), .int .u64 (pl b 2), .int .u64 (pl b 3), .int .u64 (pl b 4), .int .u64 (pl b 5), .int .u64 (pl b 6), .int .u64 (pl b 7)] 26 ∧ Below w.heap.size w w1) := Lib.hid ⟨HS0.out.1.grow hbg, HS0.out.2.1.grow hbg, bel_trans HS0.out.2.2 hbg⟩
 clear hI hb hvs hbg HS0
 go_upto_region 2 with fail
 obtain ⟨wG, hwG⟩ : ∃ x, x = w1 := ⟨_, rfl⟩
 rw [← hwG] at HS3 ⊢
 clear hwG
 refine wp_region_val (Below wG.heap.size) (fun L vs W => QcI l m (L 1) (L 3) (L 7) (L 9) (vs 1) (vs 3) (vs 7) (vs 9) W ∧ Below wG.heap.size wG W) [Is (solV a), AnyV, Is (solV a), AnyV, Is (.bool true), Is (.bool true), Is (solV a), AnyV, Is (solV a), AnyV, Is (.bool true), Is (.bool true), Is (.bool true)] (by kernel_rfl) (by kernel_rfl) rfl (Below.refl wG.heap.size) (fun _ _ _ => Below.trans) (stable_mem ⟨fun _ _ _ h _ => h, fun _ _ _ h _ => h, fun _ _ _ h _ => h, fun _ _ _ h _ => h, fun _ _ _ h _ => h, fun _ _ _ h _ => h, fun _ _ _ h _ => h, fun _ _ _ h _ => h, fun _ _ _ h _ => h, fun _ _ _ h _ => h, fun _ _ _ h _ => h, fun _ _ _ h _ => h, fun _ _ _ h _ => h, trivial⟩) wG (Below.drew (Below.refl _ _)) (And.intro (QcI.start _ _ _ _ _ _ _) (Below.drew (Below.refl _ _))) ?_
 refine val_cons ?_ (fun v0 => ?_)
 ·intro L vs w1 hvs hat hb hI hF; try simp [factsI, Region.binds, Is] at hF
  have hbg := hI.2
  have HI9 := Lib.hid hI; clear hI
  have D0 := (HS3.out.1).grow (show Below _ _ _ from hbg); have cD := D0.cell; have lD := D0.lt; clear D0
  go_simp
  first | exact ⟨Below.refl _ _, HI9.out.1⟩ | exact ⟨Below.refl _ _, HI9.out.1, trivial⟩ | exact ⟨Below.refl _ _, HI9.out⟩ | exact ⟨Below.refl _ _, HI9.out, trivial⟩
 refine val_cons ?_ (fun v1 => ?_)
 ·intro L vs w1 hvs hat hb hI hF; try simp [factsI, Region.binds, Is] at hF
  have h1 : L 1 = false := hat.self
  have h3 := hat.later 60 3 (by kernel_rfl)
  have h7 := hat.later 60 7 (by kernel_rfl)
  have h9 := hat.later 60 9 (by kernel_rfl)
  have hbg := hI.2
  have HI9 := Lib.hid hI; clear hI
  go_simp
  refine (HY1.out _ (bel_trans HS3.out.2.2 hbg)).mono ?_
  rintro e w2 ⟨u9, rfl, hO9, hb2⟩
  have hle := HI9.out.2.size
  have h99 : QcI l m true (L 3) (L 7) (L 9) u9 (vs 3) (vs 7) (vs 9) w2 := by rw [h3, h7, h9]; exact QcI.p1 (ownI_sl hO9)
  refine ⟨_, rfl, hb2.mono hle, ?_, trivial⟩
  simpa [upd, h3, h7, h9] using And.intro h99 (HI9.out.2.trans (hb2.mono hle))
 refine val_cons ?_ (fun v2 => ?_)
 ·intro L vs w1 hvs hat hb hI hF; try simp [factsI, Region.binds, Is] at hF
  have hbg := hI.2
  have HI9 := Lib.hid hI; clear hI
  have D0 := (HS3.out.1).grow (show Below _ _ _ from hbg); have cD := D0.cell; have lD := D0.lt; clear D0
  go_simp
  first | exact ⟨Below.refl _ _, HI9.out.1⟩ | exact ⟨Below.refl _ _, HI9.out.1, trivial⟩ | exact ⟨Below.refl _ _, HI9.out⟩ | exact ⟨Below.refl _ _, HI9.out, trivial⟩
 refine val_cons ?_ (fun v3 => ?_)
 ·intro L vs w1 hvs hat hb hI hF; try simp [factsI, Region.binds, Is] at hF
  have h1 := hat.ahead 60 1 (by kernel_rfl)
  have h3 : L 3 = false := hat.self
  have h7 := hat.later 60 7 (by kernel_rfl)
  have h9 := hat.later 60 9 (by kernel_rfl)
  have hbg := hI.2
  have HI9 := Lib.hid hI; clear hI
  go_simp
  refine (HY2.out _ (bel_trans HS3.out.2.2 hbg)).mono ?_
  rintro e w2 ⟨u9, rfl, hO9, hb2⟩
  have hle := HI9.out.2.size
  have h99 := QcI.p3 (HI9.out.1.bel hb2) (ownI_sl hO9)
  refine ⟨_, rfl, hb2.mono hle, ?_, trivial⟩
  simpa [upd, h1, h7, h9] using And.intro h99 (HI9.out.2.trans (hb2.mono hle))
 refine val_cons ?_ (fun v4 => ?_)
 ·intro L vs w1 hvs hat hb hI hF; try simp [factsI, Region.binds, Is] at hF
  have hi := hat.ahead 60 1 (by kernel_rfl)
  have hj := hat.ahead 60 3 (by kernel_rfl)
  have hvi : vs 1 = v1 := hvs 1 (by omega)
  have hvj : vs 3 = v3 := hvs 3 (by omega)
  have oi := hI.1.g1 hi
  have oj := hI.1.g3 hj
  rw [hvi] at oi
  rw [hvj] at oj
  have hcc : Calls Tryz.prog 30 #[v1, v3] w1 fun e w' => e = .returned (.bool true) ∧ Below w1.heap.size w1 w' := by simpa using same_ints oi oj HL5.out
  have HCC := Lib.hid hcc
  clear hcc oi oj
  rw [hi, hj] at hI
  have hbg := hI.2
  have HI9 := Lib.hid hI; clear hI
  go_simp
  refine HCC.out.mono ?_
  rintro e w2 ⟨rfl, hb2⟩
  have hle := HI9.out.2.size
  have hII := And.intro (HI9.out.1.bel hb2) (HI9.out.2.trans (hb2.mono hle))
  first | exact ⟨rfl, hb2.mono hle, hII⟩ | exact ⟨_, rfl, hb2.mono hle, hII, rfl⟩
 refine val_cons ?_ (fun v5 => ?_)
 ·intro L vs w1 hvs hat hb hI hF; try simp [factsI, Region.binds, Is] at hF
  have hbg := hI.2
  have HI9 := Lib.hid hI; clear hI
  go_simp
  first | exact ⟨Below.refl _ _, HI9.out.1⟩ | exact ⟨Below.refl _ _, HI9.out.1, trivial⟩ | exact ⟨Below.refl _ _, HI9.out⟩ | exact ⟨Below.refl _ _, HI9.out, trivial⟩ | exact ⟨Below.refl _ _, HI9.out.1, HI9.out.2, trivial⟩
 refine val_cons ?_ (fun v6 => ?_)
 ·intro L vs w1 hvs hat hb hI hF; try simp [factsI, Region.binds, Is] at hF
  have hbg := hI.2
  have HI9 := Lib.hid hI; clear hI
  have D0 := (HS3.out.1).grow (show Below _ _ _ from hbg); have cD := D0.cell; have lD := D0.lt; clear D0
  go_simp
  first | exact ⟨Below.refl _ _, HI9.out.1⟩ | exact ⟨Below.refl _ _, HI9.out.1, trivial⟩ | exact ⟨Below.refl _ _, HI9.out⟩ | exact ⟨Below.refl _ _, HI9.out, trivial⟩
 refine val_cons ?_ (fun v7 => ?_)
 ·intro L vs w1 hvs hat hb hI hF; try simp [factsI, Region.binds, Is] at hF
  have h1 := hat.ahead 60 1 (by kernel_rfl)
  have h3 := hat.ahead 60 3 (by kernel_rfl)
  have h7 : L 7 = false := hat.self
  have h9 := hat.later 60 9 (by kernel_rfl)
  have hbg := hI.2
  have HI9 := Lib.hid hI; clear hI
  go_simp
  refine (HI1.out _ (bel_trans HS3.out.2.2 hbg)).mono ?_
  rintro e w2 ⟨u9, rfl, hO9, hb2⟩
  have hle := HI9.out.2.size
  have h99 := QcI.p7 (HI9.out.1.bel hb2) (hO9)
  refine ⟨_, rfl, hb2.mono hle, ?_, trivial⟩
  simpa [upd, h1, h3, h9] using And.intro h99 (HI9.out.2.trans (hb2.mono hle))
 refine val_cons ?_ (fun v8 => ?_)
 ·intro L vs w1 hvs hat hb hI hF; try simp [factsI, Region.binds, Is] at hF
  have hbg := hI.2
  have HI9 := Lib.hid hI; clear hI
  have D0 := (HS3.out.1).grow (show Below _ _ _ from hbg); have cD := D0.cell; have lD := D0.lt; clear D0
  go_simp
  first | exact ⟨Below.refl _ _, HI9.out.1⟩ | exact ⟨Below.refl _ _, HI9.out.1, trivial⟩ | exact ⟨Below.refl _ _, HI9.out⟩ | exact ⟨Below.refl _ _, HI9.out, trivial⟩
 refine val_cons ?_ (fun v9 => ?_)
 ·intro L vs w1 hvs hat hb hI hF; try simp [factsI, Region.binds, Is] at hF
  have h1 := hat.ahead 60 1 (by kernel_rfl)
  have h3 := hat.ahead 60 3 (by kernel_rfl)
  have h7 := hat.ahead 60 7 (by kernel_rfl)
  have h9 : L 9 = false := hat.self
  have hbg := hI.2
  have HI9 := Lib.hid hI; clear hI
  go_simp
  refine (HI2_.out _ (bel_trans HS3.out.2.2 hbg)).mono ?_
  rintro e w2 ⟨u9, rfl, hO9, hb2⟩
  have hle := HI9.out.2.size
  have h99 := QcI.p9 (HI9.out.1.bel hb2) (hO9.sl)
  refine ⟨_, rfl, hb2.mono hle, ?_, trivial⟩
  simpa [upd, h1, h3, h7] using And.intro h99 (HI9.out.2.trans (hb2.mono hle))
 refine val_cons ?_ (fun v10 => ?_)
 ·intro L vs w1 hvs hat hb hI hF; try simp [factsI, Region.binds, Is] at hF
  have hi := hat.ahead 60 7 (by kernel_rfl)
  have hj := hat.ahead 60 9 (by kernel_rfl)
  have hvi : vs 7 = v7 := hvs 7 (by omega)
  have hvj : vs 9 = v9 := hvs 9 (by omega)
  have oi := hI.1.g7 hi
  have oj := hI.1.g9 hj
  rw [hvi] at oi
  rw [hvj] at oj
  have hcc : Calls Tryz.prog 33 #[v7, v9] w1 fun e w' => e = .returned (.bool true) ∧ Below w1.heap.size w1 w' := by
   obtain ⟨pi, ci, ei, oi2⟩ := oi.opened
   obtain ⟨pj, cj, ej, oj2⟩ := oj.opened
   rw [ei, ej]
   simpa using same_sols (ca := ci) (cb := cj) oi2 oj2 HM5.out
  have HCC := Lib.hid hcc
  clear hcc oi oj
  rw [hi, hj] at hI
  have hbg := hI.2
  have HI9 := Lib.hid hI; clear hI
  go_simp
  refine HCC.out.mono ?_
  rintro e w2 ⟨rfl, hb2⟩
  have hle := HI9.out.2.size
  have hII := And.intro (HI9.out.1.bel hb2) (HI9.out.2.trans (hb2.mono hle))
  first | exact ⟨rfl, hb2.mono hle, hII⟩ | exact ⟨_, rfl, hb2.mono hle, hII, rfl⟩
 refine val_cons ?_ (fun v11 => ?_)
 ·intro L vs w1 hvs hat hb hI hF; try simp [factsI, Region.binds, Is] at hF
  have hbg := hI.2
  have HI9 := Lib.hid hI; clear hI
  go_simp
  first | exact ⟨Below.refl _ _, HI9.out.1⟩ | exact ⟨Below.refl _ _, HI9.out.1, trivial⟩ | exact ⟨Below.refl _ _, HI9.out⟩ | exact ⟨Below.refl _ _, HI9.out, trivial⟩ | exact ⟨Below.refl _ _, HI9.out.1, HI9.out.2, trivial⟩
 refine val_cons ?_ (fun v12 => ?_)
 ·intro L vs w1 hvs hat hb hI hF; try simp [factsI, Region.binds, Is] at hF
  have hbg := hI.2
  have HI9 := Lib.hid hI; clear hI
  go_simp
  first | exact ⟨Below.refl _ _, HI9.out.1⟩ | exact ⟨Below.refl _ _, HI9.out.1, trivial⟩ | exact ⟨Below.refl _ _, HI9.out⟩ | exact ⟨Below.refl _ _, HI9.out, trivial⟩ | exact ⟨Below.refl _ _, HI9.out.1, HI9.out.2, trivial⟩
 refine val_nil ?_
 intro vs w1 hvs hb hI hF
 simp [Is, Nat.forall_lt_succ_right] at hF
 have e0 := hF.1.1.1.1.1.1.1.1.1.1.1.1
 have e1 := hF.1.1.1.1.1.1.1.1.1.1.1.2
 have e2 := hF.1.1.1.1.1.1.1.1.1.1.2
 have e3 := hF.1.1.1.1.1.1.1.1.1.2
 have e4 := hF.1.1.1.1.1.1.1.1.2
 have e5 := hF.1.1.1.1.1.1.1.2
 have e6 := hF.1.1.1.1.1.1.2
 have e7 := hF.1.1.1.1.1.2
 have e8 := hF.1.1.1.1.2
 have e9 := hF.1.1.1.2
 have e10 := hF.1.1.2
 have e11 := hF.1.2
 have e12 := hF.2
 clear hF
 simp only [Act.put, List.setIfInBounds_toArray, List.set_cons_succ, List.set_cons_zero, e0, e1, e2, e3, e4, e5, e6, e7, e8, e9, e10, e11]
 clear e0 e1 e2 e3 e4 e5 e6 e7 e8 e9 e10 e11
 have hbg := hI.2
 have HS4 := Lib.hid (bel_trans HS3.out.2.2 hbg)
 clear hI hb hvs hbg HS3
 obtain ⟨wF, hwF⟩ : ∃ x, x = w1 := ⟨_, rfl⟩
 rw [← hwF] at HS4 ⊢
 clear hwF
 go_wp2_with fail
 refine (HC.out _ HS4.out).mono ?_
 rintro e1 w90 ⟨rfl, hb⟩
 have HE90 := Lib.hid (bel_trans HS4.out hb)
 clear hb
 go_wp2_with fail
 go_ret
 exact ⟨rfl, HE90.out⟩
end Go.Proofs.YtkfimbonmnoglaaGreatDoor
end
