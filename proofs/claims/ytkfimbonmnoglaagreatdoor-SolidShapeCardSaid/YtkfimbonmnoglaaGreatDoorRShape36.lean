import Derived.Test.YtkfimbonmnoglaaGreatDoorRShape35
import Derived.Deep.Cut
/-
  Given contracts of functions of the program, and laws for them, one behind the other.
-/
set_option linter.unusedVariables false
set_option linter.unusedSimpArgs false
set_option linter.unusedSectionVars false
section
namespace Go.Proofs.YtkfimbonmnoglaaGreatDoor
open Go.RowKit Go.Rel Go.Draw Go.Solid
set_option maxRecDepth 100000
attribute [local go_sem] Oper.semAt_some
def QsI (l m : List Sol) (a b c d : Bool) (v1 v3 v7 v9 : Value) (W : World) : Prop := (a = true → SlS W v1 l) ∧ (b = true → SlS W v3 l) ∧ (c = true → SlS W v7 m) ∧ (d = true → SlS W v9 m)
theorem QsI.bel {l m : List Sol} {a b c d : Bool} {v1 v3 v7 v9 : Value} {W W' : World} (h : QsI l m a b c d v1 v3 v7 v9 W) (hb : Below W.heap.size W W') : QsI l m a b c d v1 v3 v7 v9 W' :=
 ⟨fun e => (h.1 e).mono hb, fun e => (h.2.1 e).mono hb, fun e => (h.2.2.1 e).mono hb, fun e => (h.2.2.2 e).mono hb⟩
theorem QsI.start (l m : List Sol) (v1 v3 v7 v9 : Value) (W : World) : QsI l m false false false false v1 v3 v7 v9 W := ⟨fun e => (by cases e), fun e => (by cases e), fun e => (by cases e), fun e => (by cases e)⟩
theorem QsI.p1 {l m : List Sol} {v3 v7 v9 u : Value} {W : World} (h : SlS W u l) : QsI l m true false false false u v3 v7 v9 W := ⟨fun _ => h, fun e => (by cases e), fun e => (by cases e), fun e => (by cases e)⟩
theorem QsI.p3 {l m : List Sol} {a b c d : Bool} {v1 v3 v7 v9 u : Value} {W : World} (h : QsI l m a b c d v1 v3 v7 v9 W) (hu : SlS W u l) : QsI l m a true c d v1 u v7 v9 W := ⟨h.1, fun _ => hu, h.2.2⟩
theorem QsI.p7 {l m : List Sol} {a b c d : Bool} {v1 v3 v7 v9 u : Value} {W : World} (h : QsI l m a b c d v1 v3 v7 v9 W) (hu : SlS W u m) : QsI l m a b true d v1 v3 u v9 W := ⟨h.1, h.2.1, fun _ => hu, h.2.2.2⟩
theorem QsI.p9 {l m : List Sol} {a b c d : Bool} {v1 v3 v7 v9 u : Value} {W : World} (h : QsI l m a b c d v1 v3 v7 v9 W) (hu : SlS W u m) : QsI l m a b c true v1 v3 v7 u W := ⟨h.1, h.2.1, h.2.2.1, fun _ => hu⟩
theorem QsI.g1 {l m : List Sol} {a b c d : Bool} {v1 v3 v7 v9 : Value} {W : World} (h : QsI l m a b c d v1 v3 v7 v9 W) (e : a = true) : SlS W v1 l := h.1 e
theorem QsI.g3 {l m : List Sol} {a b c d : Bool} {v1 v3 v7 v9 : Value} {W : World} (h : QsI l m a b c d v1 v3 v7 v9 W) (e : b = true) : SlS W v3 l := h.2.1 e
theorem QsI.g7 {l m : List Sol} {a b c d : Bool} {v1 v3 v7 v9 : Value} {W : World} (h : QsI l m a b c d v1 v3 v7 v9 W) (e : c = true) : SlS W v7 m := h.2.2.1 e
theorem QsI.g9 {l m : List Sol} {a b c d : Bool} {v1 v3 v7 v9 : Value} {W : World} (h : QsI l m a b c d v1 v3 v7 v9 W) (e : d = true) : SlS W v9 m := h.2.2.2 e
theorem parts_lenS (s : Sol) : (partsS s).length ≤ 1000000 := Nat.le_trans (classes_len (stepsL false) s) (by decide)
theorem cavs_lenS (s : Sol) : (cavsS s).length ≤ 1000000 := Nat.le_trans (cavs_len s) (by decide)
set_option maxHeartbeats 4000000 in
theorem small_spec (s : Sol) (w : World) : Calls Tryz.prog 36 #[solV s] w fun e w' => e = .returned (.bool (decide (countS s ≤ 80))) ∧ Below w.heap.size w w' := by
 have HC := Lib.hid fun W => refCount_spec s W
 obtain ⟨n, hn⟩ : ∃ n, n = countS s := ⟨_, rfl⟩
 rw [← hn] at HC ⊢
 clear hn
 go_enter Tryz.func36, Tryz.ntmps36
 go_wp2_with fail
 refine (HC.out _).mono ?_
 rintro e w1 ⟨rfl, hb⟩
 have hb2 := Lib.hid (bel_trans ((by repeat (first | with_reducible exact bel_refl _ | with_reducible assumption | with_reducible refine bel_drewN ?_ _ | with_reducible refine bel_drew ?_ | with_reducible refine bel_alloc ?_ _ | with_reducible refine bel_row ?_ ?_ _ | with_reducible refine bel_set ?_ ?_ _ | refine bel_trans ?_ (by with_reducible assumption) | (simp; done) | (simp; omega))) : Below w.heap.size w (w.alloc (.cells #[.int .u64 (pl s 0), .int .u64 (pl s 1), .int .u64 (pl s 2), .int .u64 (pl s 3), .int .u64 (pl s 4), .int .u64 (pl s 5), .int .u64 (pl s 6), .int .u64 (pl s 7)] 26))) hb)
 clear hb
 by_cases h80 : n ≤ 80
 ·have h1 : (n : Int) ≤ 80 := by omega
  go_wp2_with fail
  go_ret
  exact ⟨ret_bool (by simp [h80]), hb2.out⟩
 ·have h1 : ¬ (n : Int) ≤ 80 := by omega
  go_wp2_with fail
  go_ret
  exact ⟨ret_bool (by simp; omega), hb2.out⟩
attribute [local irreducible] QsI classesS cavsS eulerS tunS skinS countS
set_option maxHeartbeats 16000000 in
theorem SolidShape_walk (s : Sol) (w : World) (hT : Tab w) (hC : ∀ W, Below w.heap.size w W → Calls Tryz.prog 25 #[] W fun e w' => e = .returned (.bool true) ∧ Below W.heap.size W w') :
  Calls Tryz.prog 5 #[solV s] w fun e w' => e = .returned (.bool true) ∧ Below w.heap.size w w' := by
 have HT := Lib.hid (fun W (hb : Below w.heap.size w W) => hT.grow hb)
 have HC := Lib.hid hC
 clear hT hC
 have HSm := Lib.hid fun W (hb : Below w.heap.size w W) => small_spec s W
 have HP1 := Lib.hid fun W (hb : Below w.heap.size w W) => parts_spec s W (HT.out W hb)
 have HP2 := Lib.hid fun W (hb : Below w.heap.size w W) => refParts_spec s W
 have HV1 := Lib.hid fun W (hb : Below w.heap.size w W) => cavs_spec s W (HT.out W hb)
 have HV2 := Lib.hid fun W (hb : Below w.heap.size w W) => refCavities_spec s W
 have HE1 := Lib.hid fun W (hb : Below w.heap.size w W) => euler_spec s (HT.out W hb)
 have HE2 := Lib.hid fun W (hb : Below w.heap.size w W) => refEuler_spec s W
 have HU1 := Lib.hid fun W (hb : Below w.heap.size w W) => tunnels_spec s W (HT.out W hb)
 have HU2 := Lib.hid fun W (hb : Below w.heap.size w W) => refTunnels_spec s W (HT.out W hb)
 have HS1_ := Lib.hid fun W (hb : Below w.heap.size w W) => skin_spec s (HT.out W hb)
 have HS2_ := Lib.hid fun W (hb : Below w.heap.size w W) => refSkin_spec s W
 have HM5 := Lib.hid (cavs_lenS s)
 have HL5 := Lib.hid (parts_lenS s)
 obtain ⟨l, hl⟩ : ∃ l, l = partsS s := ⟨_, rfl⟩
 rw [← hl] at HP1 HP2 HL5
 obtain ⟨m, hm⟩ : ∃ m, m = cavsS s := ⟨_, rfl⟩
 rw [← hm] at HV1 HV2 HM5
 obtain ⟨eu, heu⟩ : ∃ x, x = eulerS s := ⟨_, rfl⟩
 rw [← heu] at HE1 HE2
 obtain ⟨tu, htu⟩ : ∃ x, x = tunS s := ⟨_, rfl⟩
 rw [← htu] at HU1 HU2
 obtain ⟨sk, hsk⟩ : ∃ x, x = skinS s := ⟨_, rfl⟩
 rw [← hsk] at HS1_ HS2_
 obtain ⟨q, hq⟩ : ∃ q, q = decide (countS s ≤ 80) := ⟨_, rfl⟩
 rw [← hq] at HSm
 clear hl hm heu htu hsk hq
 go_enter Tryz.func5, Tryz.ntmps5
 go_wp2_with fail
 obtain ⟨wS0, hwS⟩ : ∃ x, x = w.alloc (.cells #[.int .u64 (pl s 0), .int .u64 (pl s 1), .int .u64 (pl s 2), .int .u64 (pl s 3), .int .u64 (pl s 4), .int .u64 (pl s 5), .int .u64 (pl s 6), .int .u64 (pl s 7)] 26) := ⟨_, rfl⟩
 have HS0 : Hid (Blk wS0 (w.heap.size) #[.int .u64 (pl s 0), .int .u64 (pl s 1), .int .u64 (pl s 2), .int .u64 (pl s 3), .int .u64 (pl s 4), .int .u64 (pl s 5), .int .u64 (pl s 6), .int .u64 (pl s 7)] 26 ∧ Below w.heap.size w wS0) := Lib.hid (by rw [hwS]; exact ⟨Blk.at _ _ (by simp), (by repeat (first | with_reducible exact bel_refl _ | with_reducible assumption | with_reducible refine bel_drewN ?_ _ | with_reducible refine bel_drew ?_ | with_reducible refine bel_alloc ?_ _ | with_reducible refine bel_row ?_ ?_ _ | with_reducible refine bel_set ?_ ?_ _ | refine bel_trans ?_ (by with_reducible assumption) | (simp; done) | (simp; omega)))⟩)
 have HO0 : Hid True := Lib.hid trivial
 rw [← hwS]
 clear hwS
 refine (HSm.out _ HS0.out.2).mono ?_
 rintro e1 w1 ⟨rfl, hb⟩
 have HS1 : Hid (Blk w1 (w.heap.size) #[.int .u64 (pl s 0), .int .u64 (pl s 1), .int .u64 (pl s 2), .int .u64 (pl s 3), .int .u64 (pl s 4), .int .u64 (pl s 5), .int .u64 (pl s 6), .int .u64 (pl s 7)] 26 ∧ Below w.heap.size w w1) := Lib.hid ⟨HS0.out.1.grow hb, bel_trans HS0.out.2 hb⟩
 clear hb HS0
 cases q with
 | false =>
  go_wp2_with fail
  refine (HC.out _ HS1.out.2).mono ?_
  rintro e1 w90 ⟨rfl, hb⟩
  have HE90 := Lib.hid (bel_trans HS1.out.2 hb)
  clear hb
  go_wp2_with fail
  go_ret
  exact ⟨rfl, HE90.out⟩
 | true =>
  go_upto_region 3 with fail
  obtain ⟨wG, hwG⟩ : ∃ x, x = w1 := ⟨_, rfl⟩
  rw [← hwG] at HS1 ⊢
  clear hwG
  refine wp_region_val (Below wG.heap.size) (fun L vs W => QsI l m (L 1) (L 3) (L 7) (L 9) (vs 1) (vs 3) (vs 7) (vs 9) W ∧ Below wG.heap.size wG W) [Is (solV s), AnyV, Is (solV s), AnyV, Is (.bool true), Is (.bool true), Is (solV s), AnyV, Is (solV s), AnyV, Is (.bool true), Is (.bool true), Is (.bool true)] (by kernel_rfl) (by kernel_rfl) rfl (Below.refl wG.heap.size) (fun _ _ _ => Below.trans) (stable_mem ⟨fun _ _ _ h _ => h, fun _ _ _ h _ => h, fun _ _ _ h _ => h, fun _ _ _ h _ => h, fun _ _ _ h _ => h, fun _ _ _ h _ => h, fun _ _ _ h _ => h, fun _ _ _ h _ => h, fun _ _ _ h _ => h, fun _ _ _ h _ => h, fun _ _ _ h _ => h, fun _ _ _ h _ => h, fun _ _ _ h _ => h, trivial⟩) wG (Below.drew (Below.refl _ _)) (And.intro (QsI.start _ _ _ _ _ _ _) (Below.drew (Below.refl _ _))) ?_
  refine val_cons ?_ (fun v0 => ?_)
  ·intro L vs w1 hvs hat hb hI hF; try simp [factsI, Region.binds, Is] at hF
   have hbg := hI.2
   have HI9 := Lib.hid hI; clear hI
   have D0 := (HS1.out.1).grow (show Below _ _ _ from hbg); have cD := D0.cell; have lD := D0.lt; clear D0
   go_simp
   first | exact ⟨Below.refl _ _, HI9.out.1⟩ | exact ⟨Below.refl _ _, HI9.out.1, trivial⟩ | exact ⟨Below.refl _ _, HI9.out⟩ | exact ⟨Below.refl _ _, HI9.out, trivial⟩ | exact ⟨Below.refl _ _, HI9.out.1, HI9.out.2, trivial⟩
  refine val_cons ?_ (fun v1 => ?_)
  ·intro L vs w1 hvs hat hb hI hF; try simp [factsI, Region.binds, Is] at hF
   have h1 : L 1 = false := hat.self
   have h3 := hat.later 60 3 (by kernel_rfl)
   have h7 := hat.later 60 7 (by kernel_rfl)
   have h9 := hat.later 60 9 (by kernel_rfl)
   have hbg := hI.2
   have HI9 := Lib.hid hI; clear hI
   go_simp
   refine (HP1.out _ (bel_trans HS1.out.2 hbg)).mono ?_
   rintro e w2 ⟨⟨u9, rfl, hO9⟩, hb2⟩
   have hle := HI9.out.2.size
   have h99 : QsI l m true (L 3) (L 7) (L 9) u9 (vs 3) (vs 7) (vs 9) w2 := by rw [h3, h7, h9]; exact QsI.p1 (OwnSo.sl hO9)
   refine ⟨_, rfl, hb2.mono hle, ?_, trivial⟩
   simpa [upd, h3, h7, h9] using And.intro h99 (HI9.out.2.trans (hb2.mono hle))
  refine val_cons ?_ (fun v2 => ?_)
  ·intro L vs w1 hvs hat hb hI hF; try simp [factsI, Region.binds, Is] at hF
   have hbg := hI.2
   have HI9 := Lib.hid hI; clear hI
   have D0 := (HS1.out.1).grow (show Below _ _ _ from hbg); have cD := D0.cell; have lD := D0.lt; clear D0
   go_simp
   first | exact ⟨Below.refl _ _, HI9.out.1⟩ | exact ⟨Below.refl _ _, HI9.out.1, trivial⟩ | exact ⟨Below.refl _ _, HI9.out⟩ | exact ⟨Below.refl _ _, HI9.out, trivial⟩ | exact ⟨Below.refl _ _, HI9.out.1, HI9.out.2, trivial⟩
  refine val_cons ?_ (fun v3 => ?_)
  ·intro L vs w1 hvs hat hb hI hF; try simp [factsI, Region.binds, Is] at hF
   have h1 := hat.ahead 60 1 (by kernel_rfl)
   have h3 : L 3 = false := hat.self
   have h7 := hat.later 60 7 (by kernel_rfl)
   have h9 := hat.later 60 9 (by kernel_rfl)
   have hbg := hI.2
   have HI9 := Lib.hid hI; clear hI
   go_simp
   refine (HP2.out _ (bel_trans HS1.out.2 hbg)).mono ?_
   rintro e w2 ⟨u9, rfl, hO9, hb2⟩
   have hle := HI9.out.2.size
   have h99 := QsI.p3 (HI9.out.1.bel hb2) (OwnSo.sl hO9)
   refine ⟨_, rfl, hb2.mono hle, ?_, trivial⟩
   simpa [upd, h1, h7, h9] using And.intro h99 (HI9.out.2.trans (hb2.mono hle))
  refine val_cons ?_ (fun v4 => ?_)
  ·intro L vs w1 hvs hat hb hI hF; try simp [factsI, Region.binds, Is] at hF
   have hi := hat.ahead 60 1 (by kernel_rfl)
   have hj := hat.ahead 60 3 (by kernel_rfl)
   have hvi : vs 1 = v1 := hvs 1 (by omega)
   have hvj : vs 3 = v3 := hvs 3 (by omega)
   have oi := hI.1.g1 hi
   have oj := hI.1.g3 hj
   rw [hvi] at oi
   rw [hvj] at oj
   have hcc : Calls Tryz.prog 33 #[v1, v3] w1 fun e w' => e = .returned (.bool true) ∧ Below w1.heap.size w1 w' := by
    obtain ⟨pi, ci, ei, oi2⟩ := oi.opened
    obtain ⟨pj, cj, ej, oj2⟩ := oj.opened
    rw [ei, ej]
    simpa using same_sols (ca := ci) (cb := cj) oi2 oj2 HL5.out
   have HCC := Lib.hid hcc
   clear hcc oi oj
   rw [hi, hj] at hI
   have hbg := hI.2
   have HI9 := Lib.hid hI; clear hI
   go_simp
   refine HCC.out.mono ?_
   rintro e w2 ⟨rfl, hb2⟩
   have hle := HI9.out.2.size
   have hII := And.intro (HI9.out.1.bel hb2) (HI9.out.2.trans (hb2.mono hle))
   first | exact ⟨rfl, hb2.mono hle, hII⟩ | exact ⟨_, rfl, hb2.mono hle, hII, rfl⟩
  refine val_cons ?_ (fun v5 => ?_)
  ·intro L vs w1 hvs hat hb hI hF; try simp [factsI, Region.binds, Is] at hF
   have hbg := hI.2
   have HI9 := Lib.hid hI; clear hI
   go_simp
   first | exact ⟨Below.refl _ _, HI9.out.1⟩ | exact ⟨Below.refl _ _, HI9.out.1, trivial⟩ | exact ⟨Below.refl _ _, HI9.out⟩ | exact ⟨Below.refl _ _, HI9.out, trivial⟩ | exact ⟨Below.refl _ _, HI9.out.1, HI9.out.2, trivial⟩
  refine val_cons ?_ (fun v6 => ?_)
  ·intro L vs w1 hvs hat hb hI hF; try simp [factsI, Region.binds, Is] at hF
   have hbg := hI.2
   have HI9 := Lib.hid hI; clear hI
   have D0 := (HS1.out.1).grow (show Below _ _ _ from hbg); have cD := D0.cell; have lD := D0.lt; clear D0
   go_simp
   first | exact ⟨Below.refl _ _, HI9.out.1⟩ | exact ⟨Below.refl _ _, HI9.out.1, trivial⟩ | exact ⟨Below.refl _ _, HI9.out⟩ | exact ⟨Below.refl _ _, HI9.out, trivial⟩ | exact ⟨Below.refl _ _, HI9.out.1, HI9.out.2, trivial⟩
  refine val_cons ?_ (fun v7 => ?_)
  ·intro L vs w1 hvs hat hb hI hF; try simp [factsI, Region.binds, Is] at hF
   have h1 := hat.ahead 60 1 (by kernel_rfl)
   have h3 := hat.ahead 60 3 (by kernel_rfl)
   have h7 : L 7 = false := hat.self
   have h9 := hat.later 60 9 (by kernel_rfl)
   have hbg := hI.2
   have HI9 := Lib.hid hI; clear hI
   go_simp
   refine (HV1.out _ (bel_trans HS1.out.2 hbg)).mono ?_
   rintro e w2 ⟨⟨u9, rfl, hO9⟩, hb2⟩
   have hle := HI9.out.2.size
   have h99 := QsI.p7 (HI9.out.1.bel hb2) (OwnSo.sl hO9)
   refine ⟨_, rfl, hb2.mono hle, ?_, trivial⟩
   simpa [upd, h1, h3, h9] using And.intro h99 (HI9.out.2.trans (hb2.mono hle))
  refine val_cons ?_ (fun v8 => ?_)
  ·intro L vs w1 hvs hat hb hI hF; try simp [factsI, Region.binds, Is] at hF
   have hbg := hI.2
   have HI9 := Lib.hid hI; clear hI
   have D0 := (HS1.out.1).grow (show Below _ _ _ from hbg); have cD := D0.cell; have lD := D0.lt; clear D0
   go_simp
   first | exact ⟨Below.refl _ _, HI9.out.1⟩ | exact ⟨Below.refl _ _, HI9.out.1, trivial⟩ | exact ⟨Below.refl _ _, HI9.out⟩ | exact ⟨Below.refl _ _, HI9.out, trivial⟩ | exact ⟨Below.refl _ _, HI9.out.1, HI9.out.2, trivial⟩
  refine val_cons ?_ (fun v9 => ?_)
  ·intro L vs w1 hvs hat hb hI hF; try simp [factsI, Region.binds, Is] at hF
   have h1 := hat.ahead 60 1 (by kernel_rfl)
   have h3 := hat.ahead 60 3 (by kernel_rfl)
   have h7 := hat.ahead 60 7 (by kernel_rfl)
   have h9 : L 9 = false := hat.self
   have hbg := hI.2
   have HI9 := Lib.hid hI; clear hI
   go_simp
   refine (HV2.out _ (bel_trans HS1.out.2 hbg)).mono ?_
   rintro e w2 ⟨u9, rfl, hO9, hb2⟩
   have hle := HI9.out.2.size
   have h99 := QsI.p9 (HI9.out.1.bel hb2) (OwnSo.sl hO9)
   refine ⟨_, rfl, hb2.mono hle, ?_, trivial⟩
   simpa [upd, h1, h3, h7] using And.intro h99 (HI9.out.2.trans (hb2.mono hle))
  refine val_cons ?_ (fun v10 => ?_)
  ·intro L vs w1 hvs hat hb hI hF; try simp [factsI, Region.binds, Is] at hF
   have hi := hat.ahead 60 7 (by kernel_rfl)
   have hj := hat.ahead 60 9 (by kernel_rfl)
   have hvi : vs 7 = v7 := hvs 7 (by omega)
   have hvj : vs 9 = v9 := hvs 9 (by omega)
   have oi := hI.1.g7 hi
   have oj := hI.1.g9 hj
   rw [hvi] at oi
   rw [hvj] at oj
   have hcc : Calls Tryz.prog 33 #[v7, v9] w1 fun e w' => e = .returned (.bool true) ∧ Below w1.heap.size w1 w' := by
    obtain ⟨pi, ci, ei, oi2⟩ := oi.opened
    obtain ⟨pj, cj, ej, oj2⟩ := oj.opened
    rw [ei, ej]
    simpa using same_sols (ca := ci) (cb := cj) oi2 oj2 HM5.out
   have HCC := Lib.hid hcc
   clear hcc oi oj
   rw [hi, hj] at hI
   have hbg := hI.2
   have HI9 := Lib.hid hI; clear hI
   go_simp
   refine HCC.out.mono ?_
   rintro e w2 ⟨rfl, hb2⟩
   have hle := HI9.out.2.size
   have hII := And.intro (HI9.out.1.bel hb2) (HI9.out.2.trans (hb2.mono hle))
   first | exact ⟨rfl, hb2.mono hle, hII⟩ | exact ⟨_, rfl, hb2.mono hle, hII, rfl⟩
  refine val_cons ?_ (fun v11 => ?_)
  ·intro L vs w1 hvs hat hb hI hF; try simp [factsI, Region.binds, Is] at hF
   have hbg := hI.2
   have HI9 := Lib.hid hI; clear hI
   go_simp
   first | exact ⟨Below.refl _ _, HI9.out.1⟩ | exact ⟨Below.refl _ _, HI9.out.1, trivial⟩ | exact ⟨Below.refl _ _, HI9.out⟩ | exact ⟨Below.refl _ _, HI9.out, trivial⟩ | exact ⟨Below.refl _ _, HI9.out.1, HI9.out.2, trivial⟩
  refine val_cons ?_ (fun v12 => ?_)
  ·intro L vs w1 hvs hat hb hI hF; try simp [factsI, Region.binds, Is] at hF
   have hbg := hI.2
   have HI9 := Lib.hid hI; clear hI
   go_simp
   first | exact ⟨Below.refl _ _, HI9.out.1⟩ | exact ⟨Below.refl _ _, HI9.out.1, trivial⟩ | exact ⟨Below.refl _ _, HI9.out⟩ | exact ⟨Below.refl _ _, HI9.out, trivial⟩ | exact ⟨Below.refl _ _, HI9.out.1, HI9.out.2, trivial⟩
  refine val_nil ?_
  intro vs w1 hvs hb hI hF
  simp [Is, Nat.forall_lt_succ_right] at hF
  have e0 := hF.1.1.1.1.1.1.1.1.1.1.1.1
  have e1 := hF.1.1.1.1.1.1.1.1.1.1.1.2
  have e2 := hF.1.1.1.1.1.1.1.1.1.1.2
  have e3 := hF.1.1.1.1.1.1.1.1.1.2
  have e4 := hF.1.1.1.1.1.1.1.1.2
  have e5 := hF.1.1.1.1.1.1.1.2
  have e6 := hF.1.1.1.1.1.1.2
  have e7 := hF.1.1.1.1.1.2
  have e8 := hF.1.1.1.1.2
  have e9 := hF.1.1.1.2
  have e10 := hF.1.1.2
  have e11 := hF.1.2
  have e12 := hF.2
  clear hF
  simp only [Act.put, List.setIfInBounds_toArray, List.set_cons_succ, List.set_cons_zero, e0, e1, e2, e3, e4, e5, e6, e7, e8, e9, e10, e11]
  clear e0 e1 e2 e3 e4 e5 e6 e7 e8 e9 e10 e11
  have hbg := hI.2
  have HS4 : Hid (Blk w1 (w.heap.size) #[.int .u64 (pl s 0), .int .u64 (pl s 1), .int .u64 (pl s 2), .int .u64 (pl s 3), .int .u64 (pl s 4), .int .u64 (pl s 5), .int .u64 (pl s 6), .int .u64 (pl s 7)] 26 ∧ Below w.heap.size w w1) := Lib.hid ⟨HS1.out.1.grow hbg, bel_trans HS1.out.2 hbg⟩
  clear hI hb hvs hbg HS1
  go_upto_region 4 with fail
  obtain ⟨wF, hwF⟩ : ∃ x, x = w1 := ⟨_, rfl⟩
  rw [← hwF] at HS4 ⊢
  clear hwF
  refine wp_region_val Grows (fun _ _ _ => True) [Is (.bool true), Is (.bool true), Is (.bool true), Is (.bool true), Is (.bool true), Is (solV s), Is (.int .i64 eu), Is (solV s), Is (.int .i64 eu), Is (.bool true), Is (.bool true), Is (.bool true), Is (solV s), Is (.int .i64 tu), Is (solV s), Is (.int .i64 tu), Is (.bool true), Is (.bool true), Is (.bool true), Is (solV s), Is (.int .i64 (sk : Nat)), Is (solV s), Is (.int .i64 (sk : Nat)), Is (.bool true), Is (.bool true), Is (.bool true)] (by kernel_rfl) (by kernel_rfl) rfl Grows.refl (fun _ _ _ => Grows.trans) (stable_mem ⟨fun _ _ _ h _ => h, fun _ _ _ h _ => h, fun _ _ _ h _ => h, fun _ _ _ h _ => h, fun _ _ _ h _ => h, fun _ _ _ h _ => h, fun _ _ _ h _ => h, fun _ _ _ h _ => h, fun _ _ _ h _ => h, fun _ _ _ h _ => h, fun _ _ _ h _ => h, fun _ _ _ h _ => h, fun _ _ _ h _ => h, fun _ _ _ h _ => h, fun _ _ _ h _ => h, fun _ _ _ h _ => h, fun _ _ _ h _ => h, fun _ _ _ h _ => h, fun _ _ _ h _ => h, fun _ _ _ h _ => h, fun _ _ _ h _ => h, fun _ _ _ h _ => h, fun _ _ _ h _ => h, fun _ _ _ h _ => h, fun _ _ _ h _ => h, fun _ _ _ h _ => h, trivial⟩) wF (Below.drew (Below.refl _ _)) trivial ?_
  refine val_cons ?_ (fun v0 => ?_)
  ·intro L vs w1 hvs hat hb hI hF; try simp [factsI, Region.binds, Is] at hF
   have hb0 := hb
   go_simp
   refine (HC.out _ (bel_trans HS4.out.2 (show Below _ _ _ from hb0))).mono ?_
   rintro e w2 ⟨rfl, hb2⟩
   first | exact ⟨rfl, hb2⟩ | exact ⟨_, rfl, hb2, trivial, rfl⟩ | exact ⟨_, rfl, hb2, rfl⟩
  refine val_cons ?_ (fun v1 => ?_)
  ·intro L vs w1 hvs hat hb hI hF; try simp [factsI, Region.binds, Is] at hF
   have hc := (Grows.cells hb).1
   clear hI
   go_simp
   try simp [upd]
   try first | exact Grows.refl _ | exact trivial | exact ⟨Grows.refl _, trivial⟩
  refine val_cons ?_ (fun v2 => ?_)
  ·intro L vs w1 hvs hat hb hI hF; try simp [factsI, Region.binds, Is] at hF
   have hc := (Grows.cells hb).1
   clear hI
   go_simp
   try simp [upd]
   try first | exact Grows.refl _ | exact trivial | exact ⟨Grows.refl _, trivial⟩
  refine val_cons ?_ (fun v3 => ?_)
  ·intro L vs w1 hvs hat hb hI hF; try simp [factsI, Region.binds, Is] at hF
   have hc := (Grows.cells hb).1
   clear hI
   go_simp
   try simp [upd]
   try first | exact Grows.refl _ | exact trivial | exact ⟨Grows.refl _, trivial⟩
  refine val_cons ?_ (fun v4 => ?_)
  ·intro L vs w1 hvs hat hb hI hF; try simp [factsI, Region.binds, Is] at hF
   have hc := (Grows.cells hb).1
   clear hI
   go_simp
   try simp [upd]
   try first | exact Grows.refl _ | exact trivial | exact ⟨Grows.refl _, trivial⟩
  refine val_cons ?_ (fun v5 => ?_)
  ·intro L vs w1 hvs hat hb hI hF; try simp [factsI, Region.binds, Is] at hF
   have D := (HS4.out.1).grow (show Below _ _ _ from hb); have cD := D.cell; have lD := D.lt; clear D
   go_simp
   first | exact Grows.refl _ | exact ⟨Grows.refl _, trivial⟩
  refine val_cons ?_ (fun v6 => ?_)
  ·intro L vs w1 hvs hat hb hI hF; try simp [factsI, Region.binds, Is] at hF
   have hb0 := hb
   go_simp
   refine (HE1.out _ (bel_trans HS4.out.2 (show Below _ _ _ from hb0))).mono ?_
   rintro e w2 ⟨rfl, hb2⟩
   first | exact ⟨rfl, hb2⟩ | exact ⟨_, rfl, hb2, trivial, rfl⟩ | exact ⟨_, rfl, hb2, rfl⟩
  refine val_cons ?_ (fun v7 => ?_)
  ·intro L vs w1 hvs hat hb hI hF; try simp [factsI, Region.binds, Is] at hF
   have D := (HS4.out.1).grow (show Below _ _ _ from hb); have cD := D.cell; have lD := D.lt; clear D
   go_simp
   first | exact Grows.refl _ | exact ⟨Grows.refl _, trivial⟩
  refine val_cons ?_ (fun v8 => ?_)
  ·intro L vs w1 hvs hat hb hI hF; try simp [factsI, Region.binds, Is] at hF
   have hb0 := hb
   go_simp
   refine (HE2.out _ (bel_trans HS4.out.2 (show Below _ _ _ from hb0))).mono ?_
   rintro e w2 ⟨rfl, hb2⟩
   first | exact ⟨rfl, hb2⟩ | exact ⟨_, rfl, hb2, trivial, rfl⟩ | exact ⟨_, rfl, hb2, rfl⟩
  refine val_cons ?_ (fun v9 => ?_)
  ·intro L vs w1 hvs hat hb hI hF; try simp [factsI, Region.binds, Is] at hF
   have hc := (Grows.cells hb).1
   clear hI
   go_simp
   try simp [upd]
   try first | exact Grows.refl _ | exact trivial | exact ⟨Grows.refl _, trivial⟩
  refine val_cons ?_ (fun v10 => ?_)
  ·intro L vs w1 hvs hat hb hI hF; try simp [factsI, Region.binds, Is] at hF
   have hc := (Grows.cells hb).1
   clear hI
   go_simp
   try simp [upd]
   try first | exact Grows.refl _ | exact trivial | exact ⟨Grows.refl _, trivial⟩
  refine val_cons ?_ (fun v11 => ?_)
  ·intro L vs w1 hvs hat hb hI hF; try simp [factsI, Region.binds, Is] at hF
   have hc := (Grows.cells hb).1
   clear hI
   go_simp
   try simp [upd]
   try first | exact Grows.refl _ | exact trivial | exact ⟨Grows.refl _, trivial⟩
  refine val_cons ?_ (fun v12 => ?_)
  ·intro L vs w1 hvs hat hb hI hF; try simp [factsI, Region.binds, Is] at hF
   have D := (HS4.out.1).grow (show Below _ _ _ from hb); have cD := D.cell; have lD := D.lt; clear D
   go_simp
   first | exact Grows.refl _ | exact ⟨Grows.refl _, trivial⟩
  refine val_cons ?_ (fun v13 => ?_)
  ·intro L vs w1 hvs hat hb hI hF; try simp [factsI, Region.binds, Is] at hF
   have hb0 := hb
   go_simp
   refine (HU1.out _ (bel_trans HS4.out.2 (show Below _ _ _ from hb0))).mono ?_
   rintro e w2 ⟨rfl, hb2⟩
   first | exact ⟨rfl, hb2⟩ | exact ⟨_, rfl, hb2, trivial, rfl⟩ | exact ⟨_, rfl, hb2, rfl⟩
  refine val_cons ?_ (fun v14 => ?_)
  ·intro L vs w1 hvs hat hb hI hF; try simp [factsI, Region.binds, Is] at hF
   have D := (HS4.out.1).grow (show Below _ _ _ from hb); have cD := D.cell; have lD := D.lt; clear D
   go_simp
   first | exact Grows.refl _ | exact ⟨Grows.refl _, trivial⟩
  refine val_cons ?_ (fun v15 => ?_)
  ·intro L vs w1 hvs hat hb hI hF; try simp [factsI, Region.binds, Is] at hF
   have hb0 := hb
   go_simp
   refine (HU2.out _ (bel_trans HS4.out.2 (show Below _ _ _ from hb0))).mono ?_
   rintro e w2 ⟨rfl, hb2⟩
   first | exact ⟨rfl, hb2⟩ | exact ⟨_, rfl, hb2, trivial, rfl⟩ | exact ⟨_, rfl, hb2, rfl⟩
  refine val_cons ?_ (fun v16 => ?_)
  ·intro L vs w1 hvs hat hb hI hF; try simp [factsI, Region.binds, Is] at hF
   have hc := (Grows.cells hb).1
   clear hI
   go_simp
   try simp [upd]
   try first | exact Grows.refl _ | exact trivial | exact ⟨Grows.refl _, trivial⟩
  refine val_cons ?_ (fun v17 => ?_)
  ·intro L vs w1 hvs hat hb hI hF; try simp [factsI, Region.binds, Is] at hF
   have hc := (Grows.cells hb).1
   clear hI
   go_simp
   try simp [upd]
   try first | exact Grows.refl _ | exact trivial | exact ⟨Grows.refl _, trivial⟩
  refine val_cons ?_ (fun v18 => ?_)
  ·intro L vs w1 hvs hat hb hI hF; try simp [factsI, Region.binds, Is] at hF
   have hc := (Grows.cells hb).1
   clear hI
   go_simp
   try simp [upd]
   try first | exact Grows.refl _ | exact trivial | exact ⟨Grows.refl _, trivial⟩
  refine val_cons ?_ (fun v19 => ?_)
  ·intro L vs w1 hvs hat hb hI hF; try simp [factsI, Region.binds, Is] at hF
   have D := (HS4.out.1).grow (show Below _ _ _ from hb); have cD := D.cell; have lD := D.lt; clear D
   go_simp
   first | exact Grows.refl _ | exact ⟨Grows.refl _, trivial⟩
  refine val_cons ?_ (fun v20 => ?_)
  ·intro L vs w1 hvs hat hb hI hF; try simp [factsI, Region.binds, Is] at hF
   have hb0 := hb
   go_simp
   refine (HS1_.out _ (bel_trans HS4.out.2 (show Below _ _ _ from hb0))).mono ?_
   rintro e w2 ⟨rfl, hb2⟩
   first | exact ⟨rfl, hb2⟩ | exact ⟨_, rfl, hb2, trivial, rfl⟩ | exact ⟨_, rfl, hb2, rfl⟩
  refine val_cons ?_ (fun v21 => ?_)
  ·intro L vs w1 hvs hat hb hI hF; try simp [factsI, Region.binds, Is] at hF
   have D := (HS4.out.1).grow (show Below _ _ _ from hb); have cD := D.cell; have lD := D.lt; clear D
   go_simp
   first | exact Grows.refl _ | exact ⟨Grows.refl _, trivial⟩
  refine val_cons ?_ (fun v22 => ?_)
  ·intro L vs w1 hvs hat hb hI hF; try simp [factsI, Region.binds, Is] at hF
   have hb0 := hb
   go_simp
   refine (HS2_.out _ (bel_trans HS4.out.2 (show Below _ _ _ from hb0))).mono ?_
   rintro e w2 ⟨rfl, hb2⟩
   first | exact ⟨rfl, hb2⟩ | exact ⟨_, rfl, hb2, trivial, rfl⟩ | exact ⟨_, rfl, hb2, rfl⟩
  refine val_cons ?_ (fun v23 => ?_)
  ·intro L vs w1 hvs hat hb hI hF; try simp [factsI, Region.binds, Is] at hF
   have hc := (Grows.cells hb).1
   clear hI
   go_simp
   try simp [upd]
   try first | exact Grows.refl _ | exact trivial | exact ⟨Grows.refl _, trivial⟩
  refine val_cons ?_ (fun v24 => ?_)
  ·intro L vs w1 hvs hat hb hI hF; try simp [factsI, Region.binds, Is] at hF
   have hc := (Grows.cells hb).1
   clear hI
   go_simp
   try simp [upd]
   try first | exact Grows.refl _ | exact trivial | exact ⟨Grows.refl _, trivial⟩
  refine val_cons ?_ (fun v25 => ?_)
  ·intro L vs w1 hvs hat hb hI hF; try simp [factsI, Region.binds, Is] at hF
   have hc := (Grows.cells hb).1
   clear hI
   go_simp
   try simp [upd]
   try first | exact Grows.refl _ | exact trivial | exact ⟨Grows.refl _, trivial⟩
  refine val_nil ?_
  intro vs w1 hvs hb hI hF
  simp [Is, Nat.forall_lt_succ_right] at hF
  simp only [Act.put, List.setIfInBounds_toArray, List.set_cons_succ, List.set_cons_zero, hF]
  clear hF
  have HF9 := Lib.hid (bel_trans HS4.out.2 (show Below _ _ w1 from hb))
  clear  hb hI hvs
  go_wp2_with fail
  go_ret
  exact ⟨rfl, HF9.out⟩
end Go.Proofs.YtkfimbonmnoglaaGreatDoor
end
