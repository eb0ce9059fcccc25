import Derived.Test.YtkfimbonmnoglaaGreatDoorRSets30
import Derived.Test.YtkfimbonmnoglaaGreatDoorRSets31
import Derived.Deep.Cut
/-
  Given contracts of functions of the program, and laws for them, one behind the other.
-/
set_option linter.unusedVariables false
set_option linter.unusedSimpArgs false
set_option linter.unusedSectionVars false
section
namespace Go.Proofs.YtkfimbonmnoglaaGreatDoor
open Go.RowKit Go.Rel Go.Draw Go.Solid
set_option maxRecDepth 100000
attribute [local go_sem] Oper.semAt_some
def CeI (l : List Cl) (a b : Bool) (v u : Value) (W : World) : Prop := (a = true → ∃ p c, v = .slice p l.length c ∧ ClO 0 W p l) ∧ (b = true → ∃ p c, u = .slice p l.length c ∧ ClO 0 W p l)
theorem ClO.weak {N : Nat} {W : World} {a : Option Addr} {l : List Cl} (h : ClO N W a l) : ClO 0 W a l := by
 rcases h with h | ⟨b, off, h1, h2, _⟩
 ·exact .inl h
 ·exact .inr ⟨b, off, h1, h2, by omega⟩
theorem CeI.bel {l : List Cl} {a b : Bool} {v u : Value} {W W' : World} (h : CeI l a b v u W) (hb : Below W.heap.size W W') : CeI l a b v u W' :=
 ⟨fun e => by obtain ⟨p, c, h1, h2⟩ := h.1 e; exact ⟨p, c, h1, h2.mono hb⟩, fun e => by obtain ⟨p, c, h1, h2⟩ := h.2 e; exact ⟨p, c, h1, h2.mono hb⟩⟩
theorem CeI.start (l : List Cl) (v u : Value) (W : World) : CeI l false false v u W := ⟨fun e => (by cases e), fun e => (by cases e)⟩
theorem CeI.one {l : List Cl} {b : Bool} {u : Value} {W : World} {N : Nat} {p : Option Addr} {c : Nat} (hb : b = false) (h : ClO N W p l) : CeI l true b (.slice p l.length c) u W := ⟨fun _ => ⟨_, _, rfl, h.weak⟩, fun e => by rw [hb] at e; cases e⟩
theorem CeI.two {l : List Cl} {a b : Bool} {v u : Value} {W : World} {N : Nat} {p : Option Addr} {c : Nat} (h : CeI l a b v u W) (hu : ClO N W p l) : CeI l a true v (.slice p l.length c) W := ⟨h.1, fun _ => ⟨_, _, rfl, hu.weak⟩⟩
theorem CeI.fst {l : List Cl} {a b : Bool} {v u : Value} {W : World} (h : CeI l a b v u W) (ha : a = true) : ∃ p c, v = .slice p l.length c ∧ ClO 0 W p l := h.1 ha
theorem CeI.snd {l : List Cl} {a b : Bool} {v u : Value} {W : World} (h : CeI l a b v u W) (hb : b = true) : ∃ p c, u = .slice p l.length c ∧ ClO 0 W p l := h.2 hb
theorem subS_eq (a b : Sol) : (a &&& b == a) = subS a b := rfl
attribute [local irreducible] ofM CeI cellsS hasS countS subS
set_option maxHeartbeats 16000000 in
theorem SolidSets_walk (a b : Sol) (k : Cl) {v : Value} {l : List Cl} {w : World} (hl : Sl w 3 v (l.map clL)) (hT : Tab w) (hC : ∀ W, Below w.heap.size w W → Calls Tryz.prog 25 #[] W fun e w' => e = .returned (.bool true) ∧ Below W.heap.size W w') :
  Calls Tryz.prog 19 #[solV a, solV b, clV k, v] w fun e w' => e = .returned (.bool true) ∧ Below w.heap.size w w' := by
 have HT := Lib.hid (fun W (hb : Below w.heap.size w W) => hT.grow hb)
 have HC := Lib.hid hC
 clear hT hC
 obtain ⟨pa, ca, rfl, hca, hma, hoa⟩ := hl
 rw [List.length_map] at hca ⊢
 have hcl : ClO 0 w pa l := by
  rcases hoa with h | ⟨b, o, h1, h2⟩
  ·exact .inl (List.map_eq_nil_iff.1 h)
  ·exact .inr ⟨b, o, h1, h2, by omega⟩
 obtain ⟨x0, y0, z0⟩ := k
 have HF1 := Lib.hid fun W (hb : Below w.heap.size w W) => of_n (c := ca) (hcl.mono hb)
 have HF2 := Lib.hid fun W (hb : Below w.heap.size w W) => refOf_n (c := ca) (hcl.mono hb)
 have HH1 := Lib.hid fun W (hb : Below w.heap.size w W) => has_spec a (x0, y0, z0) W
 have HH2 := Lib.hid fun W (hb : Below w.heap.size w W) => refHas_spec a (x0, y0, z0) W
 have HL1 := Lib.hid fun W (hb : Below w.heap.size w W) => cellsList_spec a (HT.out W hb)
 have HL2 := Lib.hid fun W (hb : Below w.heap.size w W) => refCells_open a W
 have HN1 := Lib.hid fun W (hb : Below w.heap.size w W) => count_spec a W
 have HN2 := Lib.hid fun W (hb : Below w.heap.size w W) => refCount_spec a W
 have HXJ1 := Lib.hid fun W (hb : Below w.heap.size w W) => join_spec a b W
 have HXJ2 := Lib.hid fun W (hb : Below w.heap.size w W) => refJoin_spec a b W
 have HXM1 := Lib.hid fun W (hb : Below w.heap.size w W) => meet_spec a b W
 have HXM2 := Lib.hid fun W (hb : Below w.heap.size w W) => refMeet_spec a b W
 have HXS1 := Lib.hid fun W (hb : Below w.heap.size w W) => less_spec a b W
 have HXS2 := Lib.hid fun W (hb : Below w.heap.size w W) => refLess_spec a b W
 have HI1 := Lib.hid fun W (hb : Below w.heap.size w W) => sin_spec a b W
 have HI2_ := Lib.hid fun W (hb : Below w.heap.size w W) => refIn_spec a b W
 obtain ⟨p, e, hpe⟩ : ∃ p e, ofM l = (p, e) := ⟨_, _, rfl⟩
 rw [hpe] at HF1 HF2
 obtain ⟨q, hq⟩ : ∃ q, q = hasS a (x0, y0, z0) := ⟨_, rfl⟩
 rw [← hq] at HH1 HH2
 obtain ⟨n, hn⟩ : ∃ n, n = l.length := ⟨_, rfl⟩
 rw [← hn] at HF1 HF2 ⊢
 obtain ⟨m, hm⟩ : ∃ m, m = cellsS a := ⟨_, rfl⟩
 have hm512 : m.length ≤ 1000000 := by rw [hm]; have := cells512 a; omega
 rw [← hm] at HL1 HL2
 have HM5 := Lib.hid hm512
 obtain ⟨r, hr⟩ : ∃ r, r = countS a := ⟨_, rfl⟩
 rw [← hr] at HN1 HN2
 obtain ⟨J, hJ⟩ : ∃ J, J = a ||| b := ⟨_, rfl⟩
 rw [← hJ] at HXJ1 HXJ2
 obtain ⟨K, hK⟩ : ∃ K, K = a &&& b := ⟨_, rfl⟩
 rw [← hK] at HXM1 HXM2
 obtain ⟨D, hD⟩ : ∃ D, D = a &&& ~~~b := ⟨_, rfl⟩
 rw [← hD] at HXS1 HXS2
 obtain ⟨u, hu⟩ : ∃ u, u = subS a b := ⟨_, rfl⟩
 rw [← hu] at HI2_
 rw [subS_eq, ← hu] at HI1
 clear hpe hq hn hm hm512 hr hJ hK hD hu hca hma hoa hcl
 by_cases hbig : (1010 : Int) < n
 ·go_enter Tryz.func19, Tryz.ntmps19
  go_wp2_with fail
  obtain ⟨wS0, hwS⟩ : ∃ x, x = ((w.alloc (.cells #[.int .u64 (pl a 0), .int .u64 (pl a 1), .int .u64 (pl a 2), .int .u64 (pl a 3), .int .u64 (pl a 4), .int .u64 (pl a 5), .int .u64 (pl a 6), .int .u64 (pl a 7)] 26)).alloc (.cells #[.int .u64 (pl b 0), .int .u64 (pl b 1), .int .u64 (pl b 2), .int .u64 (pl b 3), .int .u64 (pl b 4), .int .u64 (pl b 5), .int .u64 (pl b 6), .int .u64 (pl b 7)] 26)).alloc (.cells #[.int .i64 x0, .int .i64 y0, .int .i64 z0] 60) := ⟨_, rfl⟩
  have HS0 : Hid (Blk wS0 (w.heap.size) #[.int .u64 (pl a 0), .int .u64 (pl a 1), .int .u64 (pl a 2), .int .u64 (pl a 3), .int .u64 (pl a 4), .int .u64 (pl a 5), .int .u64 (pl a 6), .int .u64 (pl a 7)] 26 ∧ Blk wS0 (w.heap.size + 1) #[.int .u64 (pl b 0), .int .u64 (pl b 1), .int .u64 (pl b 2), .int .u64 (pl b 3), .int .u64 (pl b 4), .int .u64 (pl b 5), .int .u64 (pl b 6), .int .u64 (pl b 7)] 26 ∧ Blk wS0 (w.heap.size + 1 + 1) #[.int .i64 x0, .int .i64 y0, .int .i64 z0] 60 ∧ Below w.heap.size w wS0) := Lib.hid (by rw [hwS]; exact ⟨(by repeat (first | with_reducible assumption | (refine Blk.at _ _ ?_; (simp; done)) | with_reducible refine Blk.alloc ?_ _ | with_reducible refine Blk.drew ?_ | with_reducible refine Blk.rowS ?_ _ | with_reducible refine Blk.rowO ?_ _ (by simp))), (by repeat (first | with_reducible assumption | (refine Blk.at _ _ ?_; (simp; done)) | with_reducible refine Blk.alloc ?_ _ | with_reducible refine Blk.drew ?_ | with_reducible refine Blk.rowS ?_ _ | with_reducible refine Blk.rowO ?_ _ (by simp))), Blk.at _ _ (by simp), (by repeat (first | with_reducible exact bel_refl _ | with_reducible assumption | with_reducible refine bel_drewN ?_ _ | with_reducible refine bel_drew ?_ | with_reducible refine bel_alloc ?_ _ | with_reducible refine bel_row ?_ ?_ _ | with_reducible refine bel_set ?_ ?_ _ | refine bel_trans ?_ (by with_reducible assumption) | (simp; done) | (simp; omega)))⟩)
  have HO0 : Hid True := Lib.hid trivial
  rw [← hwS]
  clear hwS
  refine (HC.out _ HS0.out.2.2.2).mono ?_
  rintro e1 w90 ⟨rfl, hb⟩
  have HE90 := Lib.hid (bel_trans HS0.out.2.2.2 hb)
  
  clear hb
  go_wp2_with fail
  go_ret
  exact ⟨rfl, HE90.out⟩
 ·go_enter Tryz.func19, Tryz.ntmps19
  go_wp2_with fail
  obtain ⟨wS0, hwS⟩ : ∃ x, x = ((w.alloc (.cells #[.int .u64 (pl a 0), .int .u64 (pl a 1), .int .u64 (pl a 2), .int .u64 (pl a 3), .int .u64 (pl a 4), .int .u64 (pl a 5), .int .u64 (pl a 6), .int .u64 (pl a 7)] 26)).alloc (.cells #[.int .u64 (pl b 0), .int .u64 (pl b 1), .int .u64 (pl b 2), .int .u64 (pl b 3), .int .u64 (pl b 4), .int .u64 (pl b 5), .int .u64 (pl b 6), .int .u64 (pl b 7)] 26)).alloc (.cells #[.int .i64 x0, .int .i64 y0, .int .i64 z0] 60) := ⟨_, rfl⟩
  have HS0 : Hid (Blk wS0 (w.heap.size) #[.int .u64 (pl a 0), .int .u64 (pl a 1), .int .u64 (pl a 2), .int .u64 (pl a 3), .int .u64 (pl a 4), .int .u64 (pl a 5), .int .u64 (pl a 6), .int .u64 (pl a 7)] 26 ∧ Blk wS0 (w.heap.size + 1) #[.int .u64 (pl b 0), .int .u64 (pl b 1), .int .u64 (pl b 2), .int .u64 (pl b 3), .int .u64 (pl b 4), .int .u64 (pl b 5), .int .u64 (pl b 6), .int .u64 (pl b 7)] 26 ∧ Blk wS0 (w.heap.size + 1 + 1) #[.int .i64 x0, .int .i64 y0, .int .i64 z0] 60 ∧ Below w.heap.size w wS0) := Lib.hid (by rw [hwS]; exact ⟨(by repeat (first | with_reducible assumption | (refine Blk.at _ _ ?_; (simp; done)) | with_reducible refine Blk.alloc ?_ _ | with_reducible refine Blk.drew ?_ | with_reducible refine Blk.rowS ?_ _ | with_reducible refine Blk.rowO ?_ _ (by simp))), (by repeat (first | with_reducible assumption | (refine Blk.at _ _ ?_; (simp; done)) | with_reducible refine Blk.alloc ?_ _ | with_reducible refine Blk.drew ?_ | with_reducible refine Blk.rowS ?_ _ | with_reducible refine Blk.rowO ?_ _ (by simp))), Blk.at _ _ (by simp), (by repeat (first | with_reducible exact bel_refl _ | with_reducible assumption | with_reducible refine bel_drewN ?_ _ | with_reducible refine bel_drew ?_ | with_reducible refine bel_alloc ?_ _ | with_reducible refine bel_row ?_ ?_ _ | with_reducible refine bel_set ?_ ?_ _ | refine bel_trans ?_ (by with_reducible assumption) | (simp; done) | (simp; omega)))⟩)
  have HO0 : Hid True := Lib.hid trivial
  rw [← hwS]
  clear hwS
  refine (HF1.out _ HS0.out.2.2.2).mono ?_
  rintro e1 wX1 ⟨rfl, hb⟩
  obtain ⟨wS1, hwS⟩ : ∃ x, x = wX1.alloc (.cells #[.int .u64 (pl p 0), .int .u64 (pl p 1), .int .u64 (pl p 2), .int .u64 (pl p 3), .int .u64 (pl p 4), .int .u64 (pl p 5), .int .u64 (pl p 6), .int .u64 (pl p 7)] 26) := ⟨_, rfl⟩
  obtain ⟨gN1, hgN⟩ : ∃ x, x = wX1.heap.size := ⟨_, rfl⟩
  have HS1 : Hid (Blk wS1 (w.heap.size) #[.int .u64 (pl a 0), .int .u64 (pl a 1), .int .u64 (pl a 2), .int .u64 (pl a 3), .int .u64 (pl a 4), .int .u64 (pl a 5), .int .u64 (pl a 6), .int .u64 (pl a 7)] 26 ∧ Blk wS1 (w.heap.size + 1) #[.int .u64 (pl b 0), .int .u64 (pl b 1), .int .u64 (pl b 2), .int .u64 (pl b 3), .int .u64 (pl b 4), .int .u64 (pl b 5), .int .u64 (pl b 6), .int .u64 (pl b 7)] 26 ∧ Blk wS1 (w.heap.size + 1 + 1) #[.int .i64 x0, .int .i64 y0, .int .i64 z0] 60 ∧ Blk wS1 (gN1) #[.int .u64 (pl p 0), .int .u64 (pl p 1), .int .u64 (pl p 2), .int .u64 (pl p 3), .int .u64 (pl p 4), .int .u64 (pl p 5), .int .u64 (pl p 6), .int .u64 (pl p 7)] 26 ∧ Below w.heap.size w wS1) := Lib.hid (by
   rw [hwS, hgN]
   exact ⟨(HS0.out.1.grow hb).alloc _, (HS0.out.2.1.grow hb).alloc _, (HS0.out.2.2.1.grow hb).alloc _, Blk.new _ _ _, bel_alloc (bel_trans HS0.out.2.2.2 hb) _⟩)
  have HO1 := Lib.hid (And.intro HO0.out (show w.heap.size + 1 + 1 < gN1 by rw [hgN]; exact (HS0.out.2.2.1.grow hb).lt))
  go_upto_region 4 with fail
  rw [← hwS, ← hgN]
  clear hwS hgN hb HS0
  go_wp2_with fail
  refine (HF2.out _ HS1.out.2.2.2.2).mono ?_
  rintro e1 wX2 ⟨rfl, hb⟩
  obtain ⟨wS2, hwS⟩ : ∃ x, x = wX2.alloc (.cells #[.int .u64 (pl p 0), .int .u64 (pl p 1), .int .u64 (pl p 2), .int .u64 (pl p 3), .int .u64 (pl p 4), .int .u64 (pl p 5), .int .u64 (pl p 6), .int .u64 (pl p 7)] 26) := ⟨_, rfl⟩
  obtain ⟨gN2, hgN⟩ : ∃ x, x = wX2.heap.size := ⟨_, rfl⟩
  have HS2 : Hid (Blk wS2 (w.heap.size) #[.int .u64 (pl a 0), .int .u64 (pl a 1), .int .u64 (pl a 2), .int .u64 (pl a 3), .int .u64 (pl a 4), .int .u64 (pl a 5), .int .u64 (pl a 6), .int .u64 (pl a 7)] 26 ∧ Blk wS2 (w.heap.size + 1) #[.int .u64 (pl b 0), .int .u64 (pl b 1), .int .u64 (pl b 2), .int .u64 (pl b 3), .int .u64 (pl b 4), .int .u64 (pl b 5), .int .u64 (pl b 6), .int .u64 (pl b 7)] 26 ∧ Blk wS2 (w.heap.size + 1 + 1) #[.int .i64 x0, .int .i64 y0, .int .i64 z0] 60 ∧ Blk wS2 (gN1) #[.int .u64 (pl p 0), .int .u64 (pl p 1), .int .u64 (pl p 2), .int .u64 (pl p 3), .int .u64 (pl p 4), .int .u64 (pl p 5), .int .u64 (pl p 6), .int .u64 (pl p 7)] 26 ∧ Blk wS2 (gN2) #[.int .u64 (pl p 0), .int .u64 (pl p 1), .int .u64 (pl p 2), .int .u64 (pl p 3), .int .u64 (pl p 4), .int .u64 (pl p 5), .int .u64 (pl p 6), .int .u64 (pl p 7)] 26 ∧ Below w.heap.size w wS2) := Lib.hid (by
   rw [hwS, hgN]
   exact ⟨(HS1.out.1.grow hb).alloc _, (HS1.out.2.1.grow hb).alloc _, (HS1.out.2.2.1.grow hb).alloc _, (HS1.out.2.2.2.1.grow hb).alloc _, Blk.new _ _ _, bel_alloc (bel_trans HS1.out.2.2.2.2 hb) _⟩)
  have HO2 := Lib.hid (And.intro HO1.out (show gN1 < gN2 by rw [hgN]; exact (HS1.out.2.2.2.1.grow hb).lt))
  go_upto_region 5 with fail
  rw [← hwS, ← hgN]
  clear hwS hgN hb HS1
  have hTriv := HO2
  refine wp_region_val (Below wS2.heap.size) (fun L vs W => CeI m (L 9) (L 11) (vs 9) (vs 11) W ∧ Below wS2.heap.size wS2 W) [Is (solV a), Is (clV (x0, y0, z0)), Is (.bool q), Is (solV a), Is (clV (x0, y0, z0)), Is (.bool q), Is (.bool true), Is (.bool true), Is (solV a), AnyV, Is (solV a), AnyV, Is (.bool true), Is (.bool true), Is (.bool true), Is (solV p), Is (solV p), Is (.bool true), Is (.bool true), Is (.bool true), Is (.int .i64 e), Is (.int .i64 e), Is (.bool true), Is (.bool true), Is (.bool true)] (by kernel_rfl) (by kernel_rfl) rfl (Below.refl wS2.heap.size) (fun _ _ _ => Below.trans) (stable_mem ⟨fun _ _ _ h _ => h, fun _ _ _ h _ => h, fun _ _ _ h _ => h, fun _ _ _ h _ => h, fun _ _ _ h _ => h, fun _ _ _ h _ => h, fun _ _ _ h _ => h, fun _ _ _ h _ => h, fun _ _ _ h _ => h, fun _ _ _ h _ => h, fun _ _ _ h _ => h, fun _ _ _ h _ => h, fun _ _ _ h _ => h, fun _ _ _ h _ => h, fun _ _ _ h _ => h, fun _ _ _ h _ => h, fun _ _ _ h _ => h, fun _ _ _ h _ => h, fun _ _ _ h _ => h, fun _ _ _ h _ => h, fun _ _ _ h _ => h, fun _ _ _ h _ => h, fun _ _ _ h _ => h, fun _ _ _ h _ => h, fun _ _ _ h _ => h, trivial⟩) wS2 (Below.drew (Below.refl _ _)) (And.intro (CeI.start _ _ _ _) (Below.drew (Below.refl _ _))) ?_
  refine val_cons ?_ (fun v0 => ?_)
  ·intro L vs w1 hvs hat hb hI hF; try simp [factsI, Region.binds, Is] at hF
   have hbg := hI.2
   have HI9 := Lib.hid hI; clear hI
   have D0 := (HS2.out.1).grow (show Below _ _ _ from hbg); have cD := D0.cell; have lD := D0.lt; clear D0
   go_simp
   refine ⟨Below.refl _ _, ?_⟩
   first | exact HI9.out.1 | exact ⟨HI9.out.1, trivial⟩ | exact HI9.out | exact ⟨HI9.out, trivial⟩ | exact ⟨HI9.out.1, HI9.out.2, trivial⟩
  refine val_cons ?_ (fun v1 => ?_)
  ·intro L vs w1 hvs hat hb hI hF; try simp [factsI, Region.binds, Is] at hF
   have hbg := hI.2
   have HI9 := Lib.hid hI; clear hI
   have D0 := (HS2.out.2.2.1).grow (show Below _ _ _ from hbg); have cD := D0.cell; have lD := D0.lt; clear D0
   go_simp
   refine ⟨Below.refl _ _, ?_⟩
   first | exact HI9.out.1 | exact ⟨HI9.out.1, trivial⟩ | exact HI9.out | exact ⟨HI9.out, trivial⟩ | exact ⟨HI9.out.1, HI9.out.2, trivial⟩
  refine val_cons ?_ (fun v2 => ?_)
  ·intro L vs w1 hvs hat hb hI hF; try simp [factsI, Region.binds, Is] at hF
   have hbg := hI.2
   have HI9 := Lib.hid hI; clear hI
   go_simp
   refine (HH1.out _ (bel_trans HS2.out.2.2.2.2.2 hbg)).mono ?_
   rintro e w2 ⟨rfl, hb2⟩
   have hle := HI9.out.2.size
   have hII := And.intro (HI9.out.1.bel hb2) (HI9.out.2.trans (hb2.mono hle))
   first | exact ⟨rfl, hb2.mono hle, hII⟩ | exact ⟨_, rfl, hb2.mono hle, hII, rfl⟩
  refine val_cons ?_ (fun v3 => ?_)
  ·intro L vs w1 hvs hat hb hI hF; try simp [factsI, Region.binds, Is] at hF
   have hbg := hI.2
   have HI9 := Lib.hid hI; clear hI
   have D0 := (HS2.out.1).grow (show Below _ _ _ from hbg); have cD := D0.cell; have lD := D0.lt; clear D0
   go_simp
   refine ⟨Below.refl _ _, ?_⟩
   first | exact HI9.out.1 | exact ⟨HI9.out.1, trivial⟩ | exact HI9.out | exact ⟨HI9.out, trivial⟩ | exact ⟨HI9.out.1, HI9.out.2, trivial⟩
  refine val_cons ?_ (fun v4 => ?_)
  ·intro L vs w1 hvs hat hb hI hF; try simp [factsI, Region.binds, Is] at hF
   have hbg := hI.2
   have HI9 := Lib.hid hI; clear hI
   have D0 := (HS2.out.2.2.1).grow (show Below _ _ _ from hbg); have cD := D0.cell; have lD := D0.lt; clear D0
   go_simp
   refine ⟨Below.refl _ _, ?_⟩
   first | exact HI9.out.1 | exact ⟨HI9.out.1, trivial⟩ | exact HI9.out | exact ⟨HI9.out, trivial⟩ | exact ⟨HI9.out.1, HI9.out.2, trivial⟩
  refine val_cons ?_ (fun v5 => ?_)
  ·intro L vs w1 hvs hat hb hI hF; try simp [factsI, Region.binds, Is] at hF
   have hbg := hI.2
   have HI9 := Lib.hid hI; clear hI
   go_simp
   refine (HH2.out _ (bel_trans HS2.out.2.2.2.2.2 hbg)).mono ?_
   rintro e w2 ⟨rfl, hb2⟩
   have hle := HI9.out.2.size
   have hII := And.intro (HI9.out.1.bel hb2) (HI9.out.2.trans (hb2.mono hle))
   first | exact ⟨rfl, hb2.mono hle, hII⟩ | exact ⟨_, rfl, hb2.mono hle, hII, rfl⟩
  refine val_cons ?_ (fun v6 => ?_)
  ·intro L vs w1 hvs hat hb hI hF; try simp [factsI, Region.binds, Is] at hF
   have hbg := hI.2
   have HI9 := Lib.hid hI; clear hI
   go_simp
   first | exact ⟨Below.refl _ _, HI9.out.1⟩ | exact ⟨Below.refl _ _, HI9.out.1, trivial⟩ | exact ⟨Below.refl _ _, HI9.out⟩ | exact ⟨Below.refl _ _, HI9.out, trivial⟩ | exact ⟨Below.refl _ _, HI9.out.1, HI9.out.2, trivial⟩
  refine val_cons ?_ (fun v7 => ?_)
  ·intro L vs w1 hvs hat hb hI hF; try simp [factsI, Region.binds, Is] at hF
   have hbg := hI.2
   have HI9 := Lib.hid hI; clear hI
   go_simp
   first | exact ⟨Below.refl _ _, HI9.out.1⟩ | exact ⟨Below.refl _ _, HI9.out.1, trivial⟩ | exact ⟨Below.refl _ _, HI9.out⟩ | exact ⟨Below.refl _ _, HI9.out, trivial⟩ | exact ⟨Below.refl _ _, HI9.out.1, HI9.out.2, trivial⟩
  refine val_cons ?_ (fun v8 => ?_)
  ·intro L vs w1 hvs hat hb hI hF; try simp [factsI, Region.binds, Is] at hF
   have hbg := hI.2
   have HI9 := Lib.hid hI; clear hI
   have D0 := (HS2.out.1).grow (show Below _ _ _ from hbg); have cD := D0.cell; have lD := D0.lt; clear D0
   go_simp
   refine ⟨Below.refl _ _, ?_⟩
   first | exact HI9.out.1 | exact ⟨HI9.out.1, trivial⟩ | exact HI9.out | exact ⟨HI9.out, trivial⟩ | exact ⟨HI9.out.1, HI9.out.2, trivial⟩
  refine val_cons ?_ (fun v9 => ?_)
  ·intro L vs w1 hvs hat hb hI hF; try simp [factsI, Region.binds, Is] at hF
   have h9 : L 9 = false := hat.self
   have h11 := hat.later 60 11 (by kernel_rfl)
   have hbg := hI.2
   have HI9 := Lib.hid hI; clear hI
   go_simp
   refine (HL1.out _ (bel_trans HS2.out.2.2.2.2.2 hbg)).mono ?_
   rintro e w2 ⟨⟨p9, c9, rfl, hC9⟩, hb2⟩
   have hle := HI9.out.2.size
   refine ⟨_, rfl, hb2.mono hle, ?_, trivial⟩
   have h99 := CeI.one (u := vs 11) (c := c9) h11 hC9
   simpa [upd, h11] using And.intro h99 (HI9.out.2.trans (hb2.mono hle))
  refine val_cons ?_ (fun v10 => ?_)
  ·intro L vs w1 hvs hat hb hI hF; try simp [factsI, Region.binds, Is] at hF
   have hbg := hI.2
   have HI9 := Lib.hid hI; clear hI
   have D0 := (HS2.out.1).grow (show Below _ _ _ from hbg); have cD := D0.cell; have lD := D0.lt; clear D0
   go_simp
   refine ⟨Below.refl _ _, ?_⟩
   first | exact HI9.out.1 | exact ⟨HI9.out.1, trivial⟩ | exact HI9.out | exact ⟨HI9.out, trivial⟩ | exact ⟨HI9.out.1, HI9.out.2, trivial⟩
  refine val_cons ?_ (fun v11 => ?_)
  ·intro L vs w1 hvs hat hb hI hF; try simp [factsI, Region.binds, Is] at hF
   have h9 := hat.ahead 60 9 (by kernel_rfl)
   have h11 : L 11 = false := hat.self
   have hbg := hI.2
   have HI9 := Lib.hid hI; clear hI
   go_simp
   refine (HL2.out _ (bel_trans HS2.out.2.2.2.2.2 hbg)).mono ?_
   rintro e w2 ⟨⟨p9, c9, rfl, hC9⟩, hb2⟩
   have hle := HI9.out.2.size
   refine ⟨_, rfl, hb2.mono hle, ?_, trivial⟩
   have h99 := CeI.two (c := c9) (HI9.out.1.bel hb2) hC9
   simpa [upd, h9] using And.intro h99 (HI9.out.2.trans (hb2.mono hle))
  refine val_cons ?_ (fun v12 => ?_)
  ·intro L vs w1 hvs hat hb hI hF; try simp [factsI, Region.binds, Is] at hF
   have h9 := hat.ahead 60 9 (by kernel_rfl)
   have h11 := hat.ahead 60 11 (by kernel_rfl)
   have hv9 : vs 9 = v9 := hvs 9 (by omega)
   have hv11 : vs 11 = v11 := hvs 11 (by omega)
   obtain ⟨p9, c9, e9, o9⟩ := hI.1.fst h9
   obtain ⟨p11, c11, e11, o11⟩ := hI.1.snd h11
   rw [hv9] at e9
   rw [hv11] at e11
   have hcc : Calls Tryz.prog 81 #[v9, v11] w1 fun e w' => e = .returned (.bool true) ∧ Below w1.heap.size w1 w' := by rw [e9, e11]; simpa using same_cells (ca := c9) (cb := c11) o9 o11 HM5.out
   have HCC := Lib.hid hcc
   clear hcc e9 e11 o9 o11
   rw [h9, h11] at hI
   have hbg := hI.2
   have HI9 := Lib.hid hI; clear hI
   go_simp
   refine HCC.out.mono ?_
   rintro e w2 ⟨rfl, hb2⟩
   have hle := HI9.out.2.size
   have hII := And.intro (HI9.out.1.bel hb2) (HI9.out.2.trans (hb2.mono hle))
   first | exact ⟨rfl, hb2.mono hle, hII⟩ | exact ⟨_, rfl, hb2.mono hle, hII, rfl⟩
  refine val_cons ?_ (fun v13 => ?_)
  ·intro L vs w1 hvs hat hb hI hF; try simp [factsI, Region.binds, Is] at hF
   have hbg := hI.2
   have HI9 := Lib.hid hI; clear hI
   go_simp
   first | exact ⟨Below.refl _ _, HI9.out.1⟩ | exact ⟨Below.refl _ _, HI9.out.1, trivial⟩ | exact ⟨Below.refl _ _, HI9.out⟩ | exact ⟨Below.refl _ _, HI9.out, trivial⟩ | exact ⟨Below.refl _ _, HI9.out.1, HI9.out.2, trivial⟩
  refine val_cons ?_ (fun v14 => ?_)
  ·intro L vs w1 hvs hat hb hI hF; try simp [factsI, Region.binds, Is] at hF
   have hbg := hI.2
   have HI9 := Lib.hid hI; clear hI
   go_simp
   first | exact ⟨Below.refl _ _, HI9.out.1⟩ | exact ⟨Below.refl _ _, HI9.out.1, trivial⟩ | exact ⟨Below.refl _ _, HI9.out⟩ | exact ⟨Below.refl _ _, HI9.out, trivial⟩ | exact ⟨Below.refl _ _, HI9.out.1, HI9.out.2, trivial⟩
  refine val_cons ?_ (fun v15 => ?_)
  ·intro L vs w1 hvs hat hb hI hF; try simp [factsI, Region.binds, Is] at hF
   have hbg := hI.2
   have HI9 := Lib.hid hI; clear hI
   have D0 := (HS2.out.2.2.2.1).grow (show Below _ _ _ from hbg); have cD := D0.cell; have lD := D0.lt; clear D0
   go_simp
   refine ⟨Below.refl _ _, ?_⟩
   first | exact HI9.out.1 | exact ⟨HI9.out.1, trivial⟩ | exact HI9.out | exact ⟨HI9.out, trivial⟩ | exact ⟨HI9.out.1, HI9.out.2, trivial⟩
  refine val_cons ?_ (fun v16 => ?_)
  ·intro L vs w1 hvs hat hb hI hF; try simp [factsI, Region.binds, Is] at hF
   have hbg := hI.2
   have HI9 := Lib.hid hI; clear hI
   have D0 := (HS2.out.2.2.2.2.1).grow (show Below _ _ _ from hbg); have cD := D0.cell; have lD := D0.lt; clear D0
   go_simp
   refine ⟨Below.refl _ _, ?_⟩
   first | exact HI9.out.1 | exact ⟨HI9.out.1, trivial⟩ | exact HI9.out | exact ⟨HI9.out, trivial⟩ | exact ⟨HI9.out.1, HI9.out.2, trivial⟩
  refine val_cons ?_ (fun v17 => ?_)
  ·intro L vs w1 hvs hat hb hI hF; try simp [factsI, Region.binds, Is] at hF
   have hbg := hI.2
   have HI9 := Lib.hid hI; clear hI
   go_simp
   first | exact ⟨Below.refl _ _, HI9.out.1⟩ | exact ⟨Below.refl _ _, HI9.out.1, trivial⟩ | exact ⟨Below.refl _ _, HI9.out⟩ | exact ⟨Below.refl _ _, HI9.out, trivial⟩ | exact ⟨Below.refl _ _, HI9.out.1, HI9.out.2, trivial⟩
  refine val_cons ?_ (fun v18 => ?_)
  ·intro L vs w1 hvs hat hb hI hF; try simp [factsI, Region.binds, Is] at hF
   have hbg := hI.2
   have HI9 := Lib.hid hI; clear hI
   go_simp
   first | exact ⟨Below.refl _ _, HI9.out.1⟩ | exact ⟨Below.refl _ _, HI9.out.1, trivial⟩ | exact ⟨Below.refl _ _, HI9.out⟩ | exact ⟨Below.refl _ _, HI9.out, trivial⟩ | exact ⟨Below.refl _ _, HI9.out.1, HI9.out.2, trivial⟩
  refine val_cons ?_ (fun v19 => ?_)
  ·intro L vs w1 hvs hat hb hI hF; try simp [factsI, Region.binds, Is] at hF
   have hbg := hI.2
   have HI9 := Lib.hid hI; clear hI
   go_simp
   first | exact ⟨Below.refl _ _, HI9.out.1⟩ | exact ⟨Below.refl _ _, HI9.out.1, trivial⟩ | exact ⟨Below.refl _ _, HI9.out⟩ | exact ⟨Below.refl _ _, HI9.out, trivial⟩ | exact ⟨Below.refl _ _, HI9.out.1, HI9.out.2, trivial⟩
  refine val_cons ?_ (fun v20 => ?_)
  ·intro L vs w1 hvs hat hb hI hF; try simp [factsI, Region.binds, Is] at hF
   have hbg := hI.2
   have HI9 := Lib.hid hI; clear hI
   go_simp
   first | exact ⟨Below.refl _ _, HI9.out.1⟩ | exact ⟨Below.refl _ _, HI9.out.1, trivial⟩ | exact ⟨Below.refl _ _, HI9.out⟩ | exact ⟨Below.refl _ _, HI9.out, trivial⟩ | exact ⟨Below.refl _ _, HI9.out.1, HI9.out.2, trivial⟩
  refine val_cons ?_ (fun v21 => ?_)
  ·intro L vs w1 hvs hat hb hI hF; try simp [factsI, Region.binds, Is] at hF
   have hbg := hI.2
   have HI9 := Lib.hid hI; clear hI
   go_simp
   first | exact ⟨Below.refl _ _, HI9.out.1⟩ | exact ⟨Below.refl _ _, HI9.out.1, trivial⟩ | exact ⟨Below.refl _ _, HI9.out⟩ | exact ⟨Below.refl _ _, HI9.out, trivial⟩ | exact ⟨Below.refl _ _, HI9.out.1, HI9.out.2, trivial⟩
  refine val_cons ?_ (fun v22 => ?_)
  ·intro L vs w1 hvs hat hb hI hF; try simp [factsI, Region.binds, Is] at hF
   have hbg := hI.2
   have HI9 := Lib.hid hI; clear hI
   go_simp
   first | exact ⟨Below.refl _ _, HI9.out.1⟩ | exact ⟨Below.refl _ _, HI9.out.1, trivial⟩ | exact ⟨Below.refl _ _, HI9.out⟩ | exact ⟨Below.refl _ _, HI9.out, trivial⟩ | exact ⟨Below.refl _ _, HI9.out.1, HI9.out.2, trivial⟩
  refine val_cons ?_ (fun v23 => ?_)
  ·intro L vs w1 hvs hat hb hI hF; try simp [factsI, Region.binds, Is] at hF
   have hbg := hI.2
   have HI9 := Lib.hid hI; clear hI
   go_simp
   first | exact ⟨Below.refl _ _, HI9.out.1⟩ | exact ⟨Below.refl _ _, HI9.out.1, trivial⟩ | exact ⟨Below.refl _ _, HI9.out⟩ | exact ⟨Below.refl _ _, HI9.out, trivial⟩ | exact ⟨Below.refl _ _, HI9.out.1, HI9.out.2, trivial⟩
  refine val_cons ?_ (fun v24 => ?_)
  ·intro L vs w1 hvs hat hb hI hF; try simp [factsI, Region.binds, Is] at hF
   have hbg := hI.2
   have HI9 := Lib.hid hI; clear hI
   go_simp
   first | exact ⟨Below.refl _ _, HI9.out.1⟩ | exact ⟨Below.refl _ _, HI9.out.1, trivial⟩ | exact ⟨Below.refl _ _, HI9.out⟩ | exact ⟨Below.refl _ _, HI9.out, trivial⟩ | exact ⟨Below.refl _ _, HI9.out.1, HI9.out.2, trivial⟩
  refine val_nil ?_
  intro vs w1 hvs hb hI hF
  simp [Is, Nat.forall_lt_succ_right] at hF
  have e0 := hF.1.1.1.1.1.1.1.1.1.1.1.1.1.1.1.1.1.1.1.1.1.1.1.1
  have e1 := hF.1.1.1.1.1.1.1.1.1.1.1.1.1.1.1.1.1.1.1.1.1.1.1.2
  have e2 := hF.1.1.1.1.1.1.1.1.1.1.1.1.1.1.1.1.1.1.1.1.1.1.2
  have e3 := hF.1.1.1.1.1.1.1.1.1.1.1.1.1.1.1.1.1.1.1.1.1.2
  have e4 := hF.1.1.1.1.1.1.1.1.1.1.1.1.1.1.1.1.1.1.1.1.2
  have e5 := hF.1.1.1.1.1.1.1.1.1.1.1.1.1.1.1.1.1.1.1.2
  have e6 := hF.1.1.1.1.1.1.1.1.1.1.1.1.1.1.1.1.1.1.2
  have e7 := hF.1.1.1.1.1.1.1.1.1.1.1.1.1.1.1.1.1.2
  have e8 := hF.1.1.1.1.1.1.1.1.1.1.1.1.1.1.1.1.2
  have e9 := hF.1.1.1.1.1.1.1.1.1.1.1.1.1.1.1.2
  have e10 := hF.1.1.1.1.1.1.1.1.1.1.1.1.1.1.2
  have e11 := hF.1.1.1.1.1.1.1.1.1.1.1.1.1.2
  have e12 := hF.1.1.1.1.1.1.1.1.1.1.1.1.2
  have e13 := hF.1.1.1.1.1.1.1.1.1.1.1.2
  have e14 := hF.1.1.1.1.1.1.1.1.1.1.2
  have e15 := hF.1.1.1.1.1.1.1.1.1.2
  have e16 := hF.1.1.1.1.1.1.1.1.2
  have e17 := hF.1.1.1.1.1.1.1.2
  have e18 := hF.1.1.1.1.1.1.2
  have e19 := hF.1.1.1.1.1.2
  have e20 := hF.1.1.1.1.2
  have e21 := hF.1.1.1.2
  have e22 := hF.1.1.2
  have e23 := hF.1.2
  have e24 := hF.2
  clear hF
  simp only [Act.put, List.setIfInBounds_toArray, List.set_cons_succ, List.set_cons_zero, e0, e1, e2, e3, e4, e5, e6, e7, e8, e9, e10, e11, e12, e13, e14, e15, e16, e17, e18, e19, e20, e21, e22, e23]
  clear e0 e1 e2 e3 e4 e5 e6 e7 e8 e9 e10 e11 e12 e13 e14 e15 e16 e17 e18 e19 e20 e21 e22 e23
  have hbg := hI.2
  have HS3 : Hid (Blk w1 (w.heap.size) #[.int .u64 (pl a 0), .int .u64 (pl a 1), .int .u64 (pl a 2), .int .u64 (pl a 3), .int .u64 (pl a 4), .int .u64 (pl a 5), .int .u64 (pl a 6), .int .u64 (pl a 7)] 26 ∧ Blk w1 (w.heap.size + 1) #[.int .u64 (pl b 0), .int .u64 (pl b 1), .int .u64 (pl b 2), .int .u64 (pl b 3), .int .u64 (pl b 4), .int .u64 (pl b 5), .int .u64 (pl b 6), .int .u64 (pl b 7)] 26 ∧ Blk w1 (w.heap.size + 1 + 1) #[.int .i64 x0, .int .i64 y0, .int .i64 z0] 60 ∧ Blk w1 (gN1) #[.int .u64 (pl p 0), .int .u64 (pl p 1), .int .u64 (pl p 2), .int .u64 (pl p 3), .int .u64 (pl p 4), .int .u64 (pl p 5), .int .u64 (pl p 6), .int .u64 (pl p 7)] 26 ∧ Blk w1 (gN2) #[.int .u64 (pl p 0), .int .u64 (pl p 1), .int .u64 (pl p 2), .int .u64 (pl p 3), .int .u64 (pl p 4), .int .u64 (pl p 5), .int .u64 (pl p 6), .int .u64 (pl p 7)] 26 ∧ Below w.heap.size w w1) := Lib.hid ⟨HS2.out.1.grow hbg, HS2.out.2.1.grow hbg, HS2.out.2.2.1.grow hbg, HS2.out.2.2.2.1.grow hbg, HS2.out.2.2.2.2.1.grow hbg, bel_trans HS2.out.2.2.2.2.2 hbg⟩
  clear hI hb hvs hbg HS2
  go_upto_region 6 with fail
  obtain ⟨wG, hwG⟩ : ∃ x, x = w1 := ⟨_, rfl⟩
  rw [← hwG] at HS3 ⊢
  clear hwG
  refine wp_region_val Grows (fun _ _ _ => True) [Is (solV a), Is (.int .i64 (r : Int)), Is (solV a), Is (.int .i64 (r : Int)), Is (.bool true), Is (.bool true), Is (solV a), Is (solV b), Is (solV J), Is (solV a), Is (solV b), Is (solV J), Is (.bool true), Is (.bool true), Is (.bool true), Is (solV a), Is (solV b), Is (solV K), Is (solV a), Is (solV b), Is (solV K), Is (.bool true), Is (.bool true), Is (.bool true)] (by kernel_rfl) (by kernel_rfl) rfl Grows.refl (fun _ _ _ => Grows.trans) (stable_mem ⟨fun _ _ _ h _ => h, fun _ _ _ h _ => h, fun _ _ _ h _ => h, fun _ _ _ h _ => h, fun _ _ _ h _ => h, fun _ _ _ h _ => h, fun _ _ _ h _ => h, fun _ _ _ h _ => h, fun _ _ _ h _ => h, fun _ _ _ h _ => h, fun _ _ _ h _ => h, fun _ _ _ h _ => h, fun _ _ _ h _ => h, fun _ _ _ h _ => h, fun _ _ _ h _ => h, fun _ _ _ h _ => h, fun _ _ _ h _ => h, fun _ _ _ h _ => h, fun _ _ _ h _ => h, fun _ _ _ h _ => h, fun _ _ _ h _ => h, fun _ _ _ h _ => h, fun _ _ _ h _ => h, fun _ _ _ h _ => h, trivial⟩) wG (Below.drew (Below.refl _ _)) trivial ?_
  refine val_cons ?_ (fun v0 => ?_)
  ·intro L vs w1 hvs hat hb hI hF; try simp [factsI, Region.binds, Is] at hF
   have D := (HS3.out.1).grow (show Below _ _ _ from hb); have cD := D.cell; have lD := D.lt; clear D
   go_simp
   first | exact Grows.refl _ | exact ⟨Grows.refl _, trivial⟩
  refine val_cons ?_ (fun v1 => ?_)
  ·intro L vs w1 hvs hat hb hI hF; try simp [factsI, Region.binds, Is] at hF
   have hb0 := hb
   go_simp
   refine (HN1.out _ (bel_trans HS3.out.2.2.2.2.2 (show Below _ _ _ from hb0))).mono ?_
   rintro e w2 ⟨rfl, hb2⟩
   first | exact ⟨rfl, hb2⟩ | exact ⟨_, rfl, hb2, trivial, rfl⟩ | exact ⟨_, rfl, hb2, rfl⟩
  refine val_cons ?_ (fun v2 => ?_)
  ·intro L vs w1 hvs hat hb hI hF; try simp [factsI, Region.binds, Is] at hF
   have D := (HS3.out.1).grow (show Below _ _ _ from hb); have cD := D.cell; have lD := D.lt; clear D
   go_simp
   first | exact Grows.refl _ | exact ⟨Grows.refl _, trivial⟩
  refine val_cons ?_ (fun v3 => ?_)
  ·intro L vs w1 hvs hat hb hI hF; try simp [factsI, Region.binds, Is] at hF
   have hb0 := hb
   go_simp
   refine (HN2.out _ (bel_trans HS3.out.2.2.2.2.2 (show Below _ _ _ from hb0))).mono ?_
   rintro e w2 ⟨rfl, hb2⟩
   first | exact ⟨rfl, hb2⟩ | exact ⟨_, rfl, hb2, trivial, rfl⟩ | exact ⟨_, rfl, hb2, rfl⟩
  refine val_cons ?_ (fun v4 => ?_)
  ·intro L vs w1 hvs hat hb hI hF; try simp [factsI, Region.binds, Is] at hF
   have hc := (Grows.cells hb).1
   clear hI
   go_simp
   try simp [upd]
   try first | exact Grows.refl _ | exact trivial | exact ⟨Grows.refl _, trivial⟩
  refine val_cons ?_ (fun v5 => ?_)
  ·intro L vs w1 hvs hat hb hI hF; try simp [factsI, Region.binds, Is] at hF
   have hc := (Grows.cells hb).1
   clear hI
   go_simp
   try simp [upd]
   try first | exact Grows.refl _ | exact trivial | exact ⟨Grows.refl _, trivial⟩
  refine val_cons ?_ (fun v6 => ?_)
  ·intro L vs w1 hvs hat hb hI hF; try simp [factsI, Region.binds, Is] at hF
   have D := (HS3.out.1).grow (show Below _ _ _ from hb); have cD := D.cell; have lD := D.lt; clear D
   go_simp
   first | exact Grows.refl _ | exact ⟨Grows.refl _, trivial⟩
  refine val_cons ?_ (fun v7 => ?_)
  ·intro L vs w1 hvs hat hb hI hF; try simp [factsI, Region.binds, Is] at hF
   have D := (HS3.out.2.1).grow (show Below _ _ _ from hb); have cD := D.cell; have lD := D.lt; clear D
   go_simp
   first | exact Grows.refl _ | exact ⟨Grows.refl _, trivial⟩
  refine val_cons ?_ (fun v8 => ?_)
  ·intro L vs w1 hvs hat hb hI hF; try simp [factsI, Region.binds, Is] at hF
   have hb0 := hb
   go_simp
   refine (HXJ1.out _ (bel_trans HS3.out.2.2.2.2.2 (show Below _ _ _ from hb0))).mono ?_
   rintro e w2 ⟨rfl, hb2⟩
   first | exact ⟨rfl, hb2⟩ | exact ⟨_, rfl, hb2, trivial, rfl⟩ | exact ⟨_, rfl, hb2, rfl⟩
  refine val_cons ?_ (fun v9 => ?_)
  ·intro L vs w1 hvs hat hb hI hF; try simp [factsI, Region.binds, Is] at hF
   have D := (HS3.out.1).grow (show Below _ _ _ from hb); have cD := D.cell; have lD := D.lt; clear D
   go_simp
   first | exact Grows.refl _ | exact ⟨Grows.refl _, trivial⟩
  refine val_cons ?_ (fun v10 => ?_)
  ·intro L vs w1 hvs hat hb hI hF; try simp [factsI, Region.binds, Is] at hF
   have D := (HS3.out.2.1).grow (show Below _ _ _ from hb); have cD := D.cell; have lD := D.lt; clear D
   go_simp
   first | exact Grows.refl _ | exact ⟨Grows.refl _, trivial⟩
  refine val_cons ?_ (fun v11 => ?_)
  ·intro L vs w1 hvs hat hb hI hF; try simp [factsI, Region.binds, Is] at hF
   have hb0 := hb
   go_simp
   refine (HXJ2.out _ (bel_trans HS3.out.2.2.2.2.2 (show Below _ _ _ from hb0))).mono ?_
   rintro e w2 ⟨rfl, hb2⟩
   first | exact ⟨rfl, hb2⟩ | exact ⟨_, rfl, hb2, trivial, rfl⟩ | exact ⟨_, rfl, hb2, rfl⟩
  refine val_cons ?_ (fun v12 => ?_)
  ·intro L vs w1 hvs hat hb hI hF; try simp [factsI, Region.binds, Is] at hF
   have hc := (Grows.cells hb).1
   clear hI
   go_simp
   try simp [upd]
   try first | exact Grows.refl _ | exact trivial | exact ⟨Grows.refl _, trivial⟩
  refine val_cons ?_ (fun v13 => ?_)
  ·intro L vs w1 hvs hat hb hI hF; try simp [factsI, Region.binds, Is] at hF
   have hc := (Grows.cells hb).1
   clear hI
   go_simp
   try simp [upd]
   try first | exact Grows.refl _ | exact trivial | exact ⟨Grows.refl _, trivial⟩
  refine val_cons ?_ (fun v14 => ?_)
  ·intro L vs w1 hvs hat hb hI hF; try simp [factsI, Region.binds, Is] at hF
   have hc := (Grows.cells hb).1
   clear hI
   go_simp
   try simp [upd]
   try first | exact Grows.refl _ | exact trivial | exact ⟨Grows.refl _, trivial⟩
  refine val_cons ?_ (fun v15 => ?_)
  ·intro L vs w1 hvs hat hb hI hF; try simp [factsI, Region.binds, Is] at hF
   have D := (HS3.out.1).grow (show Below _ _ _ from hb); have cD := D.cell; have lD := D.lt; clear D
   go_simp
   first | exact Grows.refl _ | exact ⟨Grows.refl _, trivial⟩
  refine val_cons ?_ (fun v16 => ?_)
  ·intro L vs w1 hvs hat hb hI hF; try simp [factsI, Region.binds, Is] at hF
   have D := (HS3.out.2.1).grow (show Below _ _ _ from hb); have cD := D.cell; have lD := D.lt; clear D
   go_simp
   first | exact Grows.refl _ | exact ⟨Grows.refl _, trivial⟩
  refine val_cons ?_ (fun v17 => ?_)
  ·intro L vs w1 hvs hat hb hI hF; try simp [factsI, Region.binds, Is] at hF
   have hb0 := hb
   go_simp
   refine (HXM1.out _ (bel_trans HS3.out.2.2.2.2.2 (show Below _ _ _ from hb0))).mono ?_
   rintro e w2 ⟨rfl, hb2⟩
   first | exact ⟨rfl, hb2⟩ | exact ⟨_, rfl, hb2, trivial, rfl⟩ | exact ⟨_, rfl, hb2, rfl⟩
  refine val_cons ?_ (fun v18 => ?_)
  ·intro L vs w1 hvs hat hb hI hF; try simp [factsI, Region.binds, Is] at hF
   have D := (HS3.out.1).grow (show Below _ _ _ from hb); have cD := D.cell; have lD := D.lt; clear D
   go_simp
   first | exact Grows.refl _ | exact ⟨Grows.refl _, trivial⟩
  refine val_cons ?_ (fun v19 => ?_)
  ·intro L vs w1 hvs hat hb hI hF; try simp [factsI, Region.binds, Is] at hF
   have D := (HS3.out.2.1).grow (show Below _ _ _ from hb); have cD := D.cell; have lD := D.lt; clear D
   go_simp
   first | exact Grows.refl _ | exact ⟨Grows.refl _, trivial⟩
  refine val_cons ?_ (fun v20 => ?_)
  ·intro L vs w1 hvs hat hb hI hF; try simp [factsI, Region.binds, Is] at hF
   have hb0 := hb
   go_simp
   refine (HXM2.out _ (bel_trans HS3.out.2.2.2.2.2 (show Below _ _ _ from hb0))).mono ?_
   rintro e w2 ⟨rfl, hb2⟩
   first | exact ⟨rfl, hb2⟩ | exact ⟨_, rfl, hb2, trivial, rfl⟩ | exact ⟨_, rfl, hb2, rfl⟩
  refine val_cons ?_ (fun v21 => ?_)
  ·intro L vs w1 hvs hat hb hI hF; try simp [factsI, Region.binds, Is] at hF
   have hc := (Grows.cells hb).1
   clear hI
   go_simp
   try simp [upd]
   try first | exact Grows.refl _ | exact trivial | exact ⟨Grows.refl _, trivial⟩
  refine val_cons ?_ (fun v22 => ?_)
  ·intro L vs w1 hvs hat hb hI hF; try simp [factsI, Region.binds, Is] at hF
   have hc := (Grows.cells hb).1
   clear hI
   go_simp
   try simp [upd]
   try first | exact Grows.refl _ | exact trivial | exact ⟨Grows.refl _, trivial⟩
  refine val_cons ?_ (fun v23 => ?_)
  ·intro L vs w1 hvs hat hb hI hF; try simp [factsI, Region.binds, Is] at hF
   have hc := (Grows.cells hb).1
   clear hI
   go_simp
   try simp [upd]
   try first | exact Grows.refl _ | exact trivial | exact ⟨Grows.refl _, trivial⟩
  refine val_nil ?_
  intro vs w1 hvs hb hI hF
  simp [Is, Nat.forall_lt_succ_right] at hF
  have e0 := hF.1.1.1.1.1.1.1.1.1.1.1.1.1.1.1.1.1.1.1.1.1.1.1
  have e1 := hF.1.1.1.1.1.1.1.1.1.1.1.1.1.1.1.1.1.1.1.1.1.1.2
  have e2 := hF.1.1.1.1.1.1.1.1.1.1.1.1.1.1.1.1.1.1.1.1.1.2
  have e3 := hF.1.1.1.1.1.1.1.1.1.1.1.1.1.1.1.1.1.1.1.1.2
  have e4 := hF.1.1.1.1.1.1.1.1.1.1.1.1.1.1.1.1.1.1.1.2
  have e5 := hF.1.1.1.1.1.1.1.1.1.1.1.1.1.1.1.1.1.1.2
  have e6 := hF.1.1.1.1.1.1.1.1.1.1.1.1.1.1.1.1.1.2
  have e7 := hF.1.1.1.1.1.1.1.1.1.1.1.1.1.1.1.1.2
  have e8 := hF.1.1.1.1.1.1.1.1.1.1.1.1.1.1.1.2
  have e9 := hF.1.1.1.1.1.1.1.1.1.1.1.1.1.1.2
  have e10 := hF.1.1.1.1.1.1.1.1.1.1.1.1.1.2
  have e11 := hF.1.1.1.1.1.1.1.1.1.1.1.1.2
  have e12 := hF.1.1.1.1.1.1.1.1.1.1.1.2
  have e13 := hF.1.1.1.1.1.1.1.1.1.1.2
  have e14 := hF.1.1.1.1.1.1.1.1.1.2
  have e15 := hF.1.1.1.1.1.1.1.1.2
  have e16 := hF.1.1.1.1.1.1.1.2
  have e17 := hF.1.1.1.1.1.1.2
  have e18 := hF.1.1.1.1.1.2
  have e19 := hF.1.1.1.1.2
  have e20 := hF.1.1.1.2
  have e21 := hF.1.1.2
  have e22 := hF.1.2
  have e23 := hF.2
  clear hF
  simp only [Act.put, List.setIfInBounds_toArray, List.set_cons_succ, List.set_cons_zero, e0, e1, e2, e3, e4, e5, e6, e7, e8, e9, e10, e11, e12, e13, e14, e15, e16, e17, e18, e19, e20, e21, e22]
  clear e0 e1 e2 e3 e4 e5 e6 e7 e8 e9 e10 e11 e12 e13 e14 e15 e16 e17 e18 e19 e20 e21 e22
  have hbg : Below wG.heap.size wG w1 := hb
  have HS4 : Hid (Blk w1 (w.heap.size) #[.int .u64 (pl a 0), .int .u64 (pl a 1), .int .u64 (pl a 2), .int .u64 (pl a 3), .int .u64 (pl a 4), .int .u64 (pl a 5), .int .u64 (pl a 6), .int .u64 (pl a 7)] 26 ∧ Blk w1 (w.heap.size + 1) #[.int .u64 (pl b 0), .int .u64 (pl b 1), .int .u64 (pl b 2), .int .u64 (pl b 3), .int .u64 (pl b 4), .int .u64 (pl b 5), .int .u64 (pl b 6), .int .u64 (pl b 7)] 26 ∧ Blk w1 (w.heap.size + 1 + 1) #[.int .i64 x0, .int .i64 y0, .int .i64 z0] 60 ∧ Blk w1 (gN1) #[.int .u64 (pl p 0), .int .u64 (pl p 1), .int .u64 (pl p 2), .int .u64 (pl p 3), .int .u64 (pl p 4), .int .u64 (pl p 5), .int .u64 (pl p 6), .int .u64 (pl p 7)] 26 ∧ Blk w1 (gN2) #[.int .u64 (pl p 0), .int .u64 (pl p 1), .int .u64 (pl p 2), .int .u64 (pl p 3), .int .u64 (pl p 4), .int .u64 (pl p 5), .int .u64 (pl p 6), .int .u64 (pl p 7)] 26 ∧ Below w.heap.size w w1) := Lib.hid ⟨HS3.out.1.grow hbg, HS3.out.2.1.grow hbg, HS3.out.2.2.1.grow hbg, HS3.out.2.2.2.1.grow hbg, HS3.out.2.2.2.2.1.grow hbg, bel_trans HS3.out.2.2.2.2.2 hbg⟩
  clear hI hb hvs hbg HS3
  go_upto_region 7 with fail
  obtain ⟨wF, hwF⟩ : ∃ x, x = w1 := ⟨_, rfl⟩
  rw [← hwF] at HS4 ⊢
  clear hwF
  refine wp_region_val Grows (fun _ _ _ => True) [Is (.bool true), Is (.bool true), Is (.bool true), Is (.bool true), Is (.bool true), Is (.bool true), Is (.bool true), Is (.bool true), Is (solV a), Is (solV b), Is (solV D), Is (solV a), Is (solV b), Is (solV D), Is (.bool true), Is (.bool true), Is (.bool true), Is (solV a), Is (solV b), Is (.bool u), Is (solV a), Is (solV b), Is (.bool u), Is (.bool true), Is (.bool true), Is (.bool true)] (by kernel_rfl) (by kernel_rfl) rfl Grows.refl (fun _ _ _ => Grows.trans) (stable_mem ⟨fun _ _ _ h _ => h, fun _ _ _ h _ => h, fun _ _ _ h _ => h, fun _ _ _ h _ => h, fun _ _ _ h _ => h, fun _ _ _ h _ => h, fun _ _ _ h _ => h, fun _ _ _ h _ => h, fun _ _ _ h _ => h, fun _ _ _ h _ => h, fun _ _ _ h _ => h, fun _ _ _ h _ => h, fun _ _ _ h _ => h, fun _ _ _ h _ => h, fun _ _ _ h _ => h, fun _ _ _ h _ => h, fun _ _ _ h _ => h, fun _ _ _ h _ => h, fun _ _ _ h _ => h, fun _ _ _ h _ => h, fun _ _ _ h _ => h, fun _ _ _ h _ => h, fun _ _ _ h _ => h, fun _ _ _ h _ => h, fun _ _ _ h _ => h, fun _ _ _ h _ => h, trivial⟩) wF (Below.drew (Below.refl _ _)) trivial ?_
  refine val_cons ?_ (fun v0 => ?_)
  ·intro L vs w1 hvs hat hb hI hF; try simp [factsI, Region.binds, Is] at hF
   have hb0 := hb
   go_simp
   refine (HC.out _ (bel_trans HS4.out.2.2.2.2.2 (show Below _ _ _ from hb0))).mono ?_
   rintro e w2 ⟨rfl, hb2⟩
   first | exact ⟨rfl, hb2⟩ | exact ⟨_, rfl, hb2, trivial, rfl⟩ | exact ⟨_, rfl, hb2, rfl⟩
  refine val_cons ?_ (fun v1 => ?_)
  ·intro L vs w1 hvs hat hb hI hF; try simp [factsI, Region.binds, Is] at hF
   have hc := (Grows.cells hb).1
   clear hI
   go_simp
   try simp [upd]
   try first | exact Grows.refl _ | exact trivial | exact ⟨Grows.refl _, trivial⟩
  refine val_cons ?_ (fun v2 => ?_)
  ·intro L vs w1 hvs hat hb hI hF; try simp [factsI, Region.binds, Is] at hF
   have hc := (Grows.cells hb).1
   clear hI
   go_simp
   try simp [upd]
   try first | exact Grows.refl _ | exact trivial | exact ⟨Grows.refl _, trivial⟩
  refine val_cons ?_ (fun v3 => ?_)
  ·intro L vs w1 hvs hat hb hI hF; try simp [factsI, Region.binds, Is] at hF
   have hc := (Grows.cells hb).1
   clear hI
   go_simp
   try simp [upd]
   try first | exact Grows.refl _ | exact trivial | exact ⟨Grows.refl _, trivial⟩
  refine val_cons ?_ (fun v4 => ?_)
  ·intro L vs w1 hvs hat hb hI hF; try simp [factsI, Region.binds, Is] at hF
   have hc := (Grows.cells hb).1
   clear hI
   go_simp
   try simp [upd]
   try first | exact Grows.refl _ | exact trivial | exact ⟨Grows.refl _, trivial⟩
  refine val_cons ?_ (fun v5 => ?_)
  ·intro L vs w1 hvs hat hb hI hF; try simp [factsI, Region.binds, Is] at hF
   have hc := (Grows.cells hb).1
   clear hI
   go_simp
   try simp [upd]
   try first | exact Grows.refl _ | exact trivial | exact ⟨Grows.refl _, trivial⟩
  refine val_cons ?_ (fun v6 => ?_)
  ·intro L vs w1 hvs hat hb hI hF; try simp [factsI, Region.binds, Is] at hF
   have hc := (Grows.cells hb).1
   clear hI
   go_simp
   try simp [upd]
   try first | exact Grows.refl _ | exact trivial | exact ⟨Grows.refl _, trivial⟩
  refine val_cons ?_ (fun v7 => ?_)
  ·intro L vs w1 hvs hat hb hI hF; try simp [factsI, Region.binds, Is] at hF
   have hc := (Grows.cells hb).1
   clear hI
   go_simp
   try simp [upd]
   try first | exact Grows.refl _ | exact trivial | exact ⟨Grows.refl _, trivial⟩
  refine val_cons ?_ (fun v8 => ?_)
  ·intro L vs w1 hvs hat hb hI hF; try simp [factsI, Region.binds, Is] at hF
   have D := (HS4.out.1).grow (show Below _ _ _ from hb); have cD := D.cell; have lD := D.lt; clear D
   go_simp
   first | exact Grows.refl _ | exact ⟨Grows.refl _, trivial⟩
  refine val_cons ?_ (fun v9 => ?_)
  ·intro L vs w1 hvs hat hb hI hF; try simp [factsI, Region.binds, Is] at hF
   have D := (HS4.out.2.1).grow (show Below _ _ _ from hb); have cD := D.cell; have lD := D.lt; clear D
   go_simp
   first | exact Grows.refl _ | exact ⟨Grows.refl _, trivial⟩
  refine val_cons ?_ (fun v10 => ?_)
  ·intro L vs w1 hvs hat hb hI hF; try simp [factsI, Region.binds, Is] at hF
   have hb0 := hb
   go_simp
   refine (HXS1.out _ (bel_trans HS4.out.2.2.2.2.2 (show Below _ _ _ from hb0))).mono ?_
   rintro e w2 ⟨rfl, hb2⟩
   first | exact ⟨rfl, hb2⟩ | exact ⟨_, rfl, hb2, trivial, rfl⟩ | exact ⟨_, rfl, hb2, rfl⟩
  refine val_cons ?_ (fun v11 => ?_)
  ·intro L vs w1 hvs hat hb hI hF; try simp [factsI, Region.binds, Is] at hF
   have D := (HS4.out.1).grow (show Below _ _ _ from hb); have cD := D.cell; have lD := D.lt; clear D
   go_simp
   first | exact Grows.refl _ | exact ⟨Grows.refl _, trivial⟩
  refine val_cons ?_ (fun v12 => ?_)
  ·intro L vs w1 hvs hat hb hI hF; try simp [factsI, Region.binds, Is] at hF
   have D := (HS4.out.2.1).grow (show Below _ _ _ from hb); have cD := D.cell; have lD := D.lt; clear D
   go_simp
   first | exact Grows.refl _ | exact ⟨Grows.refl _, trivial⟩
  refine val_cons ?_ (fun v13 => ?_)
  ·intro L vs w1 hvs hat hb hI hF; try simp [factsI, Region.binds, Is] at hF
   have hb0 := hb
   go_simp
   refine (HXS2.out _ (bel_trans HS4.out.2.2.2.2.2 (show Below _ _ _ from hb0))).mono ?_
   rintro e w2 ⟨rfl, hb2⟩
   first | exact ⟨rfl, hb2⟩ | exact ⟨_, rfl, hb2, trivial, rfl⟩ | exact ⟨_, rfl, hb2, rfl⟩
  refine val_cons ?_ (fun v14 => ?_)
  ·intro L vs w1 hvs hat hb hI hF; try simp [factsI, Region.binds, Is] at hF
   have hc := (Grows.cells hb).1
   clear hI
   go_simp
   try simp [upd]
   try first | exact Grows.refl _ | exact trivial | exact ⟨Grows.refl _, trivial⟩
  refine val_cons ?_ (fun v15 => ?_)
  ·intro L vs w1 hvs hat hb hI hF; try simp [factsI, Region.binds, Is] at hF
   have hc := (Grows.cells hb).1
   clear hI
   go_simp
   try simp [upd]
   try first | exact Grows.refl _ | exact trivial | exact ⟨Grows.refl _, trivial⟩
  refine val_cons ?_ (fun v16 => ?_)
  ·intro L vs w1 hvs hat hb hI hF; try simp [factsI, Region.binds, Is] at hF
   have hc := (Grows.cells hb).1
   clear hI
   go_simp
   try simp [upd]
   try first | exact Grows.refl _ | exact trivial | exact ⟨Grows.refl _, trivial⟩
  refine val_cons ?_ (fun v17 => ?_)
  ·intro L vs w1 hvs hat hb hI hF; try simp [factsI, Region.binds, Is] at hF
   have D := (HS4.out.1).grow (show Below _ _ _ from hb); have cD := D.cell; have lD := D.lt; clear D
   go_simp
   first | exact Grows.refl _ | exact ⟨Grows.refl _, trivial⟩
  refine val_cons ?_ (fun v18 => ?_)
  ·intro L vs w1 hvs hat hb hI hF; try simp [factsI, Region.binds, Is] at hF
   have D := (HS4.out.2.1).grow (show Below _ _ _ from hb); have cD := D.cell; have lD := D.lt; clear D
   go_simp
   first | exact Grows.refl _ | exact ⟨Grows.refl _, trivial⟩
  refine val_cons ?_ (fun v19 => ?_)
  ·intro L vs w1 hvs hat hb hI hF; try simp [factsI, Region.binds, Is] at hF
   have hb0 := hb
   go_simp
   refine (HI1.out _ (bel_trans HS4.out.2.2.2.2.2 (show Below _ _ _ from hb0))).mono ?_
   rintro e w2 ⟨rfl, hb2⟩
   first | exact ⟨rfl, hb2⟩ | exact ⟨_, rfl, hb2, trivial, rfl⟩ | exact ⟨_, rfl, hb2, rfl⟩
  refine val_cons ?_ (fun v20 => ?_)
  ·intro L vs w1 hvs hat hb hI hF; try simp [factsI, Region.binds, Is] at hF
   have D := (HS4.out.1).grow (show Below _ _ _ from hb); have cD := D.cell; have lD := D.lt; clear D
   go_simp
   first | exact Grows.refl _ | exact ⟨Grows.refl _, trivial⟩
  refine val_cons ?_ (fun v21 => ?_)
  ·intro L vs w1 hvs hat hb hI hF; try simp [factsI, Region.binds, Is] at hF
   have D := (HS4.out.2.1).grow (show Below _ _ _ from hb); have cD := D.cell; have lD := D.lt; clear D
   go_simp
   first | exact Grows.refl _ | exact ⟨Grows.refl _, trivial⟩
  refine val_cons ?_ (fun v22 => ?_)
  ·intro L vs w1 hvs hat hb hI hF; try simp [factsI, Region.binds, Is] at hF
   have hb0 := hb
   go_simp
   refine (HI2_.out _ (bel_trans HS4.out.2.2.2.2.2 (show Below _ _ _ from hb0))).mono ?_
   rintro e w2 ⟨rfl, hb2⟩
   first | exact ⟨rfl, hb2⟩ | exact ⟨_, rfl, hb2, trivial, rfl⟩ | exact ⟨_, rfl, hb2, rfl⟩
  refine val_cons ?_ (fun v23 => ?_)
  ·intro L vs w1 hvs hat hb hI hF; try simp [factsI, Region.binds, Is] at hF
   have hc := (Grows.cells hb).1
   clear hI
   go_simp
   try simp [upd]
   try first | exact Grows.refl _ | exact trivial | exact ⟨Grows.refl _, trivial⟩
  refine val_cons ?_ (fun v24 => ?_)
  ·intro L vs w1 hvs hat hb hI hF; try simp [factsI, Region.binds, Is] at hF
   have hc := (Grows.cells hb).1
   clear hI
   go_simp
   try simp [upd]
   try first | exact Grows.refl _ | exact trivial | exact ⟨Grows.refl _, trivial⟩
  refine val_cons ?_ (fun v25 => ?_)
  ·intro L vs w1 hvs hat hb hI hF; try simp [factsI, Region.binds, Is] at hF
   have hc := (Grows.cells hb).1
   clear hI
   go_simp
   try simp [upd]
   try first | exact Grows.refl _ | exact trivial | exact ⟨Grows.refl _, trivial⟩
  refine val_nil ?_
  intro vs w1 hvs hb hI hF
  simp [Is, Nat.forall_lt_succ_right] at hF
  simp only [Act.put, List.setIfInBounds_toArray, List.set_cons_succ, List.set_cons_zero, hF]
  clear hF
  have HF9 := Lib.hid (bel_trans HS4.out.2.2.2.2.2 (show Below _ _ w1 from hb))
  clear  hb hI hvs
  go_wp2_with fail
  go_ret
  exact ⟨rfl, HF9.out⟩
end Go.Proofs.YtkfimbonmnoglaaGreatDoor
end
