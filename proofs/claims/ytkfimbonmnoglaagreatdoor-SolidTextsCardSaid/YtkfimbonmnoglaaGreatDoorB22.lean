import Derived.Test.YtkfimbonmnoglaaGreatDoorB21
import Derived.Deep.Cut
/-
  Given contracts of functions of the program, and laws for them, one behind the other.
-/
set_option linter.unusedVariables false
set_option linter.unusedSimpArgs false
set_option linter.unusedSectionVars false
section
namespace Go.Proofs.YtkfimbonmnoglaaGreatDoor
open Go.RowKit Go.Rel Go.Draw Go.Solid
set_option maxRecDepth 100000
attribute [local go_sem] Oper.semAt_some
theorem own_gb {W W' : World} {base : Nat} {e : TypeId} {size : Nat} {v : Value} {n : Nat} {xs : List Value} (h : W.ownsRow base e size v n xs) (hb : Below W.heap.size W W') : W'.ownsRow base e size v n xs :=
 h.kept (row := none) (gb_below (gb_refl W none) hb) (by cases v.ownBlock with | none => exact .inl rfl | some g => exact .inr (fun e => by cases e))
theorem steps_size (f : Bool) : 0 < (stepsL f).length ∧ (stepsL f).length ≤ 1000000 := by cases f <;> decide +kernel
theorem classes_own {w : World} (s : Sol) (f : Bool) {base : Nat} {v : Value} (hv : OwnCl w base v (stepsL f)) (hT : Tab w) :
  Calls Tryz.prog 106 #[solV s, v] w fun e w' => (∃ u, e = .returned u ∧ OwnSo w' w.heap.size u (classesS (stepsL f) s)) ∧ Below w.heap.size w w' := by
 rcases (OwnCl.sl hv).cases with ⟨h0, _⟩ | ⟨b, of, c, rfl, hc, _, _, hC⟩
 ·have h1 := congrArg List.length h0
  rw [List.length_map] at h1
  have := (steps_size f).1
  rw [h1] at this
  exact absurd this (by decide)
 ·rw [List.length_map] at hc ⊢
  exact classes_spec s hC hc (steps_size f).2 (steps_near f) hT
def PaI (w : World) (f : Bool) (s : Sol) (a b : Bool) (v u : Value) (W : World) : Prop := (a = true → OwnCl W w.heap.size v (stepsL f)) ∧ (b = true → OwnSo W w.heap.size u (classesS (stepsL f) s))
theorem PaI.bel {w : World} {f : Bool} {s : Sol} {a b : Bool} {v u : Value} {W W' : World} (h : PaI w f s a b v u W) (hb : Below W.heap.size W W') : PaI w f s a b v u W' :=
 ⟨fun e => own_gb (h.1 e) hb, fun e => own_gb (h.2 e) hb⟩
theorem PaI.start (w : World) (f : Bool) (s : Sol) (v u : Value) (W : World) : PaI w f s false false v u W := ⟨fun e => (by cases e), fun e => (by cases e)⟩
def PaF (c : Bool) (w : World) (f : Bool) (s : Sol) (u : Value) (W : World) : Prop := c = true → OwnSo W w.heap.size u (classesS (stepsL f) s)
theorem PaF.no {c : Bool} (hc : c = false) (w : World) (f : Bool) (s : Sol) (u : Value) (W : World) : PaF c w f s u W := fun e => by rw [hc] at e; cases e
theorem PaF.yes {w : World} {f : Bool} {s : Sol} {u : Value} {W : World} (h : OwnSo W w.heap.size u (classesS (stepsL f) s)) : PaF true w f s u W := fun _ => h
theorem PaF.get {w : World} {f : Bool} {s : Sol} {u : Value} {W : World} (h : PaF true w f s u W) : OwnSo W w.heap.size u (classesS (stepsL f) s) := h rfl
theorem PaI.one {w : World} {f : Bool} {s : Sol} {a b : Bool} {v u v' : Value} {W : World} (h : PaI w f s a b v u W) (hb : b = false) (hv : OwnCl W w.heap.size v' (stepsL f)) : PaI w f s true b v' u W := ⟨fun _ => hv, fun e => by rw [hb] at e; cases e⟩
theorem PaI.two {w : World} {f : Bool} {s : Sol} {a b : Bool} {v u u' : Value} {W : World} (h : PaI w f s a b v u W) (hu : OwnSo W w.heap.size u' (classesS (stepsL f) s)) : PaI w f s a true v u' W := ⟨h.1, fun _ => hu⟩
theorem PaI.fst {w : World} {f : Bool} {s : Sol} {a b : Bool} {v u : Value} {W : World} (h : PaI w f s a b v u W) (ha : a = true) : OwnCl W w.heap.size v (stepsL f) := h.1 ha
theorem PaI.snd {w : World} {f : Bool} {s : Sol} {a b : Bool} {v u : Value} {W : World} (h : PaI w f s a b v u W) (hb : b = true) : OwnSo W w.heap.size u (classesS (stepsL f) s) := h.2 hb
attribute [local irreducible] stepsL classesS PaI PaF
set_option maxHeartbeats 4000000 in
theorem parts_spec (s : Sol) (w : World) (hT : Tab w) : Calls Tryz.prog 37 #[solV s] w fun e w' => (∃ u, e = .returned u ∧ OwnSo w' w.heap.size u (partsS s)) ∧ Below w.heap.size w w' := by
 obtain ⟨L0, hL0⟩ : ∃ L0, L0 = partsS s := ⟨_, rfl⟩
 have HL : Hid (L0 = classesS (stepsL false) s) := Lib.hid hL0
 rw [← hL0]
 clear hL0
 go_enter Tryz.func37, Tryz.ntmps37
 have HT := Lib.hid hT
 clear hT
 go_upto_region 1 with fail
 obtain ⟨wA, hwA⟩ : ∃ wA, wA = w.alloc (.cells #[.int .u64 (pl s 0), .int .u64 (pl s 1), .int .u64 (pl s 2), .int .u64 (pl s 3), .int .u64 (pl s 4), .int .u64 (pl s 5), .int .u64 (pl s 6), .int .u64 (pl s 7)] 26) := ⟨_, rfl⟩
 have bA : Blk wA w.heap.size #[.int .u64 (pl s 0), .int .u64 (pl s 1), .int .u64 (pl s 2), .int .u64 (pl s 3), .int .u64 (pl s 4), .int .u64 (pl s 5), .int .u64 (pl s 6), .int .u64 (pl s 7)] 26 := by rw [hwA]; exact Blk.new _ _ _
 have hbA : Below w.heap.size w wA := by rw [hwA]; exact bel_alloc (bel_refl w) _
 have hsA : wA.heap.size = w.heap.size + 1 := by rw [hwA]; simp
 rw [← hwA]
 have HA := Lib.hid (And.intro bA (And.intro hbA hsA))
 have HTA := Lib.hid (HT.out.grow hbA)
 clear hwA bA hbA hsA
 refine wp_region_val (Below wA.heap.size) (fun L vs W => PaI w false s (L 1) (L 2) (vs 1) (vs 2) W ∧ Below wA.heap.size wA W ∧ PaF (L 3) w false s (vs 3) W) [Is (solV s), AnyV, AnyV, AnyV] (by kernel_rfl) (by kernel_rfl) rfl (Below.refl wA.heap.size) (fun _ _ _ => Below.trans) (stable_mem ⟨fun _ _ _ h _ => h, fun _ _ _ h _ => h, fun _ _ _ h _ => h, fun _ _ _ h _ => h, trivial⟩) wA (Below.drew (Below.refl _ _)) (And.intro (PaI.start _ _ _ _ _ _) (And.intro (Below.drew (Below.refl _ _)) (PaF.no rfl _ _ _ _ _))) ?_
 refine val_cons ?_ (fun v0 => ?_)
 ·intro L vs w1 hvs hat hb hI hF; try simp [factsI, Region.binds, Is] at hF
  have hbg := hI.2.1
  have HI2 := Lib.hid hI; clear hI
  have BA := HA.out.1.grow (show Below _ _ _ from hbg)
  have hc := BA.cell; have hl := BA.lt
  clear BA
  go_simp
  refine ⟨Below.refl _ _, ?_⟩
  first | (simpa [upd] using HI2.out) | (simpa [upd] using And.intro HI2.out.1 HI2.out.2.2)
 refine val_cons ?_ (fun v1 => ?_)
 ·intro L vs w1 hvs hat hb hI hF; try simp [factsI, Region.binds, Is] at hF
  have h1 : L 1 = false := hat.self
  have h3 := hat.later 40 3 (by kernel_rfl)
  have h2 := hat.later 40 2 (by kernel_rfl)
  have HI2 := Lib.hid hI; clear hI
  go_simp
  refine (steps_spec false _).mono ?_
  rintro e w2 ⟨u, rfl, hu, hb2⟩
  have hle := HI2.out.2.1.size
  have hle2 := HA.out.2.2
  refine ⟨_, rfl, hb2.mono hle, ?_, trivial⟩
  have := PaI.one (HI2.out.1.bel hb2) h2 (own_weak hu (by omega))
  simpa [upd, h2, h3] using And.intro this (And.intro (HI2.out.2.1.trans (hb2.mono hle)) (PaF.no rfl w false s (vs 3) w2))
 refine val_cons ?_ (fun v2 => ?_)
 ·intro L vs w1 hvs hat hb hI hF; try simp [factsI, Region.binds, Is] at hF
  have h1 := hat.ahead 40 1 (by kernel_rfl)
  have h2 : L 2 = false := hat.self
  have h3 := hat.later 40 3 (by kernel_rfl)
  have hv1 : vs 1 = v1 := hvs 1 (by omega)
  have HI2 := Lib.hid hI; clear hI
  have hO : OwnCl w1 w.heap.size v1 (stepsL false) := by rw [← hv1]; exact HI2.out.1.fst h1
  have HT1 := HTA.out.mono HI2.out.2.1 (by have := HTA.out.lt; omega)
  have HCC := Lib.hid (classes_own s false hO HT1)
  clear hO HT1
  go_simp
  refine HCC.out.mono ?_
  rintro e w2 ⟨⟨u, rfl, hu⟩, hb2⟩
  have hle := HI2.out.2.1.size
  have hle2 := HA.out.2.2
  refine ⟨_, rfl, hb2.mono hle, ?_, trivial⟩
  have := PaI.two (HI2.out.1.bel hb2) (own_weak hu (by omega))
  simpa [upd, h1, h3] using And.intro this (And.intro (HI2.out.2.1.trans (hb2.mono hle)) (PaF.no rfl w false s (vs 3) w2))
 refine val_cons ?_ (fun v3 => ?_)
 ·intro L vs w1 hvs hat hb hI hF; try simp [factsI, Region.binds, Is] at hF
  have h2 := hat.ahead 40 2 (by kernel_rfl)
  have hv2 : vs 2 = v2 := hvs 2 (by omega)
  have hy : PaF true w false s v2 w1 := PaF.yes (by rw [← hv2]; exact hI.1.snd h2)
  have HI2 := Lib.hid (And.intro hI hy); clear hI hy
  go_simp
  refine ⟨Below.refl _ _, ?_⟩
  first | (simpa [upd, h2] using And.intro HI2.out.1.1 (And.intro HI2.out.1.2.1 HI2.out.2)) | (simpa [upd, h2] using And.intro HI2.out.1.1 HI2.out.2)
 refine val_nil ?_
 intro vs w1 hvs hb hI hF
 simp [Is, Nat.forall_lt_succ_right] at hF
 have e0 := hF.1.1.1
 have e1 := hF.1.1.2
 have e2 := hF.1.2
 have e3 := hF.2
 clear hF
 simp only [Act.put, List.setIfInBounds_toArray, List.set_cons_succ, List.set_cons_zero, e0]
 clear e0
 have hfin := hI.2.2.get
 have hbw : Below w.heap.size w w1 := HA.out.2.1.trans (hI.2.1.mono (by have := HA.out.2.2; omega))
 have HF := Lib.hid (And.intro hfin hbw)
 have hv3 : vs 3 = v3 := hvs 3 (by omega)
 rw [hv3, ← HL.out] at HF
 clear hfin hbw hI hb hvs hv3 e1 e2 e3
 go_wp2_with fail
 go_ret
 exact ⟨⟨_, rfl, HF.out.1⟩, HF.out.2⟩
end Go.Proofs.YtkfimbonmnoglaaGreatDoor
end
section
namespace Go.Proofs.YtkfimbonmnoglaaGreatDoor
open Go.RowKit Go.Rel Go.Draw Go.Solid
set_option maxRecDepth 100000
attribute [local go_sem] Oper.semAt_some
theorem bits_xor_u (a b : U) : bits .xor .u64 (uI a) (uI b) = uI (a ^^^ b) := by
 show IntKind.u64.wrap ((BitVec.ofInt 64 (uI a) ^^^ BitVec.ofInt 64 (uI b)).toNat : Int) = _
 rw [ofInt_uI, ofInt_uI]
 have e : ((a ^^^ b).toNat : Int) = uI (a ^^^ b) := by unfold uI; rfl
 rw [e]; exact wrap_uI _
theorem not_u (p : U) : bits .xor .u64 (if IntKind.u64.signed = true then -1 else IntKind.u64.max) (uI p) = uI (~~~p) := by
 have e : (if IntKind.u64.signed = true then (-1 : Int) else IntKind.u64.max) = uI (BitVec.allOnes 64) := by unfold uI; rfl
 rw [e, bits_xor_u]
 congr 1
theorem not_pl (A : Sol) {k : Nat} (hk : k < 8) : bits .xor .u64 (if IntKind.u64.signed = true then -1 else IntKind.u64.max) (pl A k) = pl (~~~A) k := by
 rw [pl_uI, pl_uI, not_u, plv_not _ _ hk]
theorem classes_len (St : List Cl) (s : Sol) : (classesS St s).length ≤ 512 := by
 rw [← clsP_all]
 exact Nat.le_trans (clsP_len St s _) (cellsS_len s)
attribute [local irreducible] stepsL classesS PaI PaF
set_option maxHeartbeats 8000000 in
theorem cavs_spec (s : Sol) (w : World) (hT : Tab w) : Calls Tryz.prog 39 #[solV s] w fun e w' => (∃ u, e = .returned u ∧ OwnSo w' w.heap.size u (cavsS s)) ∧ Below w.heap.size w w' := by
 obtain ⟨i0, hi, hz0, hz1, hz2⟩ := info_parts infoSol
 have HI0 := Lib.hid (And.intro hi (And.intro hz0 (And.intro hz1 hz2))); clear hi hz0 hz1 hz2
 obtain ⟨Cs, hCs⟩ : ∃ Cs, Cs = cavsS s := ⟨_, rfl⟩
 obtain ⟨n, hn⟩ : ∃ n, n = ~~~s := ⟨_, rfl⟩
 have HL : Hid (Cs = (classesS (stepsL true) n).filter cavB) := Lib.hid (by rw [hCs, hn]; rfl)
 have hnp : ∀ z, z < 8 → bits .xor .u64 (if IntKind.u64.signed = true then -1 else IntKind.u64.max) (pl s z) = pl n z := fun z hz => by rw [hn]; exact not_pl s hz
 rw [← hCs]
 clear hCs hn
 have HT := Lib.hid hT
 clear hT
 go_enter Tryz.func39, Tryz.ntmps39
 go_wp2_with fail
 obtain ⟨W0, hW0⟩ : ∃ W0, W0 = (w.alloc (.cells #[.int .u64 (pl s 0), .int .u64 (pl s 1), .int .u64 (pl s 2), .int .u64 (pl s 3), .int .u64 (pl s 4), .int .u64 (pl s 5), .int .u64 (pl s 6), .int .u64 (pl s 7)] 26)).alloc (.cells #[.int .u64 0, .int .u64 0, .int .u64 0, .int .u64 0, .int .u64 0, .int .u64 0, .int .u64 0, .int .u64 0] 26) := ⟨_, rfl⟩
 have b1 : Blk W0 w.heap.size #[.int .u64 (pl s 0), .int .u64 (pl s 1), .int .u64 (pl s 2), .int .u64 (pl s 3), .int .u64 (pl s 4), .int .u64 (pl s 5), .int .u64 (pl s 6), .int .u64 (pl s 7)] 26 := by subst hW0; exact (by repeat (first | with_reducible assumption | (refine Blk.at _ _ ?_; (simp; done)) | with_reducible refine Blk.alloc ?_ _ | with_reducible refine Blk.drew ?_ | with_reducible refine Blk.rowS ?_ _ | with_reducible refine Blk.rowO ?_ _ (by simp)))
 have b2 : Blk W0 (w.heap.size + 1) (mixZ 0 n 0) 26 := by subst hW0; rw [mixZ_start]; simp only [pl_zero]; exact Blk.at _ _ (by simp)
 have hbel : Below w.heap.size w W0 := by subst hW0; exact (by repeat (first | with_reducible exact bel_refl _ | with_reducible assumption | with_reducible refine bel_drewN ?_ _ | with_reducible refine bel_drew ?_ | with_reducible refine bel_alloc ?_ _ | with_reducible refine bel_row ?_ ?_ _ | with_reducible refine bel_set ?_ ?_ _ | refine bel_trans ?_ (by with_reducible assumption) | (simp; done) | (simp; omega)))
 have hsz0 : W0.heap.size = w.heap.size + 1 + 1 := by subst hW0; simp
 rw [← hW0]
 clear hW0
 have HB := Lib.hid (And.intro b1 (And.intro b2 (And.intro hbel hsz0))); clear b1 b2 hbel hsz0
 have HNP := Lib.hid hnp; clear hnp
 go_loopw [10] (fun iv wx => ∃ z : Nat, z ≤ 8 ∧ iv = .int .i64 z ∧ Hid (Blk wx (w.heap.size + 1) (mixZ 0 n z) 26 ∧ W0.grownBy wx (some (w.heap.size + 1)))) (fun iv _ => 8 - (intOf iv).toNat)
 case atStart => exact ⟨0, by omega, rfl, Lib.hid ⟨HB.out.2.1, gb_refl _ _⟩⟩
 case round =>
  obtain ⟨z, hz, rfl, HM⟩ := hrel
  by_cases hz8 : z < 8
  ·obtain ⟨BX, hgx⟩ := HM.out
   have cz : wr.cell? ⟨w.heap.size + 1, z, none⟩ = some (.int .u64 (pl 0 z)) := by rw [BX.cell, mixZ_get _ _ hz8]
   have B2 := HB.out.1.gb hgx (by simp)
   have sz : wr.cell? ⟨w.heap.size, z, none⟩ = some (.int .u64 (pl s z)) := by rw [B2.cell]; exact mixA_get (fun i => pl s i) hz8
   have fz := BX.free z
   have lx := BX.lt
   have ls := B2.lt
   have eo := HNP.out z hz8
   have BXH := Lib.hid (And.intro BX hgx); clear BX hgx HM B2
   go_wp2_with fail
   go_roundw
   case rel =>
    refine ⟨z + 1, by omega, by go_num, Lib.hid ⟨?_, gb_set BXH.out.2 _ rfl _⟩⟩
    rw [← mixZ_set _ _ hz8]
    exact BXH.out.1.set z _
   case measure => simp [intOf]; omega
  ·have hz9 : z = 8 := by omega
   have BX := HM.out.1
   rw [hz9, mixZ_end] at BX
   have hd8 : decide ((z : Int) < 8) = false := decide_eq_false (by omega)
   have hd9 : ¬ (z : Int) < 8 := by omega
   have hb := gb_bel HB.out.2.2.1 HM.out.2 (by omega)
   have hszr : W0.heap.size ≤ wr.heap.size := HM.out.2.size
   have HR := Lib.hid (And.intro BX hb)
   clear HM HB HNP BX hb hz9 hz8 hz
   go_upto_region 8 with fail
   have bN : Blk wr (w.heap.size + 1) #[.int .u64 (pl n 0), .int .u64 (pl n 1), .int .u64 (pl n 2), .int .u64 (pl n 3), .int .u64 (pl n 4), .int .u64 (pl n 5), .int .u64 (pl n 6), .int .u64 (pl n 7)] 26 := HR.out.1
   have HTA := Lib.hid (HT.out.grow HR.out.2)
   obtain ⟨L0, hL0⟩ : ∃ L0, L0 = classesS (stepsL true) n := ⟨_, rfl⟩
   rw [← hL0] at HL
   have HL0 := Lib.hid hL0
   have hw0 : w.heap.size + 1 < wr.heap.size := HR.out.1.lt
   have HBN := Lib.hid bN
   clear bN hL0
   refine wp_region_val (Below wr.heap.size) (fun L vs W => PaI w true n (L 1) (L 2) (vs 1) (vs 2) W ∧ Below wr.heap.size wr W) [Is (solV n), AnyV, AnyV, Is (.int .i64 (L0.length : Int)), Is (.int .i64 0)] (by kernel_rfl) (by kernel_rfl) rfl (Below.refl wr.heap.size) (fun _ _ _ => Below.trans) (stable_mem ⟨fun _ _ _ h _ => h, fun _ _ _ h _ => h, fun _ _ _ h _ => h, fun _ _ _ h _ => h, fun _ _ _ h _ => h, trivial⟩) wr (Below.drew (Below.refl _ _)) (And.intro (PaI.start _ _ _ _ _ _) (Below.drew (Below.refl _ _))) ?_
   refine val_cons ?_ (fun v0 => ?_)
   ·intro L vs w1 hvs hat hb hI hF; try simp [factsI, Region.binds, Is] at hF
    have hbg := hI.2
    have HI2 := Lib.hid hI; clear hI
    have BA := HBN.out.grow (show Below _ _ _ from hbg)
    have hc := BA.cell; have hl := BA.lt
    clear BA
    go_simp
    refine ⟨Below.refl _ _, ?_⟩
    first | (simpa [upd] using HI2.out) | (simpa [upd] using HI2.out.1)
   refine val_cons ?_ (fun v1 => ?_)
   ·intro L vs w1 hvs hat hb hI hF; try simp [factsI, Region.binds, Is] at hF
    have h1 : L 1 = false := hat.self
    have h2 := hat.later 40 2 (by kernel_rfl)
    have HI2 := Lib.hid hI; clear hI
    go_simp
    refine (steps_spec true _).mono ?_
    rintro e w2 ⟨u, rfl, hu, hb2⟩
    have hle := HI2.out.2.size
    refine ⟨_, rfl, hb2.mono hle, ?_, trivial⟩
    have := PaI.one (HI2.out.1.bel hb2) h2 (own_weak hu (by omega))
    simpa [upd, h2] using And.intro this (HI2.out.2.trans (hb2.mono hle))
   refine val_cons ?_ (fun v2 => ?_)
   ·intro L vs w1 hvs hat hb hI hF; try simp [factsI, Region.binds, Is] at hF
    have h1 := hat.ahead 40 1 (by kernel_rfl)
    have h2 : L 2 = false := hat.self
    have hv1 : vs 1 = v1 := hvs 1 (by omega)
    have HI2 := Lib.hid hI; clear hI
    have hO : OwnCl w1 w.heap.size v1 (stepsL true) := by rw [← hv1]; exact HI2.out.1.fst h1
    have HT1 := HTA.out.mono HI2.out.2 (by have := HTA.out.lt; omega)
    have HCC := Lib.hid (classes_own n true hO HT1)
    clear hO HT1
    go_simp
    refine HCC.out.mono ?_
    rintro e w2 ⟨⟨u, rfl, hu⟩, hb2⟩
    have hle := HI2.out.2.size
    refine ⟨_, rfl, hb2.mono hle, ?_, trivial⟩
    have := PaI.two (HI2.out.1.bel hb2) (own_weak hu (by omega))
    simpa [upd, h1] using And.intro this (HI2.out.2.trans (hb2.mono hle))
   refine val_cons ?_ (fun v3 => ?_)
   ·intro L vs w1 hvs hat hb hI hF; try simp [factsI, Region.binds, Is] at hF
    have h2 := hat.ahead 40 2 (by kernel_rfl)
    have hv2 : vs 2 = v2 := hvs 2 (by omega)
    have hy : OwnSo w1 w.heap.size v2 L0 := by rw [← hv2, HL0.out]; exact hI.1.snd h2
    obtain ⟨pv, cv, hv, _, _⟩ := own_shape' hy
    have HI2 := Lib.hid hI; clear hI hy hv2
    subst hv
    go_simp
    refine ⟨Below.refl _ _, ?_⟩
    first | (simpa [upd, h2] using HI2.out) | (simpa [upd, h2] using HI2.out.1)
   refine val_cons ?_ (fun v4 => ?_)
   ·intro L vs w1 hvs hat hb hI hF; try simp [factsI, Region.binds, Is] at hF
    have HI2 := Lib.hid hI; clear hI
    go_simp
    refine ⟨Below.refl _ _, ?_⟩
    first | (simpa [upd] using HI2.out) | (simpa [upd] using HI2.out.1)
   refine val_nil ?_
   intro vs w1 hvs hb hI hF
   simp [Is, Nat.forall_lt_succ_right] at hF
   have e0 := hF.1.1.1.1
   have e1 := hF.1.1.1.2
   have e2 := hF.1.1.2
   have e3 := hF.1.2
   have e4 := hF.2
   clear hF
   simp only [Act.put, List.setIfInBounds_toArray, List.set_cons_succ, List.set_cons_zero, e0, e3, e4]
   clear e0 e3 e4
   have hv2 : vs 2 = v2 := hvs 2 (by omega)
   have hO : OwnSo w1 w.heap.size v2 L0 := by rw [← hv2, HL0.out]; exact hI.1.snd rfl
   have hbw : Below w.heap.size w w1 := HR.out.2.trans (hI.2.mono (by omega))
   have hS := OwnSo.sl hO
   obtain ⟨a, c, rfl, hc, hm, hor⟩ := hS
   have HQ := Lib.hid (And.intro hbw hor)
   have hlt0 : L0.length ≤ 512 := by rw [HL0.out]; exact classes_len _ n
   have hne0 : Hid (∀ x ∈ L0, x ≠ 0) := Lib.hid (by rw [HL0.out]; exact fun x hx => classes_ne (steps_sym true) hx)
   clear hO hor hbw hI hb hvs hv2 e1 e2
   rw [List.length_map] at hc ⊢
   go_wp2_with fail
   obtain ⟨wB, hwB⟩ : ∃ wB, wB = w1 := ⟨_, rfl⟩
   rw [← hwB] at HQ ⊢
   clear hwB
   go_loopw [5, 24] (fun uv iv wx => ∃ i : Nat, i ≤ L0.length ∧ iv = .int .i64 i ∧ Hid (OwnSo wx wB.heap.size uv ((L0.take i).filter cavB) ∧ Below wB.heap.size wB wx)) (fun _ iv _ => L0.length - (intOf iv).toNat)
   case atStart => exact ⟨0, Nat.zero_le _, rfl, Lib.hid ⟨OwnSo.nil _ _, Below.refl _ _⟩⟩
   case round =>
    obtain ⟨i, hi, rfl, HI⟩ := hrel
    by_cases hlt : i < L0.length
    ·obtain ⟨x, hx⟩ : ∃ x, L0[i]? = some x := ⟨L0[i], by simp [hlt]⟩
     have hd0 : decide ((i : Int) < (L0.length : Int)) = true := decide_eq_true (by omega)
     have hi9 : (i : Int) < (L0.length : Int) := by omega
     rcases HQ.out.2 with h0 | ⟨bb, off, rfl, hCe⟩
     ·have := congrArg List.length h0
      rw [List.length_map] at this
      have h1 : L0.length = 0 := this
      omega
     have hCr := hCe.mono HI.out.2 hCe.1
     obtain ⟨q0, q1, q2, q3, q4, q5, q6, q7⟩ := sol_cells hCr hx
     have lq := hCr.1
     have hxn : x ≠ 0 := hne0.out x (List.mem_of_getElem? hx)
     have hbw : Below w.heap.size w wr := HQ.out.1.trans (HI.out.2.mono HQ.out.1.size)
     have hT9 : ∀ W, Below wr.heap.size wr W → Tab W := fun W hW => (HT.out.grow hbw).grow hW
     have HBD := Lib.hid (fun W hW => bounds_some hxn W (hT9 W hW))
     have hcav : cavB x = (decide (0 < (loS x).1) && decide (0 < (loS x).2.1) && decide (0 < (loS x).2.2) && decide ((hiS x).1 < 7) && decide ((hiS x).2.1 < 7) && decide ((hiS x).2.2 < 7)) := by unfold cavB; rfl
     have htk : (L0.take (i + 1)).filter cavB = (L0.take i).filter cavB ++ (if cavB x then [x] else []) := by
      rw [List.take_add_one, hx, List.filter_append]
      congr 1
      cases hq : cavB x <;> simp [hq]
     have htl : ((L0.take i).filter cavB).length ≤ 512 := Nat.le_trans (List.length_filter_le _ _) (by rw [List.length_take]; omega)
     obtain ⟨l0, hl0⟩ : ∃ l0, l0 = loS x := ⟨_, rfl⟩
     obtain ⟨h0, hh0⟩ : ∃ h0, h0 = hiS x := ⟨_, rfl⟩
     rw [← hl0, ← hh0] at HBD hcav
     obtain ⟨a1, a2, a3⟩ := l0
     obtain ⟨b1, b2, b3⟩ := h0
     simp only at hcav
     have HX := Lib.hid (And.intro htk hx)
     clear hl0 hh0 hxn hCr hx htk hbw hT9
     go_upto_region 11 with fail
     obtain ⟨wD, hwD⟩ : ∃ wD, wD = wr.alloc (.cells #[.int .u64 (pl x 0), .int .u64 (pl x 1), .int .u64 (pl x 2), .int .u64 (pl x 3), .int .u64 (pl x 4), .int .u64 (pl x 5), .int .u64 (pl x 6), .int .u64 (pl x 7)] 26) := ⟨_, rfl⟩
     have hbD : Below wr.heap.size wr wD := by rw [hwD]; exact bel_alloc (bel_refl wr) _
     have bD : Blk wD wr.heap.size #[.int .u64 (pl x 0), .int .u64 (pl x 1), .int .u64 (pl x 2), .int .u64 (pl x 3), .int .u64 (pl x 4), .int .u64 (pl x 5), .int .u64 (pl x 6), .int .u64 (pl x 7)] 26 := by rw [hwD]; exact Blk.new _ _ _
     rw [← hwD]
     have cD := bD.cell; have lD := bD.lt
     have HD := Lib.hid (And.intro hbD bD)
     clear hwD q0 q1 q2 q3 q4 q5 q6 q7 lq hbD bD
     go_wp2_with fail
     refine (HBD.out _ HD.out.1).mono ?_
     rintro e w5 ⟨rfl, hb5⟩
     have HB5 := Lib.hid hb5
     clear hb5 cD lD
     go_upto_region 12 with fail
     obtain ⟨wE, hwE⟩ : ∃ wE, wE = w5.alloc (.cells #[.int .i64 a1, .int .i64 a2, .int .i64 a3, .int .i64 b1, .int .i64 b2, .int .i64 b3] 62) := ⟨_, rfl⟩
     have bE : Blk wE w5.heap.size #[.int .i64 a1, .int .i64 a2, .int .i64 a3, .int .i64 b1, .int .i64 b2, .int .i64 b3] 62 := by rw [hwE]; exact Blk.new _ _ _
     have hbE : Below wr.heap.size wr wE := by rw [hwE]; exact bel_alloc (bel_trans HD.out.1 HB5.out) _
     have bX : Blk wE wr.heap.size #[.int .u64 (pl x 0), .int .u64 (pl x 1), .int .u64 (pl x 2), .int .u64 (pl x 3), .int .u64 (pl x 4), .int .u64 (pl x 5), .int .u64 (pl x 6), .int .u64 (pl x 7)] 26 := by rw [hwE]; exact (HD.out.2.grow HB5.out).alloc _
     rw [← hwE]
     have cE := bE.cell; have lE := bE.lt
     have cX := bX.cell; have lX := bX.lt
     have hO : OwnSo wE wB.heap.size _ _ := own_gb HI.out.1 hbE
     have hbB : Below wB.heap.size wB wE := HI.out.2.trans (hbE.mono HI.out.2.size)
     have hsB := hbB.size
     have HO := Lib.hid (And.intro hO hbB)
     clear hwE bE bX hbE hO hbB HI HD HB5 HBD
     cases d1 : decide (0 < a1) with
     | false =>
      have hq : cavB x = false := by rw [hcav]; simp [d1]
      have HK := Lib.hid (HX.out.1.trans (by rw [hq]; simp : _ = (L0.take i).filter cavB))
      clear hcav hq HX
      go_wp2_with fail
      go_roundw
      case rel => exact ⟨i + 1, by omega, by go_num, Lib.hid ⟨by rw [HK.out]; exact HO.out.1, HO.out.2⟩⟩
      case measure => simp [intOf]; omega
     | true =>
      cases d2 : decide (0 < a2) with
      | false =>
       have hq : cavB x = false := by rw [hcav]; simp [d1, d2]
       have HK := Lib.hid (HX.out.1.trans (by rw [hq]; simp : _ = (L0.take i).filter cavB))
       clear hcav hq HX
       go_wp2_with fail
       go_roundw
       case rel => exact ⟨i + 1, by omega, by go_num, Lib.hid ⟨by rw [HK.out]; exact HO.out.1, HO.out.2⟩⟩
       case measure => simp [intOf]; omega
      | true =>
       cases d3 : decide (0 < a3) with
       | false =>
        have hq : cavB x = false := by rw [hcav]; simp [d1, d2, d3]
        have HK := Lib.hid (HX.out.1.trans (by rw [hq]; simp : _ = (L0.take i).filter cavB))
        clear hcav hq HX
        go_wp2_with fail
        go_roundw
        case rel => exact ⟨i + 1, by omega, by go_num, Lib.hid ⟨by rw [HK.out]; exact HO.out.1, HO.out.2⟩⟩
        case measure => simp [intOf]; omega
       | true =>
        cases d4 : decide (b1 < 7) with
        | false =>
         have hq : cavB x = false := by rw [hcav]; simp [d1, d2, d3, d4]
         have HK := Lib.hid (HX.out.1.trans (by rw [hq]; simp : _ = (L0.take i).filter cavB))
         clear hcav hq HX
         go_wp2_with fail
         go_roundw
         case rel => exact ⟨i + 1, by omega, by go_num, Lib.hid ⟨by rw [HK.out]; exact HO.out.1, HO.out.2⟩⟩
         case measure => simp [intOf]; omega
        | true =>
         cases d5 : decide (b2 < 7) with
         | false =>
          have hq : cavB x = false := by rw [hcav]; simp [d1, d2, d3, d4, d5]
          have HK := Lib.hid (HX.out.1.trans (by rw [hq]; simp : _ = (L0.take i).filter cavB))
          clear hcav hq HX
          go_wp2_with fail
          go_roundw
          case rel => exact ⟨i + 1, by omega, by go_num, Lib.hid ⟨by rw [HK.out]; exact HO.out.1, HO.out.2⟩⟩
          case measure => simp [intOf]; omega
         | true =>
          cases d6 : decide (b3 < 7) with
          | false =>
           have hq : cavB x = false := by rw [hcav]; simp [d1, d2, d3, d4, d5, d6]
           have HK := Lib.hid (HX.out.1.trans (by rw [hq]; simp : _ = (L0.take i).filter cavB))
           clear hcav hq HX
           go_wp2_with fail
           go_roundw
           case rel => exact ⟨i + 1, by omega, by go_num, Lib.hid ⟨by rw [HK.out]; exact HO.out.1, HO.out.2⟩⟩
           case measure => simp [intOf]; omega
          | true =>
           have hq : cavB x = true := by rw [hcav]; simp [d1, d2, d3, d4, d5, d6]
           have HK := Lib.hid (HX.out.1.trans (by rw [hq]; rfl : _ = (L0.take i).filter cavB ++ [x]))
           clear hcav hq HX
           go_wp2_with (first
            | (at_builtin; refine wpList_append_own _ rfl _ _ 41 rfl wB.heap.size 26 i0 _ 8 64 Tryz.underlying41 HI0.out.1 HI0.out.2.1 HI0.out.2.2.1 HI0.out.2.2.2 rfl (by decide) _ _ _ rfl (HO.out.1.alloc _) ⟨wE.heap.size, 0, none⟩ 1 1 (solL x) rfl rfl (blk_newsS (Blk.new wE _ 26)) (fun y hy => by simp [solL] at hy; rcases hy with rfl | rfl | rfl | rfl | rfl | rfl | rfl | rfl <;> rfl) (by unfold maxLen; omega) (by omega) (by simp; omega) ?_; intro v' w7 hown' hgrow7 hnil7))
           go_roundw
           case rel =>
            refine ⟨i + 1, by omega, by go_num, Lib.hid ⟨?_, (HO.out.2.trans ((bel_alloc (bel_refl wE) _).mono hsB)).grown hgrow7 (by simp; omega) (fun j hj => (World.ownsRow.lt HO.out.1 j hj).1)⟩⟩
            rw [HK.out]
            unfold OwnSo
            rw [List.length_append, List.map_append, List.flatten_append]
            simpa using hown'
           case measure => simp [intOf]; omega
    ·obtain rfl : i = L0.length := by omega
     have hd0 : decide (((L0.length : Nat) : Int) < (L0.length : Int)) = false := by simp
     have hE := HI.out.1
     rw [List.take_length, ← HL.out] at hE
     have HE := Lib.hid (And.intro (own_weak hE HQ.out.1.size : OwnSo wr w.heap.size _ Cs) (HQ.out.1.trans (HI.out.2.mono HQ.out.1.size)))
     clear hE HI
     go_wp2_with fail
     go_ret
     exact ⟨⟨_, rfl, HE.out.1⟩, HE.out.2⟩
end Go.Proofs.YtkfimbonmnoglaaGreatDoor
end
section
namespace Go.Proofs.YtkfimbonmnoglaaGreatDoor
open Go.RowKit Go.Rel Go.Draw Go.Solid
set_option maxRecDepth 100000
attribute [local go_sem] Oper.semAt_some
theorem Cells.keep {w w' : World} {b off k : Nat} {xs : List (List Value)} {Wr : Nat → Prop} (h : Cells w b off k xs) (hk : KeepsBut Wr w w') (hn : ¬ Wr b) : Cells w' b off k xs := by
 refine ⟨Nat.lt_of_lt_of_le h.1 hk.1, fun i j u hu => ?_⟩
 have := h.2 i j u hu
 unfold World.cell? at this ⊢
 rw [hk.2 b h.1 hn]
 exact this
/-- the steps, as a slice of one's own -/
theorem steps_open {W : World} {base : Nat} {v : Value} {f : Bool} (h : OwnCl W base v (stepsL f)) : ∃ b of c, v = .slice (some ⟨b, of, none⟩) (stepsL f).length c ∧ base ≤ b ∧ (stepsL f).length ≤ c ∧ Cells W b of 3 ((stepsL f).map clL) := by
 rcases (OwnCl.sl h).cases with ⟨h0, _⟩ | ⟨b, of, c, rfl, hc, _, _, hC⟩
 ·have h1 := congrArg List.length h0
  rw [List.length_map] at h1
  have := (steps_size f).1
  rw [h1] at this
  exact absurd this (by decide)
 ·rw [List.length_map] at hc h ⊢
  exact ⟨b, of, c, rfl, (World.ownsRow.lt h b rfl).1, hc, hC⟩
def SkI (w : World) (s : Sol) (n : Nat) (W : World) : Prop := Below w.heap.size w W ∧ Blk W w.heap.size #[.int .u64 (pl s 0), .int .u64 (pl s 1), .int .u64 (pl s 2), .int .u64 (pl s 3), .int .u64 (pl s 4), .int .u64 (pl s 5), .int .u64 (pl s 6), .int .u64 (pl s 7)] 26 ∧ Blk W (w.heap.size + 1) #[.int .i64 (n : Int)] 3
theorem SkI.kept {w : World} {s : Sol} {n : Nat} {W W' : World} {r : Option Nat} (hI : SkI w s n W) (hg : W.grownBy W' r) (hr : ∀ k, r = some k → w.heap.size + 1 + 1 + 1 ≤ k) : SkI w s n W' := by
 obtain ⟨h1, h2, h3⟩ := hI
 refine ⟨h1.grown hg h1.size (fun k e => by have := hr k e; omega), h2.gb hg ?_, h3.gb hg ?_⟩
 all_goals (intro e; have := hr _ e.symm; omega)
theorem SkI.bel {w : World} {s : Sol} {n : Nat} {W W' : World} (hI : SkI w s n W) (hb : Below W.heap.size W W') : SkI w s n W' := hI.kept (gb_below (gb_refl _ none) hb) (fun k e => by cases e)
theorem SkI.set {w : World} {s : Sol} {n : Nat} {W : World} (hI : SkI w s n W) (m : Nat) : SkI w s m (W.setCell ⟨w.heap.size + 1, 0, none⟩ (.int .i64 (m : Int))) := by
 obtain ⟨h1, h2, h3⟩ := hI
 refine ⟨h1.grown (gb_set (gb_refl W (some (w.heap.size + 1))) _ rfl _) h1.size (fun k e => by cases e; omega), h2.gb (gb_set (gb_refl W (some (w.heap.size + 1))) _ rfl _) (by simp), ?_⟩
 exact h3.set 0 _
attribute [local irreducible] stepsL hasS addC skinP bareN cntB
set_option maxHeartbeats 8000000 in
theorem skin_spec {w : World} (s : Sol) (hT : Tab w) : Calls Tryz.prog 45 #[solV s] w fun e w' => e = .returned (.int .i64 (skinS s : Nat)) ∧ Below w.heap.size w w' := by
 obtain ⟨N0, hN0⟩ : ∃ N0, N0 = skinS s := ⟨_, rfl⟩
 rw [← hN0]
 have HL := Lib.hid hN0
 clear hN0
 have hgl := hT.lt
 have HS := Lib.hid hT
 clear hT
 refine (callsIn_wide (n := 9)).1 ?_
 refine callsIn_of_wp_marks Tryz.func45 rfl trivial ?_ rfl
 simp only [Tryz.ntmps45, List.size_toArray, List.length_cons, List.length_nil, Nat.reduceAdd, Nat.reduceSub, Array.replicate_succ, Array.replicate_zero, List.push_toArray, List.append_toArray, List.nil_append, List.cons_append]
 refine wpIn_wide.2 ?_
 go_wp2_with fail
 refine (cells_spec _ s).mono ?_
 rintro e w3 ⟨rfl, hw3⟩
 simp only [World.size_alloc] at hw3 ⊢
 have b5 : Blk w3 (w.heap.size + 1 + 1) #[.int .u64 (pl s 0), .int .u64 (pl s 1), .int .u64 (pl s 2), .int .u64 (pl s 3), .int .u64 (pl s 4), .int .u64 (pl s 5), .int .u64 (pl s 6), .int .u64 (pl s 7)] 26 := by subst hw3; exact Blk.at _ _ (by simp)
 have hsz3 : w3.heap.size = w.heap.size + 1 + 1 + 1 := by subst hw3; simp
 have hM : SkI w s (skinP s []) w3 := by
  rw [skinP_nil]
  refine ⟨by subst hw3; exact (by repeat (first | with_reducible exact bel_refl _ | with_reducible assumption | with_reducible refine bel_drewN ?_ _ | with_reducible refine bel_drew ?_ | with_reducible refine bel_alloc ?_ _ | with_reducible refine bel_row ?_ ?_ _ | with_reducible refine bel_set ?_ ?_ _ | refine bel_trans ?_ (by with_reducible assumption) | (simp; done) | (simp; omega))), ?_, ?_⟩
  ·subst hw3; exact (by repeat (first | with_reducible assumption | (refine Blk.at _ _ ?_; (simp; done)) | with_reducible refine Blk.alloc ?_ _ | with_reducible refine Blk.drew ?_ | with_reducible refine Blk.rowS ?_ _ | with_reducible refine Blk.rowO ?_ _ (by simp)))
  ·show Blk w3 _ #[.int .i64 0] _
   subst hw3; exact (by repeat (first | with_reducible assumption | (refine Blk.at _ _ ?_; (simp; done)) | with_reducible refine Blk.alloc ?_ _ | with_reducible refine Blk.drew ?_ | with_reducible refine Blk.rowS ?_ _ | with_reducible refine Blk.rowO ?_ _ (by simp)))
 have H3 := Lib.hid (And.intro b5 (And.intro hsz3 hM))
 have HT3 := Lib.hid (HS.out.grow hM.1)
 clear hw3 b5 hsz3 hM
 go_wp2_with fail
 refine (wpIn_wide (n := 9)).1 ?_
 refine wpIn_rangeFunc_C (α := GCl) rfl (by omega) (gf := 147) (lb := #[.pointer (some ⟨w.heap.size + 1 + 1, 0, none⟩)]) rfl trivial (enters_of Tryz.func147 (by kernel_rfl) rfl) (encs := fun y : GCl => #[clV y.1]) (wr := fun k => k = w.heap.size + 1) 0
  (fun W hbW _ => cells_seq (n := 9 - 1) (by omega) s (H3.out.1.grow hbW) (HT3.out.grow hbW) (by omega)) (fun r h1 h2 => by have := H3.out.2.1; omega) (fun _ => rfl)
  (fun (pre : List GCl) W => SkI w s (skinP s (pre.map fun y : GCl => y.1)) W) (fun _ (_ : List GCl) _ => False)
  (fun pre W W' r hi hg hr => hi.kept hg (fun k e => by have := hr k e; have := H3.out.2.1; omega)) (fun c pre W W' r hi hg hr => hi.elim) H3.out.2.2
  (fun z a' W => ∃ B8, w3.heap.size + 1 + 1 + 0 ≤ B8 ∧ Blk W B8 #[.int .i64 z.1.1, .int .i64 z.1.2.1, .int .i64 z.1.2.2] 60 ∧ a' = { tmps := #[solV s, .pointer (some ⟨w.heap.size, 0, none⟩), .int .i64 0, .pointer (some ⟨w.heap.size + 1, 0, none⟩), .pointer (some ⟨B8, 0, none⟩), undef, undef, solV s, .func (.func 147) #[] #[.pointer (some ⟨w.heap.size + 1 + 1, 0, none⟩)], clV z.1, undef, undef, undef, undef, undef, undef, undef, undef, undef, undef, undef, undef, undef, undef, undef, undef, undef, undef, undef, undef, undef, undef, undef, undef, undef, undef, undef, undef, undef], defers := [] })
  (fun z a' _ X Y row hs hg hr => by obtain ⟨B8, e1, e2, e3⟩ := hs; exact ⟨B8, e1, e2.gb hg (fun e => by have := hr _ e.symm; omega), e3⟩)
  ?assign ?body ?done ?stop
 case assign =>
  rintro lp pre z W K hM hsz hK
  have HI := Lib.hid hM; clear hM
  have hK' := fun a' W' => hK a' W'
  clear hK
  gi_wp2_with fail
  exact hK' _ _ (KeepsBut.alloc _ _ _) (HI.out.kept (World.grownBy_alloc _ _ none) (fun k e => by cases e)) ⟨W.heap.size, hsz, Blk.new _ _ _, rfl⟩
 case body =>
  rintro lp pre z a' W hsz hM ⟨B8, hB8, bB, rfl⟩ hlen
  have hM2 : SkI w s (skinP s (pre.map fun y : GCl => y.1)) W := hM
  have hsn : skinP s ((pre ++ [z]).map fun y : GCl => y.1) = skinP s (pre.map fun y : GCl => y.1) + bareN s z.1 := by rw [List.map_append]; exact skinP_snoc _ _ _
  have hlp : skinP s (pre.map fun y : GCl => y.1) ≤ 6 * 512 := by
   have h1 := skinP_le s (pre.map fun y : GCl => y.1)
   rw [List.length_map] at h1
   have h2 := cellsS_len s
   omega
  obtain ⟨q, hq⟩ : ∃ q, q = skinP s (pre.map fun y : GCl => y.1) := ⟨_, rfl⟩
  rw [← hq] at hM2 hsn hlp
  clear hM hq hlen
  obtain ⟨c, hc⟩ := z
  have HN := Lib.hid (And.intro hsn hc)
  have hin := fun d hd => add_in hc (steps_near true d hd)
  obtain ⟨x, y, z⟩ := c
  simp only at bB
  have hH3 := H3.out.2.1
  have HIN := Lib.hid hin
  have HM := Lib.hid (And.intro hM2 bB)
  clear hM2 bB hin hsn
  gi_wp2_with fail
  refine ⟨trivial, (CallsIn.inRound lp (callsIn_wide.2 (steps_spec true _))).mono ?_⟩
  rintro e w4 ⟨u, rfl, hu, hb4⟩
  obtain ⟨bs, of, cap, rfl, hbs, hcap, hC⟩ := steps_open hu
  have hI4 := HM.out.1.bel hb4
  have hB4 := HM.out.2.grow hb4
  have hs4 := hb4.size
  have HC := Lib.hid hC
  have HI0 : Hid (SkI w s (q + cntB s (x, y, z) 0) w4 ∧ Blk w4 B8 #[.int .i64 x, .int .i64 y, .int .i64 z] 60 ∧ KeepsBut (fun k => k = w.heap.size + 1) w4 w4) := Lib.hid ⟨by rw [cntB_zero]; exact hI4, hB4, KeepsBut.refl _ _⟩
  have HK4 : Hid (KeepsBut (fun k => k = w.heap.size + 1) W w4) := Lib.hid (.bel hb4)
  clear hu hb4 hI4 hB4 hC
  have hlen := (steps_size true).2
  gi_wp2_with fail
  gi_loopw [12] (fun iv wx => ∃ j : Nat, j ≤ (stepsL true).length ∧ iv = .int .i64 j ∧ Hid (SkI w s (q + cntB s (x, y, z) j) wx ∧ Blk wx B8 #[.int .i64 x, .int .i64 y, .int .i64 z] 60 ∧ KeepsBut (fun k => k = w.heap.size + 1) w4 wx)) (fun iv _ => (stepsL true).length - (intOf iv).toNat)
  case atStart => exact ⟨0, Nat.zero_le _, rfl, HI0⟩
  case round =>
   clear HI0
   obtain ⟨j, hj, rfl, HI⟩ := hrel
   by_cases hjn : j < (stepsL true).length
   ·obtain ⟨d, hd⟩ : ∃ d, (stepsL true)[j]? = some d := ⟨(stepsL true)[j], by simp [hjn]⟩
    obtain ⟨d1, d2, d3⟩ := d
    have e123 := HIN.out _ (List.mem_of_getElem? hd)
    obtain ⟨e1, e2, e3⟩ := e123
    simp only at e1 e2 e3
    have hd0 : decide ((j : Int) < ((stepsL true).length : Int)) = true := decide_eq_true (by omega)
    have hj9 : (j : Int) < ((stepsL true).length : Int) := by omega
    have hCr := HC.out.keep HI.out.2.2 (by omega)
    have q1 : wr.cell? ⟨bs, of + j * 3, none⟩ = some (.int .i64 d1) := hCr.2 j 0 _ (by simp [hd, clL])
    have q2 : wr.cell? ⟨bs, of + j * 3 + 1, none⟩ = some (.int .i64 d2) := hCr.2 j 1 _ (by simp [hd, clL])
    have q3 : wr.cell? ⟨bs, of + j * 3 + 2, none⟩ = some (.int .i64 d3) := hCr.2 j 2 _ (by simp [hd, clL])
    have lq := hCr.1
    have cX := HI.out.2.1.cell; have lX := HI.out.2.1.lt
    have c1 := HI.out.1.2.1.cell; have l1 := HI.out.1.2.1.lt
    have hsu := cntB_succ (s := s) (c := (x, y, z)) hd
    obtain ⟨ad, had⟩ : ∃ ad, ad = addC (x, y, z) (d1, d2, d3) := ⟨_, rfl⟩
    rw [← had] at e1 e2 e3 hsu
    obtain ⟨f1, f2, f3⟩ := ad
    simp only at e1 e2 e3
    have HH := Lib.hid (fun W => has_spec s (f1, f2, f3) W)
    have hcl := cntB_le s (x, y, z) j
    obtain ⟨k, hk⟩ : ∃ k, k = cntB s (x, y, z) j := ⟨_, rfl⟩
    rw [← hk] at HI hsu hcl
    have hw : IntKind.i64.wrap (((q + k : Nat) : Int) + 1) = ((q + (k + 1) : Nat) : Int) := by rw [IntWalk.i64_in _ ⟨by omega, by omega⟩]; omega
    clear hCr hd had hk
    cases hq : hasS s (f1, f2, f3) with
    | true =>
     rw [hq] at HH hsu
     have HE := Lib.hid (hsu.trans (if_pos rfl))
     clear hsu
     gi_wp2_with fail
     refine ⟨trivial, (CallsIn.inRound lp (callsIn_wide.2 (HH.out _))).mono ?_⟩
     rintro e w6 ⟨rfl, hb6⟩
     have hb : Below wr.heap.size wr w6 := bel_trans (bel_alloc (bel_refl wr) _) hb6
     have H6 := Lib.hid (And.intro (HI.out.1.bel hb) (And.intro (HI.out.2.1.grow hb) (KeepsBut.trans HI.out.2.2 (.bel hb))))
     clear q1 q2 q3 lq cX lX c1 l1 hb hb6 HI
     gi_wp2_with fail
     go_roundw
     case rel => exact ⟨j + 1, by omega, by go_num, Lib.hid ⟨by rw [HE.out]; exact H6.out.1, H6.out.2⟩⟩
     case measure => simp [intOf]; omega
    | false =>
     rw [hq] at HH hsu
     have HE := Lib.hid (hsu.trans (if_neg (by decide)))
     clear hsu
     gi_wp2_with fail
     refine ⟨trivial, (CallsIn.inRound lp (callsIn_wide.2 (HH.out _))).mono ?_⟩
     rintro e w6 ⟨rfl, hb6⟩
     have hb : Below wr.heap.size wr w6 := bel_trans (bel_alloc (bel_refl wr) _) hb6
     have H6 := Lib.hid (And.intro (HI.out.1.bel hb) (And.intro (HI.out.2.1.grow hb) (KeepsBut.trans HI.out.2.2 (.bel hb))))
     clear q1 q2 q3 lq cX lX c1 l1 hb hb6 HI
     have c9 := H6.out.1.2.2.cell; have l9 := H6.out.1.2.2.lt; have f9 := H6.out.1.2.2.free 0
     gi_wp2_with fail
     go_roundw
     case rel =>
      refine ⟨j + 1, by omega, by go_num, Lib.hid ⟨?_, ?_, ?_⟩⟩
      ·rw [HE.out]; exact H6.out.1.set _
      ·exact H6.out.2.1.gb (gb_set (gb_refl w6 (some (w.heap.size + 1))) _ rfl _) (by simp; omega)
      ·exact KeepsBut.trans H6.out.2.2 (.gb (gb_set (gb_refl w6 (some (w.heap.size + 1))) _ rfl _) (fun r e => by cases e; rfl))
     case measure => simp [intOf]; omega
   ·obtain rfl : j = (stepsL true).length := by omega
    have hd0 : decide ((((stepsL true).length : Nat) : Int) < ((stepsL true).length : Int)) = false := by simp
    gi_wp2_with fail
    refine ⟨KeepsBut.trans HK4.out HI.out.2.2, ?_⟩
    show SkI w s (skinP s _) wr
    rw [HN.out.1, ← cntB_end]
    exact HI.out.1
 case done =>
  rintro D xs W hD hS hM hK
  have hH3 := H3.out.2.1
  have hM2 : SkI w s (skinP s (xs.map fun y : GCl => y.1)) W := hM
  clear hM
  have hS2 : (xs.map fun y : GCl => y.1) = cellsS s := hS
  rw [hS2, skinP_all, ← HL.out] at hM2
  obtain ⟨h1, _, h3⟩ := hM2
  have lD := (Array.getElem?_eq_some_iff.1 hK).1
  have c1 := h3.cell; have l1 := h3.lt
  have HZ := Lib.hid (And.intro h1 (And.intro hK hD))
  clear h1 h3 hK hD hS hS2
  gi_wp2_with fail
  go_wp2_with fail
  refine ⟨by simp, .inl ⟨_, _, rfl, run_takeDeferred HZ.out.2.1, ?_⟩⟩
  have hgP := grownBy_putObj' W D (.deferred none)
  exact ⟨.int .i64 (N0 : Int), by simp [results, Tryz.results45, go_sem], rfl, HZ.out.1.grown hgP HZ.out.1.size (fun k e => by cases e; have := HZ.out.2.2; omega)⟩
 case stop =>
  rintro D c pre W hD hS hM hK
  exact hM.elim
end Go.Proofs.YtkfimbonmnoglaaGreatDoor
end
