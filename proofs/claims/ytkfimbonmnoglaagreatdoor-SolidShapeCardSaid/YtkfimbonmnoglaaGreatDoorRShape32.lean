import Derived.Test.YtkfimbonmnoglaaGreatDoorRShape30
import Derived.Test.YtkfimbonmnoglaaGreatDoorRShape31
import Derived.Deep.Cut
/-
  Given contracts of functions of the program, and laws for them, one behind the other.
-/
set_option linter.unusedVariables false
set_option linter.unusedSimpArgs false
set_option linter.unusedSectionVars false
section
namespace Go.Proofs.YtkfimbonmnoglaaGreatDoor
open Go.RowKit Go.Rel Go.Draw Go.Solid
set_option maxRecDepth 100000
/-- the solid that a block holds -/
def solAt (W : World) (g : Nat) : Sol := match W.heap[g]? with
 | some (.cells cs _ _) => mkS fun z => BitVec.ofInt 64 (intOf (cs[z]?.getD undef))
 | _ => 0
theorem pl_nat (s : Sol) (z : Nat) : pl s z = ((plv s z).toNat : Int) := by rw [pl_uI]; unfold uI; rfl
theorem solAt_eq {W : World} {g : Nat} {s : Sol} (h : Blk W g #[.int .u64 (pl s 0), .int .u64 (pl s 1), .int .u64 (pl s 2), .int .u64 (pl s 3), .int .u64 (pl s 4), .int .u64 (pl s 5), .int .u64 (pl s 6), .int .u64 (pl s 7)] 26) : solAt W g = s := by
 unfold Blk at h
 unfold solAt
 rw [h]
 show (mkS fun z => BitVec.ofInt 64 (intOf ((#[.int .u64 (pl s 0), .int .u64 (pl s 1), .int .u64 (pl s 2), .int .u64 (pl s 3), .int .u64 (pl s 4), .int .u64 (pl s 5), .int .u64 (pl s 6), .int .u64 (pl s 7)] : Array Value)[z]?.getD undef))) = s
 apply sol_ext
 intro k hk
 have h1 := getZ s hk
 apply BitVec.eq_of_getLsbD_eq
 intro i hi
 rw [plv_bit' _ _ hi, mkS_bit _ hk hi, h1]
 show (BitVec.ofInt 64 (pl s k)).getLsbD i = _
 rw [pl_nat, BitVec.ofInt_natCast, BitVec.ofNat_toNat, BitVec.setWidth_eq]
theorem bel_rowB {B : Nat} {w W : World} (h : Below B w W) {g : Nat} (hg : B ≤ g) (cs : Array Value) : Below B w (W.setRow g cs) :=
 ⟨h.os, h.tape, h.output, by rw [setRow_size]; exact h.size, fun k hk => (setRow_other W g k cs (by omega)).trans (h.block k hk)⟩
theorem own_setRow {W : World} {base g : Nat} {v : Value} {l : List Sol} (h : OwnSo W base v l) (hg : g < base) (cs : Array Value) : OwnSo (W.setRow g cs) base v l :=
 World.ownsRow.kept (row := some g) h (gb_row (gb_refl W _) _) (.inr fun e => by have := World.ownsRow.lt h _ e; omega)
/-- append of one solid: what else is written -/
theorem app_one {W : World} {base b : Nat} {v : Value} {xs : List Sol} {s : Sol} (hO : OwnSo W base v xs) (hB : Blk W b #[.int .u64 (pl s 0), .int .u64 (pl s 1), .int .u64 (pl s 2), .int .u64 (pl s 3), .int .u64 (pl s 4), .int .u64 (pl s 5), .int .u64 (pl s 6), .int .u64 (pl s 7)] 26) (hl : xs.length ≤ 100000) (hbase : base ≤ W.heap.size) :
  ∃ v' W', (Builtin.append_ #[41, 41] 41 #[v, .slice (some ⟨b, 0, none⟩) 1 1]).run Tryz.prog W = .ok v' W' ∧ OwnSo W' base v' (xs ++ [s]) ∧ Below base W W' ∧ W.grownBy W' v.ownBlock := by
 obtain ⟨i0, hi, hz0, hz1, hz2⟩ := info_parts infoSol
 have hlt := World.ownsRow.lt hO
 obtain ⟨v', w', hr, hO', hgr, _⟩ := run_append_own (P := Tryz.prog) W base 41 41 26 i0 _ 8 64 Tryz.underlying41 hi hz0 hz1 hz2 rfl (by decide) _ xs.length _ hO ⟨b, 0, none⟩ 1 1 (solL s) rfl (blk_newsS hB) (fun y hy => by simp [solL] at hy; rcases hy with rfl | rfl | rfl | rfl | rfl | rfl | rfl | rfl <;> rfl) (by unfold maxLen; omega) (by omega) hbase
 refine ⟨v', w', hr, ?_, (Below.refl _ _).grown hgr hbase (fun k hk => (hlt k hk).1), hgr⟩
 unfold OwnSo
 rw [List.length_append, List.map_append, List.flatten_append]
 simpa using hO'
def bitOf : Value → Nat
 | .bool true => 1
 | _ => 0
def lenOf' : Value → Nat
 | .slice _ n _ => n
 | _ => 0
theorem OwnSo.len {W : World} {base : Nat} {v : Value} {l : List Sol} (h : OwnSo W base v l) : lenOf' v = l.length := by
 obtain ⟨a, c, hv, _⟩ := h.sl.opened
 rw [hv]; rfl
theorem with_zero (c : Cl) : withS 0 c = Go.Solid.one (bitN c) := by unfold withS; simp
theorem passStep_has {f : Bool} {ins : List Cl} {p : Sol × Bool} {c : Cl} (h : hasS p.1 c = true) : passStep f ins p c = p := if_pos h
theorem passStep_near {f : Bool} {ins : List Cl} {p : Sol × Bool} {c : Cl} (h : hasS p.1 c = false) (k : ins.any (fun e => nearC f c e) = true) : passStep f ins p c = (withS p.1 c, true) := by
 unfold passStep
 rw [if_neg (by rw [h]; decide), if_pos k]; rfl
theorem passStep_far {f : Bool} {ins : List Cl} {p : Sol × Bool} {c : Cl} (h : hasS p.1 c = false) (k : ins.any (fun e => nearC f c e) = false) : passStep f ins p c = p := by
 unfold passStep
 rw [if_neg (by rw [h]; decide), if_neg (by rw [k]; decide)]
theorem nearC_eq (f : Bool) (a b : Cl) : nearC f a b = ((f && decide ((farC a b).1 = 1)) || (!f && decide ((farC a b).2 = 1))) := rfl
attribute [local irreducible] solAt passQ nearQ nearC farC GrowI classesS partS cutS withS cellsS countS hasS passStep stepsL
set_option maxHeartbeats 32000000 in
theorem refClasses_true (s : Sol) (w : World) : Calls Tryz.prog 108 #[solV s, .bool true] w fun e w' => ∃ u, e = .returned u ∧ OwnSo w' w.heap.size u (classesS (stepsL true) s) ∧ Below w.heap.size w w' := by
 have HCl := Lib.hid fun x W => refCells_open x W
 have HWi := Lib.hid fun x c hc W => refWith_spec x c hc W
 have HHa := Lib.hid fun x c W => refHas_spec x c W
 have HFa := Lib.hid fun a b ha hb W => refFar_spec a b ha hb W
 have HLe := Lib.hid fun a b W => refLess_spec a b W
 have HZs := Lib.hid zero_sols
 obtain ⟨R, hR⟩ : ∃ R, R = classesS (stepsL true) s := ⟨_, rfl⟩
 rw [← hR]
 have HR := Lib.hid hR
 have h512 := Lib.hid (count_512 s)
 clear hR
 go_enter Tryz.func108, Tryz.ntmps108
 go_wp2_with fail
 obtain ⟨W0, hW0⟩ : ∃ W0, W0 = (w.alloc (.cells #[.int .u64 (pl s 0), .int .u64 (pl s 1), .int .u64 (pl s 2), .int .u64 (pl s 3), .int .u64 (pl s 4), .int .u64 (pl s 5), .int .u64 (pl s 6), .int .u64 (pl s 7)] 26)).alloc (.cells #[.int .u64 (pl s 0), .int .u64 (pl s 1), .int .u64 (pl s 2), .int .u64 (pl s 3), .int .u64 (pl s 4), .int .u64 (pl s 5), .int .u64 (pl s 6), .int .u64 (pl s 7)] 26) := ⟨_, rfl⟩
 have HB : Hid (Blk W0 (w.heap.size + 1) #[.int .u64 (pl s 0), .int .u64 (pl s 1), .int .u64 (pl s 2), .int .u64 (pl s 3), .int .u64 (pl s 4), .int .u64 (pl s 5), .int .u64 (pl s 6), .int .u64 (pl s 7)] 26 ∧ Below w.heap.size w W0) := Lib.hid (by rw [hW0]; exact ⟨Blk.at _ _ (by simp), (by repeat (first | with_reducible exact bel_refl _ | with_reducible assumption | with_reducible refine bel_drewN ?_ _ | with_reducible refine bel_drew ?_ | with_reducible refine bel_alloc ?_ _ | with_reducible refine bel_row ?_ ?_ _ | with_reducible refine bel_set ?_ ?_ _ | refine bel_trans ?_ (by with_reducible assumption) | (simp; done) | (simp; omega)))⟩)
 rw [← hW0]
 clear hW0
 go_loopw [6] (fun ov wx => ∃ (L : Sol) (acc : List Sol), Hid ((acc = [] → ov = .slice none 0 0) ∧ R = acc ++ classesS (stepsL true) L ∧ acc.length + countS L ≤ 512 ∧ OwnSo wx (w.heap.size + 1 + 1) ov acc ∧ Blk wx (w.heap.size + 1) #[.int .u64 (pl L 0), .int .u64 (pl L 1), .int .u64 (pl L 2), .int .u64 (pl L 3), .int .u64 (pl L 4), .int .u64 (pl L 5), .int .u64 (pl L 6), .int .u64 (pl L 7)] 26 ∧ Below w.heap.size w wx)) (fun ov _ => 513 - lenOf' ov)
 case atStart => exact ⟨s, [], Lib.hid ⟨fun _ => rfl, by rw [HR.out]; rfl, by have := h512.out; simpa using this, OwnSo.nil _ _, HB.out⟩⟩
 case round =>
  clear HB HR h512
  obtain ⟨L, acc, HM⟩ := hrel
  have cl := HM.out.2.2.2.2.1.cell; have ll := HM.out.2.2.2.2.1.lt
  by_cases hL : L = 0
  ·have hz : (L == 0#512) = true := beq_iff_eq.2 hL
   have hRE : Hid (R = acc) := Lib.hid (by rw [HM.out.2.1, hL, cls_zero, List.append_nil])
   go_wp2_with fail
   go_ret
   exact ⟨_, rfl, by rw [hRE.out]; exact own_weak HM.out.2.2.2.1 (by omega), HM.out.2.2.2.2.2⟩
  ·have hz : (L == 0#512) = false := beq_eq_false_iff_ne.2 hL
   obtain ⟨c, tl, hct, hc⟩ := cells_ne hL
   have hcin := has_in hc
   have HCLS := Lib.hid (cls_step (stepsL true) hct)
   have HLS := Lib.hid (cut_less (St := stepsL true) hc)
   have hc0 : (cellsS L)[0]? = some c := by rw [hct]; rfl
   have hn0 : 0 < (cellsS L).length := by rw [hct]; simp
   have hn512 := cells512 L
   obtain ⟨c0, c1, c2⟩ := c
   have HC1 := Lib.hid fun W => HCl.out L W
   have HW1 := Lib.hid fun W => HWi.out 0 (c0, c1, c2) hcin W
   rw [with_zero] at HW1
   have HGI := Lib.hid (growI_start (f := true) hc)
   obtain ⟨K0, hK0⟩ : ∃ K, K = Go.Solid.one (bitN (c0, c1, c2)) := ⟨_, rfl⟩
   rw [← hK0] at HW1 HGI
   obtain ⟨n, hn⟩ : ∃ n, n = (cellsS L).length := ⟨_, rfl⟩
   rw [← hn] at HC1 hn0 hn512
   have HN := Lib.hid hn
   have hnI : (0 : Int) < (n : Int) := by omega
   have HC0 := Lib.hid hc0
   clear hct hc hc0 hK0 hn hL hn0
   go_wp2_with fail
   clear cl ll
   refine (HC1.out _).mono ?_
   rintro e w1 ⟨⟨a1, c1', rfl, hO⟩, hb⟩
   obtain ⟨b1, o1, rfl, hCc, hbb⟩ := hO.at HC0.out
   have HA := Lib.hid (And.intro (own_wide HM.out.2.2.2.1 hb) (And.intro (HM.out.2.2.2.2.1.grow hb) (And.intro hCc (bel_trans HM.out.2.2.2.2.2 hb))))
   obtain ⟨z0, z1, z2⟩ := cl_cells hCc HC0.out
   simp only [Nat.zero_mul, Nat.add_zero] at z0 z1 z2
   have lz := hCc.1
   clear hO hCc hbb hb
   go_wp2_with fail
   clear z0 z1 z2 lz
   have HWz := HW1
   rw [zero_solV] at HWz
   refine (HWz.out _).mono ?_
   rintro e w2 ⟨rfl, hb⟩
   have HA2 := Lib.hid (And.intro (own_wide HA.out.1 hb) (And.intro (HA.out.2.1.grow hb) (And.intro (HA.out.2.2.1.mono hb HA.out.2.2.1.1) (bel_trans HA.out.2.2.2 hb))))
   obtain ⟨wA, hwA⟩ : ∃ x, x = w2.alloc (.cells #[.int .u64 (pl K0 0), .int .u64 (pl K0 1), .int .u64 (pl K0 2), .int .u64 (pl K0 3), .int .u64 (pl K0 4), .int .u64 (pl K0 5), .int .u64 (pl K0 6), .int .u64 (pl K0 7)] 26) := ⟨_, rfl⟩
   obtain ⟨g8, hg8⟩ : ∃ x, x = w2.heap.size := ⟨_, rfl⟩
   have HK : Hid (Blk wA g8 #[.int .u64 (pl K0 0), .int .u64 (pl K0 1), .int .u64 (pl K0 2), .int .u64 (pl K0 3), .int .u64 (pl K0 4), .int .u64 (pl K0 5), .int .u64 (pl K0 6), .int .u64 (pl K0 7)] 26 ∧ Below g8 w2 wA) := Lib.hid (by
    rw [hwA, hg8]
    exact ⟨Blk.new _ _ _, bel_alloc (bel_refl w2) _⟩)
   have HG := Lib.hid hg8
   go_upto_region 6 with fail
   rw [← hwA, ← hg8]
   clear hwA hg8 hb HA
   go_wp2_with fail
   go_loopw [9] (fun gv wx => ∃ (K : Sol) (g : Bool), gv = .bool g ∧ Hid (GrowI true L (c0, c1, c2) K g ∧ Blk wx g8 #[.int .u64 (pl K 0), .int .u64 (pl K 1), .int .u64 (pl K 2), .int .u64 (pl K 3), .int .u64 (pl K 4), .int .u64 (pl K 5), .int .u64 (pl K 6), .int .u64 (pl K 7)] 26 ∧ Below g8 w2 wx)) (fun gv wx => 2 * countS (cutS L (solAt wx g8)) + bitOf gv)
   case atStart => exact ⟨K0, true, rfl, Lib.hid ⟨HGI.out, HK.out⟩⟩
   case round =>
    clear HK HGI
    obtain ⟨K, g, rfl, HQ⟩ := hrel
    cases g with
    | false =>
     have HPE := Lib.hid (growI_end HQ.out.1)
     obtain ⟨P, hP⟩ : ∃ P, P = partS (stepsL true) L (c0, c1, c2) := ⟨_, rfl⟩
     rw [← hP] at HPE HCLS HLS
     have hKP : K = P := HPE.out
     subst hKP
     have hbw : Below w2.heap.size w2 wr := by rw [← HG.out]; exact HQ.out.2.2
     have HE := Lib.hid (And.intro (own_wide HA2.out.1 hbw) (And.intro (HA2.out.2.1.grow hbw) (And.intro HQ.out.2.1 (bel_trans HA2.out.2.2.2 hbw))))
     have hacc := HM.out.2.2.1
     have hls := HLS.out
     obtain ⟨D, hD⟩ : ∃ D, D = cutS L K := ⟨_, rfl⟩
     rw [← hD] at hls HCLS
     have hcut : L &&& ~~~K = D := by rw [hD, cutS_eq]
     have HLd := Lib.hid fun W => HLe.out L K W
     rw [hcut] at HLd
     have HRN : Hid (R = (acc ++ [K]) ++ classesS (stepsL true) D) := Lib.hid (by rw [HM.out.2.1, HCLS.out]; simp)
     have HLEN := Lib.hid (show (acc ++ [K]).length + countS D ≤ 512 by rw [List.length_append]; simp only [List.length_cons, List.length_nil]; omega)
     have hal : acc.length + 1 ≤ 512 := by omega
     have HAL := Lib.hid hal
     have HOL := Lib.hid HM.out.2.2.2.1.len
     clear hP hbw hD hcut hacc hls hal HPE HQ HLS HM
     obtain ⟨wE, hwE⟩ : ∃ x, x = wr := ⟨_, rfl⟩
     rw [← hwE] at HE ⊢
     clear hwE
     have hg8b : w.heap.size + 1 < g8 := by rw [HG.out]; exact HA2.out.2.1.lt
     have hbx := HE.out.2.2.2
     have hsz2 : w.heap.size + 1 + 1 ≤ wE.heap.size := HE.out.2.1.lt
     obtain ⟨v2, W2, hr2, hO2, hb2, hgr2⟩ := app_one (World.ownsRow.alloc HE.out.1 (.cells #[.int .u64 (pl K 0), .int .u64 (pl K 1), .int .u64 (pl K 2), .int .u64 (pl K 3), .int .u64 (pl K 4), .int .u64 (pl K 5), .int .u64 (pl K 6), .int .u64 (pl K 7)] 26)) (Blk.new wE #[.int .u64 (pl K 0), .int .u64 (pl K 1), .int .u64 (pl K 2), .int .u64 (pl K 3), .int .u64 (pl K 4), .int .u64 (pl K 5), .int .u64 (pl K 6), .int .u64 (pl K 7)] 26) (by have := HAL.out; omega) (by simp; omega)
     have HR2 := Lib.hid hr2
     have hb22 := hb2.mono (Nat.le_succ (w.heap.size + 1))
     have HF : Hid (OwnSo W2 (w.heap.size + 1 + 1) v2 (acc ++ [K]) ∧ Blk W2 (w.heap.size + 1) #[.int .u64 (pl L 0), .int .u64 (pl L 1), .int .u64 (pl L 2), .int .u64 (pl L 3), .int .u64 (pl L 4), .int .u64 (pl L 5), .int .u64 (pl L 6), .int .u64 (pl L 7)] 26 ∧ Blk W2 g8 #[.int .u64 (pl K 0), .int .u64 (pl K 1), .int .u64 (pl K 2), .int .u64 (pl K 3), .int .u64 (pl K 4), .int .u64 (pl K 5), .int .u64 (pl K 6), .int .u64 (pl K 7)] 26 ∧ Below w.heap.size w W2) := Lib.hid ⟨hO2, (HE.out.2.1.alloc _).below hb2 (by omega), (HE.out.2.2.1.alloc _).gb hgr2 (fun e => by have := World.ownsRow.lt HA2.out.1 _ e.symm; rw [← HG.out] at this; omega), (bel_alloc hbx _).trans (hb2.mono (by omega))⟩
     have ck := HE.out.2.2.1.cell; have lk := HE.out.2.2.1.lt
     clear hbx hsz2 hr2 hO2 hb2 hb22 hgr2
     go_upto_region 24 with (first | (at_builtin; refine wpList_append_run rfl _ _ _ _ rfl _ _ rfl rfl HR2.out ?_))
     clear ck lk
     have cl := HF.out.2.1.cell; have ll := HF.out.2.1.lt
     have ck := HF.out.2.2.1.cell; have lk := HF.out.2.2.1.lt
     go_wp2_with fail
     clear cl ll ck lk
     refine (HLd.out _).mono ?_
     rintro e w7 ⟨rfl, hb⟩
     have k2 := HF.out.2.1.grow hb
     have r2 := k2.row; have l2 := k2.lt
     have HX : Hid (OwnSo (w7.setRow (w.heap.size + 1) #[.int .u64 (pl D 0), .int .u64 (pl D 1), .int .u64 (pl D 2), .int .u64 (pl D 3), .int .u64 (pl D 4), .int .u64 (pl D 5), .int .u64 (pl D 6), .int .u64 (pl D 7)]) (w.heap.size + 1 + 1) v2 (acc ++ [K]) ∧ Blk (w7.setRow (w.heap.size + 1) #[.int .u64 (pl D 0), .int .u64 (pl D 1), .int .u64 (pl D 2), .int .u64 (pl D 3), .int .u64 (pl D 4), .int .u64 (pl D 5), .int .u64 (pl D 6), .int .u64 (pl D 7)]) (w.heap.size + 1) #[.int .u64 (pl D 0), .int .u64 (pl D 1), .int .u64 (pl D 2), .int .u64 (pl D 3), .int .u64 (pl D 4), .int .u64 (pl D 5), .int .u64 (pl D 6), .int .u64 (pl D 7)] 26 ∧ Below w.heap.size w (w7.setRow (w.heap.size + 1) #[.int .u64 (pl D 0), .int .u64 (pl D 1), .int .u64 (pl D 2), .int .u64 (pl D 3), .int .u64 (pl D 4), .int .u64 (pl D 5), .int .u64 (pl D 6), .int .u64 (pl D 7)])) := Lib.hid ⟨own_setRow (own_wide HF.out.1 hb) (by omega) _, k2.rowS _, bel_row (bel_trans HF.out.2.2.2 hb) (by omega) _⟩
     rw [← k2.rw]
     clear k2 hb hg8b
     go_wp2_with fail
     go_roundw
     case rel => exact ⟨D, acc ++ [K], Lib.hid ⟨fun e => absurd e (by simp), HRN.out, HLEN.out, HX.out⟩⟩
     case measure =>
      rw [HX.out.1.len, HOL.out, List.length_append]
      have := HAL.out
      simp only [List.length_cons, List.length_nil]
      omega
    | true =>
     have hin := HCl
     have HCK := Lib.hid fun W => HCl.out K W
     have HPS := Lib.hid (growI_pass HQ.out.1)
     have hPE := HPS.out
     rw [← HN.out] at hPE
     have HPN := Lib.hid hPE
     have hm512 := cells512 K
     obtain ⟨m, hm⟩ : ∃ m, m = (cellsS K).length := ⟨_, rfl⟩
     rw [← hm] at HCK hm512
     have HM9 := Lib.hid hm
     have HSA := Lib.hid (solAt_eq HQ.out.2.1)
     have HQ0 := Lib.hid (And.intro HQ.out.2.1 HQ.out.2.2)
     clear hin hm hPE HPS HQ
     have ck := HQ0.out.1.cell; have lk := HQ0.out.1.lt
     go_wp2_with fail
     clear ck lk
     refine (HCK.out _).mono ?_
     rintro e w3 ⟨⟨a2, c2', rfl, hO⟩, hb⟩
     obtain ⟨N3, hN3⟩ : ∃ N, N = wr.heap.size := ⟨_, rfl⟩
     have HGN : Hid (g8 < N3) := Lib.hid (by rw [hN3]; exact HQ0.out.1.lt)
     rw [← hN3] at hO
     have hb2 : Below g8 wr w3 := hb.mono (by have := HQ0.out.1.lt; omega)
     have HI0 := Lib.hid (And.intro (HQ0.out.1.grow hb) (And.intro hO (HQ0.out.2.trans hb2)))
     clear hO hb hb2 hN3 HQ0
     go_wp2_with fail
     go_loopw [9, 11] (fun gv iv wx => ∃ i : Nat, i ≤ n ∧ iv = .int .i64 i ∧ gv = .bool (passQ true L K i).2 ∧ Hid (Blk wx g8 #[.int .u64 (pl (passQ true L K i).1 0), .int .u64 (pl (passQ true L K i).1 1), .int .u64 (pl (passQ true L K i).1 2), .int .u64 (pl (passQ true L K i).1 3), .int .u64 (pl (passQ true L K i).1 4), .int .u64 (pl (passQ true L K i).1 5), .int .u64 (pl (passQ true L K i).1 6), .int .u64 (pl (passQ true L K i).1 7)] 26 ∧ ClO N3 wx a2 (cellsS K) ∧ Below g8 w2 wx)) (fun _ iv _ => n - (intOf iv).toNat)
     case atStart => exact ⟨0, by omega, rfl, by rw [passQ_zero], Lib.hid (by rw [passQ_zero]; exact HI0.out)⟩
     case round =>
      clear HI0
      obtain ⟨i, hi, rfl, rfl, HI⟩ := hrel
      by_cases hlt : i < n
      ·obtain ⟨⟨x0, x1, x2⟩, hx⟩ : ∃ x, (cellsS L)[i]? = some x := ⟨_, List.getElem?_eq_getElem (by rw [← HN.out]; exact hlt)⟩
       have hxin : inG (x0, x1, x2) = true := cellsS_in (List.mem_iff_getElem?.2 ⟨i, hx⟩)
       have HPQ := Lib.hid (passQ_step true (K := K) hx)
       have HX := Lib.hid hx
       have HXI := Lib.hid hxin
       obtain ⟨⟨P, G⟩, hPG⟩ : ∃ p, p = passQ true L K i := ⟨_, rfl⟩
       rw [← hPG] at HI HPQ ⊢
       have HI' : Hid (Blk wr g8 #[.int .u64 (pl P 0), .int .u64 (pl P 1), .int .u64 (pl P 2), .int .u64 (pl P 3), .int .u64 (pl P 4), .int .u64 (pl P 5), .int .u64 (pl P 6), .int .u64 (pl P 7)] 26 ∧ ClO N3 wr a2 (cellsS K) ∧ Below g8 w2 wr) := HI
       clear HI hPG hx hxin
       obtain ⟨wB, hwB⟩ : ∃ x, x = wr := ⟨_, rfl⟩
       rw [← hwB] at HI' ⊢
       clear hwB
       have HHas := Lib.hid fun W => HHa.out P (x0, x1, x2) W
       obtain ⟨q, hq⟩ : ∃ q, q = hasS P (x0, x1, x2) := ⟨_, rfl⟩
       rw [← hq] at HHas
       have HQh := Lib.hid hq
       have hiI : (i : Int) < (n : Int) := by omega
       have HCX := Lib.hid (HA2.out.2.2.1.mono (by rw [← HG.out]; exact HI'.out.2.2) HA2.out.2.2.1.1)
       clear hq
       go_wp2_with fail
       refine wp_region_val Grows (fun _ _ _ => True) [Is (solV P), Is (.slice (some ⟨b1, o1, none⟩) n c1'), Is (.int .i64 (i : Nat)), Is (.pointer (some ⟨b1, o1 + i * 3, none⟩)), Is (clV (x0, x1, x2)), Is (.bool q)] (by kernel_rfl) (by kernel_rfl) rfl Grows.refl (fun _ _ _ => Grows.trans) (stable_mem ⟨fun _ _ _ h _ => h, fun _ _ _ h _ => h, fun _ _ _ h _ => h, fun _ _ _ h _ => h, fun _ _ _ h _ => h, fun _ _ _ h _ => h, trivial⟩) wB (Below.drew (Below.refl _ _)) trivial ?_
       refine val_cons ?_ (fun v0 => ?_)
       ·intro L vs w1 hvs hat hb hI hF; try simp [factsI, Region.binds, Is] at hF
        have D := (HI'.out.1).grow (show Below _ _ _ from hb); have cD := D.cell; have lD := D.lt; clear D
        go_simp
        first | exact Grows.refl _ | exact ⟨Grows.refl _, trivial⟩
       refine val_cons ?_ (fun v1 => ?_)
       ·intro L vs w1 hvs hat hb hI hF; try simp [factsI, Region.binds, Is] at hF
        have hc := (Grows.cells hb).1
        clear hI
        go_simp
        try simp [upd]
        try first | exact Grows.refl _ | exact trivial | exact ⟨Grows.refl _, trivial⟩
       refine val_cons ?_ (fun v2 => ?_)
       ·intro L vs w1 hvs hat hb hI hF; try simp [factsI, Region.binds, Is] at hF
        have hc := (Grows.cells hb).1
        clear hI
        go_simp
        try simp [upd]
        try first | exact Grows.refl _ | exact trivial | exact ⟨Grows.refl _, trivial⟩
       refine val_cons ?_ (fun v3 => ?_)
       ·intro L vs w1 hvs hat hb hI hF; try simp [factsI, Region.binds, Is] at hF
        have hc := (Grows.cells hb).1
        clear hI
        go_simp
        try simp [upd]
        try first | exact Grows.refl _ | exact trivial | exact ⟨Grows.refl _, trivial⟩
       refine val_cons ?_ (fun v4 => ?_)
       ·intro L vs w1 hvs hat hb hI hF; try simp [factsI, Region.binds, Is] at hF
        have hCw := (HCX.out).mono (show Below _ _ _ from hb) (HCX.out).1
        obtain ⟨z0, z1, z2⟩ := cl_cells hCw HX.out
        have lz := hCw.1
        clear hCw
        go_simp
        first | exact Grows.refl _ | exact ⟨Grows.refl _, trivial⟩
       refine val_cons ?_ (fun v5 => ?_)
       ·intro L vs w1 hvs hat hb hI hF; try simp [factsI, Region.binds, Is] at hF
        have hb0 := hb
        go_simp
        refine (HHas.out _).mono ?_
        rintro e w2 ⟨rfl, hb2⟩
        first | exact ⟨rfl, hb2⟩ | exact ⟨_, rfl, hb2, trivial, rfl⟩ | exact ⟨_, rfl, hb2, rfl⟩
       refine val_nil ?_
       intro vs w1 hvs hb hI hF
       simp [Is, Nat.forall_lt_succ_right] at hF
       simp only [Act.put, List.setIfInBounds_toArray, List.set_cons_succ, List.set_cons_zero, hF]
       clear hF
       have hbB : Below wB.heap.size wB w1 := hb
       have HI1 := Lib.hid (And.intro (HI'.out.1.grow hbB) (And.intro (HI'.out.2.1.mono hbB) (HI'.out.2.2.trans (hbB.mono (Nat.le_of_lt HI'.out.1.lt)))))
       obtain ⟨wC, hwC⟩ : ∃ x, x = w1 := ⟨_, rfl⟩
       rw [← hwC] at HI1 ⊢
       clear hwC hbB hb hvs HI' HCX
       cases q with
       | true =>
        have HS : Hid (passQ true L K (i + 1) = (P, G)) := Lib.hid (by rw [HPQ.out]; exact passStep_has HQh.out.symm)
        go_wp2_with fail
        go_roundw
        case rel => exact ⟨i + 1, by omega, by go_num, by rw [HS.out], Lib.hid (by rw [HS.out]; exact HI1.out)⟩
        case measure => simp [intOf]; omega
       | false =>
        go_wp2_with fail
        go_loopw [12, 13] (fun nv kv wx => ∃ k : Nat, k ≤ m ∧ kv = .int .i64 k ∧ nv = .bool (nearQ true (x0, x1, x2) K k) ∧ Hid (Blk wx g8 #[.int .u64 (pl P 0), .int .u64 (pl P 1), .int .u64 (pl P 2), .int .u64 (pl P 3), .int .u64 (pl P 4), .int .u64 (pl P 5), .int .u64 (pl P 6), .int .u64 (pl P 7)] 26 ∧ ClO N3 wx a2 (cellsS K) ∧ Below g8 w2 wx)) (fun _ kv _ => m - (intOf kv).toNat)
        case atStart => exact ⟨0, by omega, rfl, by rw [nearQ_zero], HI1⟩
        case round =>
         clear HI1
         obtain ⟨k, hk, rfl, rfl, HJ⟩ := hrel
         obtain ⟨wD, hwD⟩ : ∃ x, x = wr := ⟨_, rfl⟩
         rw [← hwD] at HJ ⊢
         clear hwD
         have HCX := Lib.hid (HA2.out.2.2.1.mono (by rw [← HG.out]; exact HJ.out.2.2) HA2.out.2.2.1.1)
         by_cases hkm : k < m
         ·obtain ⟨⟨y0, y1, y2⟩, hy⟩ : ∃ x, (cellsS K)[k]? = some x := ⟨_, List.getElem?_eq_getElem (by rw [← HM9.out]; exact hkm)⟩
          have hyin : inG (y0, y1, y2) = true := cellsS_in (List.mem_iff_getElem?.2 ⟨k, hy⟩)
          have hst := nearQ_step true (x0, x1, x2) hy
          rw [nearC_eq] at hst
          obtain ⟨b2, o2, rfl, hC2, hN2⟩ := HJ.out.2.1.at hy
          have HY := Lib.hid (And.intro hy hC2)
          have HF1 := Lib.hid fun W => HFa.out (x0, x1, x2) (y0, y1, y2) HXI.out hyin W
          obtain ⟨F1, hF1⟩ : ∃ F, F = (farC (x0, x1, x2) (y0, y1, y2)).1 := ⟨_, rfl⟩
          obtain ⟨F2, hF2⟩ : ∃ F, F = (farC (x0, x1, x2) (y0, y1, y2)).2 := ⟨_, rfl⟩
          rw [← hF1, ← hF2] at HF1 hst
          obtain ⟨nb, hnb⟩ : ∃ b, b = nearQ true (x0, x1, x2) K k := ⟨_, rfl⟩
          rw [← hnb] at hst ⊢
          have HST := Lib.hid hst
          have hkI : (k : Int) < (m : Int) := by omega
          clear hy hyin hst hC2 hN2 hF1 hF2 hnb
          go_wp2_with fail
          refine wp_region_val Grows (fun _ _ _ => True) [Is (.slice (some ⟨b1, o1, none⟩) n c1'), Is (.int .i64 (i : Nat)), Is (.pointer (some ⟨b1, o1 + i * 3, none⟩)), Is (clV (x0, x1, x2)), Is (.slice (some ⟨b2, o2, none⟩) m c2'), Is (.int .i64 (k : Nat)), Is (.pointer (some ⟨b2, o2 + k * 3, none⟩)), Is (clV (y0, y1, y2)), Is (.tuple #[.int .i64 F1, .int .i64 F2]), Is (.tuple #[.int .i64 F1, .int .i64 F2]), Is (.int .i64 F1), Is (.int .i64 F2), Is (.int .i64 F1), Is (.int .i64 F2)] (by kernel_rfl) (by kernel_rfl) rfl Grows.refl (fun _ _ _ => Grows.trans) (stable_mem ⟨fun _ _ _ h _ => h, fun _ _ _ h _ => h, fun _ _ _ h _ => h, fun _ _ _ h _ => h, fun _ _ _ h _ => h, fun _ _ _ h _ => h, fun _ _ _ h _ => h, fun _ _ _ h _ => h, fun _ _ _ h _ => h, fun _ _ _ h _ => h, fun _ _ _ h _ => h, fun _ _ _ h _ => h, fun _ _ _ h _ => h, fun _ _ _ h _ => h, trivial⟩) wD (Below.drew (Below.refl _ _)) trivial ?_
          refine val_cons ?_ (fun v0 => ?_)
          ·intro L vs w1 hvs hat hb hI hF; try simp [factsI, Region.binds, Is] at hF
           have hc := (Grows.cells hb).1
           clear hI
           go_simp
           try simp [upd]
           try first | exact Grows.refl _ | exact trivial | exact ⟨Grows.refl _, trivial⟩
          refine val_cons ?_ (fun v1 => ?_)
          ·intro L vs w1 hvs hat hb hI hF; try simp [factsI, Region.binds, Is] at hF
           have hc := (Grows.cells hb).1
           clear hI
           go_simp
           try simp [upd]
           try first | exact Grows.refl _ | exact trivial | exact ⟨Grows.refl _, trivial⟩
          refine val_cons ?_ (fun v2 => ?_)
          ·intro L vs w1 hvs hat hb hI hF; try simp [factsI, Region.binds, Is] at hF
           have hc := (Grows.cells hb).1
           clear hI
           go_simp
           try simp [upd]
           try first | exact Grows.refl _ | exact trivial | exact ⟨Grows.refl _, trivial⟩
          refine val_cons ?_ (fun v3 => ?_)
          ·intro L vs w1 hvs hat hb hI hF; try simp [factsI, Region.binds, Is] at hF
           have hCw := (HCX.out).mono (show Below _ _ _ from hb) (HCX.out).1
           obtain ⟨z0, z1, z2⟩ := cl_cells hCw HX.out
           have lz := hCw.1
           clear hCw
           go_simp
           first | exact Grows.refl _ | exact ⟨Grows.refl _, trivial⟩
          refine val_cons ?_ (fun v4 => ?_)
          ·intro L vs w1 hvs hat hb hI hF; try simp [factsI, Region.binds, Is] at hF
           have hc := (Grows.cells hb).1
           clear hI
           go_simp
           try simp [upd]
           try first | exact Grows.refl _ | exact trivial | exact ⟨Grows.refl _, trivial⟩
          refine val_cons ?_ (fun v5 => ?_)
          ·intro L vs w1 hvs hat hb hI hF; try simp [factsI, Region.binds, Is] at hF
           have hc := (Grows.cells hb).1
           clear hI
           go_simp
           try simp [upd]
           try first | exact Grows.refl _ | exact trivial | exact ⟨Grows.refl _, trivial⟩
          refine val_cons ?_ (fun v6 => ?_)
          ·intro L vs w1 hvs hat hb hI hF; try simp [factsI, Region.binds, Is] at hF
           have hc := (Grows.cells hb).1
           clear hI
           go_simp
           try simp [upd]
           try first | exact Grows.refl _ | exact trivial | exact ⟨Grows.refl _, trivial⟩
          refine val_cons ?_ (fun v7 => ?_)
          ·intro L vs w1 hvs hat hb hI hF; try simp [factsI, Region.binds, Is] at hF
           have hCw := (HY.out.2).mono (show Below _ _ _ from hb) (HY.out.2).1
           obtain ⟨z0, z1, z2⟩ := cl_cells hCw HY.out.1
           have lz := hCw.1
           clear hCw
           go_simp
           first | exact Grows.refl _ | exact ⟨Grows.refl _, trivial⟩
          refine val_cons ?_ (fun v8 => ?_)
          ·intro L vs w1 hvs hat hb hI hF; try simp [factsI, Region.binds, Is] at hF
           have hb0 := hb
           go_simp
           refine (HF1.out _).mono ?_
           rintro e w2 ⟨rfl, hb2⟩
           first | exact ⟨rfl, hb2⟩ | exact ⟨_, rfl, hb2, trivial, rfl⟩ | exact ⟨_, rfl, hb2, rfl⟩
          refine val_cons ?_ (fun v9 => ?_)
          ·intro L vs w1 hvs hat hb hI hF; try simp [factsI, Region.binds, Is] at hF
           have hc := (Grows.cells hb).1
           clear hI
           go_simp
           try simp [upd]
           try first | exact Grows.refl _ | exact trivial | exact ⟨Grows.refl _, trivial⟩
          refine val_cons ?_ (fun v10 => ?_)
          ·intro L vs w1 hvs hat hb hI hF; try simp [factsI, Region.binds, Is] at hF
           have hc := (Grows.cells hb).1
           clear hI
           go_simp
           try simp [upd]
           try first | exact Grows.refl _ | exact trivial | exact ⟨Grows.refl _, trivial⟩
          refine val_cons ?_ (fun v11 => ?_)
          ·intro L vs w1 hvs hat hb hI hF; try simp [factsI, Region.binds, Is] at hF
           have hc := (Grows.cells hb).1
           clear hI
           go_simp
           try simp [upd]
           try first | exact Grows.refl _ | exact trivial | exact ⟨Grows.refl _, trivial⟩
          refine val_cons ?_ (fun v12 => ?_)
          ·intro L vs w1 hvs hat hb hI hF; try simp [factsI, Region.binds, Is] at hF
           have hc := (Grows.cells hb).1
           clear hI
           go_simp
           try simp [upd]
           try first | exact Grows.refl _ | exact trivial | exact ⟨Grows.refl _, trivial⟩
          refine val_cons ?_ (fun v13 => ?_)
          ·intro L vs w1 hvs hat hb hI hF; try simp [factsI, Region.binds, Is] at hF
           have hc := (Grows.cells hb).1
           clear hI
           go_simp
           try simp [upd]
           try first | exact Grows.refl _ | exact trivial | exact ⟨Grows.refl _, trivial⟩
          refine val_nil ?_
          intro vs w1 hvs hb hI hF
          simp [Is, Nat.forall_lt_succ_right] at hF
          simp only [Act.put, List.setIfInBounds_toArray, List.set_cons_succ, List.set_cons_zero, hF]
          clear hF
          have hbB : Below wD.heap.size wD w1 := hb
          have HJ1 := Lib.hid (And.intro (HJ.out.1.grow hbB) (And.intro (HJ.out.2.1.mono hbB) (HJ.out.2.2.trans (hbB.mono (Nat.le_of_lt HJ.out.1.lt)))))
          obtain ⟨wE, hwE⟩ : ∃ x, x = w1 := ⟨_, rfl⟩
          rw [← hwE] at HJ1 ⊢
          clear hwE hbB hb hvs HJ HCX HY
          cases nb with
          | true =>
           have HNV : Hid (nearQ true (x0, x1, x2) K (k + 1) = true) := Lib.hid (by rw [HST.out]; rfl)
           go_wp2_with fail
           go_roundw
           case rel => exact ⟨k + 1, by omega, by go_num, by rw [HNV.out], HJ1⟩
           case measure => simp [intOf]; omega
          | false =>
           by_cases hF : F1 = 1
           ·have HNV : Hid (nearQ true (x0, x1, x2) K (k + 1) = true) := Lib.hid (by rw [HST.out]; simp [hF])
            go_wp2_with fail
            go_roundw
            case rel => exact ⟨k + 1, by omega, by go_num, by rw [HNV.out] <;> simp [hF], HJ1⟩
            case measure => simp [intOf]; omega
           ·have HNV : Hid (nearQ true (x0, x1, x2) K (k + 1) = false) := Lib.hid (by rw [HST.out]; simp [hF])
            go_wp2_with fail
            go_roundw
            case rel => exact ⟨k + 1, by omega, by go_num, by rw [HNV.out] <;> simp [hF], HJ1⟩
            case measure => simp [intOf]; omega
         ·obtain rfl : k = m := by omega
          have hfin : nearQ true (x0, x1, x2) K k = (cellsS K).any fun e => nearC true (x0, x1, x2) e := by rw [HM9.out]; exact nearQ_end true (x0, x1, x2) K
          obtain ⟨nb, hnb⟩ : ∃ b, b = nearQ true (x0, x1, x2) K k := ⟨_, rfl⟩
          rw [← hnb] at hfin ⊢
          have HFN := Lib.hid hfin
          clear hfin hnb
          cases nb with
          | false =>
           have HS : Hid (passQ true L K (i + 1) = (P, G)) := Lib.hid (by rw [HPQ.out]; exact passStep_far HQh.out.symm HFN.out.symm)
           go_wp2_with fail
           go_roundw
           case rel => exact ⟨i + 1, by omega, by go_num, by rw [HS.out], Lib.hid (by rw [HS.out]; exact HJ.out)⟩
           case measure => simp [intOf]; omega
          | true =>
           have HS : Hid (passQ true L K (i + 1) = (withS P (x0, x1, x2), true)) := Lib.hid (by rw [HPQ.out]; exact passStep_near HQh.out.symm HFN.out.symm)
           have HW1' := Lib.hid fun W => HWi.out P (x0, x1, x2) HXI.out W
           obtain ⟨Q, hQ⟩ : ∃ Q, Q = withS P (x0, x1, x2) := ⟨_, rfl⟩
           rw [← hQ] at HS HW1'
           clear hQ
           go_wp2_with fail
           refine wp_region_grow 6 [Is (solV P), Is (.slice (some ⟨b1, o1, none⟩) n c1'), Is (.int .i64 (i : Nat)), Is (.pointer (some ⟨b1, o1 + i * 3, none⟩)), Is (clV (x0, x1, x2)), Is (solV Q)] (by kernel_rfl) (by kernel_rfl) rfl ⟨fun _ _ _ h _ => h, fun _ _ _ h _ => h, fun _ _ _ h _ => h, fun _ _ _ h _ => h, fun _ _ _ h _ => h, fun _ _ _ h _ => h, trivial⟩ ?_
           simp only [List.take_succ_cons, List.take_zero, List.drop_succ_cons, List.drop_zero]
           refine rel_cons ?_ (fun v0 => ?_)
           ·intro w1 hb hF; have hc := (Grows.cells hb).1; have hf := (Grows.cells hb).2; try simp [facts, Is] at hF
            have D := (HJ.out.1).grow (show Below _ _ _ from hb); have cD := D.cell; have lD := D.lt; clear D
            go_simp
            first | exact Grows.refl _ | exact ⟨Grows.refl _, trivial⟩
           refine rel_cons ?_ (fun v1 => ?_)
           ·intro w1 hb hF; have hc := (Grows.cells hb).1; have hf := (Grows.cells hb).2; try simp [facts, Is] at hF
            go_simp
            exact Grows.refl _
           refine rel_cons ?_ (fun v2 => ?_)
           ·intro w1 hb hF; have hc := (Grows.cells hb).1; have hf := (Grows.cells hb).2; try simp [facts, Is] at hF
            go_simp
            exact Grows.refl _
           refine rel_cons ?_ (fun v3 => ?_)
           ·intro w1 hb hF; have hc := (Grows.cells hb).1; have hf := (Grows.cells hb).2; try simp [facts, Is] at hF
            go_simp
            exact Grows.refl _
           refine rel_cons ?_ (fun v4 => ?_)
           ·intro w1 hb hF; have hc := (Grows.cells hb).1; have hf := (Grows.cells hb).2; try simp [facts, Is] at hF
            have hCw := (HCX.out).mono (show Below _ _ _ from hb) (HCX.out).1
            obtain ⟨z0, z1, z2⟩ := cl_cells hCw HX.out
            have lz := hCw.1
            clear hCw
            go_simp
            first | exact Grows.refl _ | exact ⟨Grows.refl _, trivial⟩
           refine rel_cons ?_ (fun v5 => ?_)
           ·intro w1 hb hF; have hc := (Grows.cells hb).1; have hf := (Grows.cells hb).2; try simp [facts, Is] at hF
            go_simp
            refine (HW1'.out _).mono ?_
            rintro e w2 ⟨rfl, hb2⟩
            first | exact ⟨rfl, hb2⟩ | exact ⟨_, rfl, hb2, trivial, rfl⟩
           refine rel_nil ?_
           intro w1 hb hF
           simp [Is, Nat.forall_lt_succ_right] at hF
           simp only [Act.put, List.setIfInBounds_toArray, List.set_cons_succ, List.set_cons_zero, hF]
           clear hF
           have hb5 : Below wD.heap.size wD w1 := hb
           have hM1 := HJ.out.1.grow hb5
           have hgn := HGN.out
           have HE9 : Hid (Blk (w1.setRow g8 #[.int .u64 (pl Q 0), .int .u64 (pl Q 1), .int .u64 (pl Q 2), .int .u64 (pl Q 3), .int .u64 (pl Q 4), .int .u64 (pl Q 5), .int .u64 (pl Q 6), .int .u64 (pl Q 7)]) g8 #[.int .u64 (pl Q 0), .int .u64 (pl Q 1), .int .u64 (pl Q 2), .int .u64 (pl Q 3), .int .u64 (pl Q 4), .int .u64 (pl Q 5), .int .u64 (pl Q 6), .int .u64 (pl Q 7)] 26 ∧ ClO N3 (w1.setRow g8 #[.int .u64 (pl Q 0), .int .u64 (pl Q 1), .int .u64 (pl Q 2), .int .u64 (pl Q 3), .int .u64 (pl Q 4), .int .u64 (pl Q 5), .int .u64 (pl Q 6), .int .u64 (pl Q 7)]) a2 (cellsS K) ∧ Below g8 w2 (w1.setRow g8 #[.int .u64 (pl Q 0), .int .u64 (pl Q 1), .int .u64 (pl Q 2), .int .u64 (pl Q 3), .int .u64 (pl Q 4), .int .u64 (pl Q 5), .int .u64 (pl Q 6), .int .u64 (pl Q 7)])) := Lib.hid ⟨hM1.rowS _, (HJ.out.2.1.mono hb5).row hgn _, bel_rowB (HJ.out.2.2.trans (hb5.mono (Nat.le_of_lt HJ.out.1.lt))) (Nat.le_refl _) _⟩
           have rg := hM1.row; have lg2 := hM1.lt
           rw [← hM1.rw]
           clear hM1 hb hb5 hgn
           go_wp2_with fail
           go_roundw
           case rel => exact ⟨i + 1, by omega, by go_num, by rw [HS.out], Lib.hid (by rw [HS.out]; exact HE9.out)⟩
           case measure => simp [intOf]; omega
      ·obtain rfl : i = n := by omega
       go_wp2_with fail
       go_roundw
       case rel => exact ⟨_, _, rfl, Lib.hid ⟨HPN.out.1, HI.out.1, HI.out.2.2⟩⟩
       case measure =>
        rw [solAt_eq HI.out.1, HSA.out]
        have h := HPN.out.2
        cases hg : (passQ true L K i).2 with
        | true => rw [hg] at h; simp only [if_true] at h; show 2 * _ + 1 < 2 * _ + 1; omega
        | false => rw [hg] at h; simp only [Bool.false_eq_true, if_false] at h; show 2 * _ + 0 < 2 * _ + 1; omega
set_option maxHeartbeats 32000000 in
theorem refClasses_false (s : Sol) (w : World) : Calls Tryz.prog 108 #[solV s, .bool false] w fun e w' => ∃ u, e = .returned u ∧ OwnSo w' w.heap.size u (classesS (stepsL false) s) ∧ Below w.heap.size w w' := by
 have HCl := Lib.hid fun x W => refCells_open x W
 have HWi := Lib.hid fun x c hc W => refWith_spec x c hc W
 have HHa := Lib.hid fun x c W => refHas_spec x c W
 have HFa := Lib.hid fun a b ha hb W => refFar_spec a b ha hb W
 have HLe := Lib.hid fun a b W => refLess_spec a b W
 have HZs := Lib.hid zero_sols
 obtain ⟨R, hR⟩ : ∃ R, R = classesS (stepsL false) s := ⟨_, rfl⟩
 rw [← hR]
 have HR := Lib.hid hR
 have h512 := Lib.hid (count_512 s)
 clear hR
 go_enter Tryz.func108, Tryz.ntmps108
 go_wp2_with fail
 obtain ⟨W0, hW0⟩ : ∃ W0, W0 = (w.alloc (.cells #[.int .u64 (pl s 0), .int .u64 (pl s 1), .int .u64 (pl s 2), .int .u64 (pl s 3), .int .u64 (pl s 4), .int .u64 (pl s 5), .int .u64 (pl s 6), .int .u64 (pl s 7)] 26)).alloc (.cells #[.int .u64 (pl s 0), .int .u64 (pl s 1), .int .u64 (pl s 2), .int .u64 (pl s 3), .int .u64 (pl s 4), .int .u64 (pl s 5), .int .u64 (pl s 6), .int .u64 (pl s 7)] 26) := ⟨_, rfl⟩
 have HB : Hid (Blk W0 (w.heap.size + 1) #[.int .u64 (pl s 0), .int .u64 (pl s 1), .int .u64 (pl s 2), .int .u64 (pl s 3), .int .u64 (pl s 4), .int .u64 (pl s 5), .int .u64 (pl s 6), .int .u64 (pl s 7)] 26 ∧ Below w.heap.size w W0) := Lib.hid (by rw [hW0]; exact ⟨Blk.at _ _ (by simp), (by repeat (first | with_reducible exact bel_refl _ | with_reducible assumption | with_reducible refine bel_drewN ?_ _ | with_reducible refine bel_drew ?_ | with_reducible refine bel_alloc ?_ _ | with_reducible refine bel_row ?_ ?_ _ | with_reducible refine bel_set ?_ ?_ _ | refine bel_trans ?_ (by with_reducible assumption) | (simp; done) | (simp; omega)))⟩)
 rw [← hW0]
 clear hW0
 go_loopw [6] (fun ov wx => ∃ (L : Sol) (acc : List Sol), Hid ((acc = [] → ov = .slice none 0 0) ∧ R = acc ++ classesS (stepsL false) L ∧ acc.length + countS L ≤ 512 ∧ OwnSo wx (w.heap.size + 1 + 1) ov acc ∧ Blk wx (w.heap.size + 1) #[.int .u64 (pl L 0), .int .u64 (pl L 1), .int .u64 (pl L 2), .int .u64 (pl L 3), .int .u64 (pl L 4), .int .u64 (pl L 5), .int .u64 (pl L 6), .int .u64 (pl L 7)] 26 ∧ Below w.heap.size w wx)) (fun ov _ => 513 - lenOf' ov)
 case atStart => exact ⟨s, [], Lib.hid ⟨fun _ => rfl, by rw [HR.out]; rfl, by have := h512.out; simpa using this, OwnSo.nil _ _, HB.out⟩⟩
 case round =>
  clear HB HR h512
  obtain ⟨L, acc, HM⟩ := hrel
  have cl := HM.out.2.2.2.2.1.cell; have ll := HM.out.2.2.2.2.1.lt
  by_cases hL : L = 0
  ·have hz : (L == 0#512) = true := beq_iff_eq.2 hL
   have hRE : Hid (R = acc) := Lib.hid (by rw [HM.out.2.1, hL, cls_zero, List.append_nil])
   go_wp2_with fail
   go_ret
   exact ⟨_, rfl, by rw [hRE.out]; exact own_weak HM.out.2.2.2.1 (by omega), HM.out.2.2.2.2.2⟩
  ·have hz : (L == 0#512) = false := beq_eq_false_iff_ne.2 hL
   obtain ⟨c, tl, hct, hc⟩ := cells_ne hL
   have hcin := has_in hc
   have HCLS := Lib.hid (cls_step (stepsL false) hct)
   have HLS := Lib.hid (cut_less (St := stepsL false) hc)
   have hc0 : (cellsS L)[0]? = some c := by rw [hct]; rfl
   have hn0 : 0 < (cellsS L).length := by rw [hct]; simp
   have hn512 := cells512 L
   obtain ⟨c0, c1, c2⟩ := c
   have HC1 := Lib.hid fun W => HCl.out L W
   have HW1 := Lib.hid fun W => HWi.out 0 (c0, c1, c2) hcin W
   rw [with_zero] at HW1
   have HGI := Lib.hid (growI_start (f := false) hc)
   obtain ⟨K0, hK0⟩ : ∃ K, K = Go.Solid.one (bitN (c0, c1, c2)) := ⟨_, rfl⟩
   rw [← hK0] at HW1 HGI
   obtain ⟨n, hn⟩ : ∃ n, n = (cellsS L).length := ⟨_, rfl⟩
   rw [← hn] at HC1 hn0 hn512
   have HN := Lib.hid hn
   have hnI : (0 : Int) < (n : Int) := by omega
   have HC0 := Lib.hid hc0
   clear hct hc hc0 hK0 hn hL hn0
   go_wp2_with fail
   clear cl ll
   refine (HC1.out _).mono ?_
   rintro e w1 ⟨⟨a1, c1', rfl, hO⟩, hb⟩
   obtain ⟨b1, o1, rfl, hCc, hbb⟩ := hO.at HC0.out
   have HA := Lib.hid (And.intro (own_wide HM.out.2.2.2.1 hb) (And.intro (HM.out.2.2.2.2.1.grow hb) (And.intro hCc (bel_trans HM.out.2.2.2.2.2 hb))))
   obtain ⟨z0, z1, z2⟩ := cl_cells hCc HC0.out
   simp only [Nat.zero_mul, Nat.add_zero] at z0 z1 z2
   have lz := hCc.1
   clear hO hCc hbb hb
   go_wp2_with fail
   clear z0 z1 z2 lz
   have HWz := HW1
   rw [zero_solV] at HWz
   refine (HWz.out _).mono ?_
   rintro e w2 ⟨rfl, hb⟩
   have HA2 := Lib.hid (And.intro (own_wide HA.out.1 hb) (And.intro (HA.out.2.1.grow hb) (And.intro (HA.out.2.2.1.mono hb HA.out.2.2.1.1) (bel_trans HA.out.2.2.2 hb))))
   obtain ⟨wA, hwA⟩ : ∃ x, x = w2.alloc (.cells #[.int .u64 (pl K0 0), .int .u64 (pl K0 1), .int .u64 (pl K0 2), .int .u64 (pl K0 3), .int .u64 (pl K0 4), .int .u64 (pl K0 5), .int .u64 (pl K0 6), .int .u64 (pl K0 7)] 26) := ⟨_, rfl⟩
   obtain ⟨g8, hg8⟩ : ∃ x, x = w2.heap.size := ⟨_, rfl⟩
   have HK : Hid (Blk wA g8 #[.int .u64 (pl K0 0), .int .u64 (pl K0 1), .int .u64 (pl K0 2), .int .u64 (pl K0 3), .int .u64 (pl K0 4), .int .u64 (pl K0 5), .int .u64 (pl K0 6), .int .u64 (pl K0 7)] 26 ∧ Below g8 w2 wA) := Lib.hid (by
    rw [hwA, hg8]
    exact ⟨Blk.new _ _ _, bel_alloc (bel_refl w2) _⟩)
   have HG := Lib.hid hg8
   go_upto_region 6 with fail
   rw [← hwA, ← hg8]
   clear hwA hg8 hb HA
   go_wp2_with fail
   go_loopw [9] (fun gv wx => ∃ (K : Sol) (g : Bool), gv = .bool g ∧ Hid (GrowI false L (c0, c1, c2) K g ∧ Blk wx g8 #[.int .u64 (pl K 0), .int .u64 (pl K 1), .int .u64 (pl K 2), .int .u64 (pl K 3), .int .u64 (pl K 4), .int .u64 (pl K 5), .int .u64 (pl K 6), .int .u64 (pl K 7)] 26 ∧ Below g8 w2 wx)) (fun gv wx => 2 * countS (cutS L (solAt wx g8)) + bitOf gv)
   case atStart => exact ⟨K0, true, rfl, Lib.hid ⟨HGI.out, HK.out⟩⟩
   case round =>
    clear HK HGI
    obtain ⟨K, g, rfl, HQ⟩ := hrel
    cases g with
    | false =>
     have HPE := Lib.hid (growI_end HQ.out.1)
     obtain ⟨P, hP⟩ : ∃ P, P = partS (stepsL false) L (c0, c1, c2) := ⟨_, rfl⟩
     rw [← hP] at HPE HCLS HLS
     have hKP : K = P := HPE.out
     subst hKP
     have hbw : Below w2.heap.size w2 wr := by rw [← HG.out]; exact HQ.out.2.2
     have HE := Lib.hid (And.intro (own_wide HA2.out.1 hbw) (And.intro (HA2.out.2.1.grow hbw) (And.intro HQ.out.2.1 (bel_trans HA2.out.2.2.2 hbw))))
     have hacc := HM.out.2.2.1
     have hls := HLS.out
     obtain ⟨D, hD⟩ : ∃ D, D = cutS L K := ⟨_, rfl⟩
     rw [← hD] at hls HCLS
     have hcut : L &&& ~~~K = D := by rw [hD, cutS_eq]
     have HLd := Lib.hid fun W => HLe.out L K W
     rw [hcut] at HLd
     have HRN : Hid (R = (acc ++ [K]) ++ classesS (stepsL false) D) := Lib.hid (by rw [HM.out.2.1, HCLS.out]; simp)
     have HLEN := Lib.hid (show (acc ++ [K]).length + countS D ≤ 512 by rw [List.length_append]; simp only [List.length_cons, List.length_nil]; omega)
     have hal : acc.length + 1 ≤ 512 := by omega
     have HAL := Lib.hid hal
     have HOL := Lib.hid HM.out.2.2.2.1.len
     clear hP hbw hD hcut hacc hls hal HPE HQ HLS HM
     obtain ⟨wE, hwE⟩ : ∃ x, x = wr := ⟨_, rfl⟩
     rw [← hwE] at HE ⊢
     clear hwE
     have hg8b : w.heap.size + 1 < g8 := by rw [HG.out]; exact HA2.out.2.1.lt
     have hbx := HE.out.2.2.2
     have hsz2 : w.heap.size + 1 + 1 ≤ wE.heap.size := HE.out.2.1.lt
     obtain ⟨v2, W2, hr2, hO2, hb2, hgr2⟩ := app_one (World.ownsRow.alloc HE.out.1 (.cells #[.int .u64 (pl K 0), .int .u64 (pl K 1), .int .u64 (pl K 2), .int .u64 (pl K 3), .int .u64 (pl K 4), .int .u64 (pl K 5), .int .u64 (pl K 6), .int .u64 (pl K 7)] 26)) (Blk.new wE #[.int .u64 (pl K 0), .int .u64 (pl K 1), .int .u64 (pl K 2), .int .u64 (pl K 3), .int .u64 (pl K 4), .int .u64 (pl K 5), .int .u64 (pl K 6), .int .u64 (pl K 7)] 26) (by have := HAL.out; omega) (by simp; omega)
     have HR2 := Lib.hid hr2
     have hb22 := hb2.mono (Nat.le_succ (w.heap.size + 1))
     have HF : Hid (OwnSo W2 (w.heap.size + 1 + 1) v2 (acc ++ [K]) ∧ Blk W2 (w.heap.size + 1) #[.int .u64 (pl L 0), .int .u64 (pl L 1), .int .u64 (pl L 2), .int .u64 (pl L 3), .int .u64 (pl L 4), .int .u64 (pl L 5), .int .u64 (pl L 6), .int .u64 (pl L 7)] 26 ∧ Blk W2 g8 #[.int .u64 (pl K 0), .int .u64 (pl K 1), .int .u64 (pl K 2), .int .u64 (pl K 3), .int .u64 (pl K 4), .int .u64 (pl K 5), .int .u64 (pl K 6), .int .u64 (pl K 7)] 26 ∧ Below w.heap.size w W2) := Lib.hid ⟨hO2, (HE.out.2.1.alloc _).below hb2 (by omega), (HE.out.2.2.1.alloc _).gb hgr2 (fun e => by have := World.ownsRow.lt HA2.out.1 _ e.symm; rw [← HG.out] at this; omega), (bel_alloc hbx _).trans (hb2.mono (by omega))⟩
     have ck := HE.out.2.2.1.cell; have lk := HE.out.2.2.1.lt
     clear hbx hsz2 hr2 hO2 hb2 hb22 hgr2
     go_upto_region 24 with (first | (at_builtin; refine wpList_append_run rfl _ _ _ _ rfl _ _ rfl rfl HR2.out ?_))
     clear ck lk
     have cl := HF.out.2.1.cell; have ll := HF.out.2.1.lt
     have ck := HF.out.2.2.1.cell; have lk := HF.out.2.2.1.lt
     go_wp2_with fail
     clear cl ll ck lk
     refine (HLd.out _).mono ?_
     rintro e w7 ⟨rfl, hb⟩
     have k2 := HF.out.2.1.grow hb
     have r2 := k2.row; have l2 := k2.lt
     have HX : Hid (OwnSo (w7.setRow (w.heap.size + 1) #[.int .u64 (pl D 0), .int .u64 (pl D 1), .int .u64 (pl D 2), .int .u64 (pl D 3), .int .u64 (pl D 4), .int .u64 (pl D 5), .int .u64 (pl D 6), .int .u64 (pl D 7)]) (w.heap.size + 1 + 1) v2 (acc ++ [K]) ∧ Blk (w7.setRow (w.heap.size + 1) #[.int .u64 (pl D 0), .int .u64 (pl D 1), .int .u64 (pl D 2), .int .u64 (pl D 3), .int .u64 (pl D 4), .int .u64 (pl D 5), .int .u64 (pl D 6), .int .u64 (pl D 7)]) (w.heap.size + 1) #[.int .u64 (pl D 0), .int .u64 (pl D 1), .int .u64 (pl D 2), .int .u64 (pl D 3), .int .u64 (pl D 4), .int .u64 (pl D 5), .int .u64 (pl D 6), .int .u64 (pl D 7)] 26 ∧ Below w.heap.size w (w7.setRow (w.heap.size + 1) #[.int .u64 (pl D 0), .int .u64 (pl D 1), .int .u64 (pl D 2), .int .u64 (pl D 3), .int .u64 (pl D 4), .int .u64 (pl D 5), .int .u64 (pl D 6), .int .u64 (pl D 7)])) := Lib.hid ⟨own_setRow (own_wide HF.out.1 hb) (by omega) _, k2.rowS _, bel_row (bel_trans HF.out.2.2.2 hb) (by omega) _⟩
     rw [← k2.rw]
     clear k2 hb hg8b
     go_wp2_with fail
     go_roundw
     case rel => exact ⟨D, acc ++ [K], Lib.hid ⟨fun e => absurd e (by simp), HRN.out, HLEN.out, HX.out⟩⟩
     case measure =>
      rw [HX.out.1.len, HOL.out, List.length_append]
      have := HAL.out
      simp only [List.length_cons, List.length_nil]
      omega
    | true =>
     have hin := HCl
     have HCK := Lib.hid fun W => HCl.out K W
     have HPS := Lib.hid (growI_pass HQ.out.1)
     have hPE := HPS.out
     rw [← HN.out] at hPE
     have HPN := Lib.hid hPE
     have hm512 := cells512 K
     obtain ⟨m, hm⟩ : ∃ m, m = (cellsS K).length := ⟨_, rfl⟩
     rw [← hm] at HCK hm512
     have HM9 := Lib.hid hm
     have HSA := Lib.hid (solAt_eq HQ.out.2.1)
     have HQ0 := Lib.hid (And.intro HQ.out.2.1 HQ.out.2.2)
     clear hin hm hPE HPS HQ
     have ck := HQ0.out.1.cell; have lk := HQ0.out.1.lt
     go_wp2_with fail
     clear ck lk
     refine (HCK.out _).mono ?_
     rintro e w3 ⟨⟨a2, c2', rfl, hO⟩, hb⟩
     obtain ⟨N3, hN3⟩ : ∃ N, N = wr.heap.size := ⟨_, rfl⟩
     have HGN : Hid (g8 < N3) := Lib.hid (by rw [hN3]; exact HQ0.out.1.lt)
     rw [← hN3] at hO
     have hb2 : Below g8 wr w3 := hb.mono (by have := HQ0.out.1.lt; omega)
     have HI0 := Lib.hid (And.intro (HQ0.out.1.grow hb) (And.intro hO (HQ0.out.2.trans hb2)))
     clear hO hb hb2 hN3 HQ0
     go_wp2_with fail
     go_loopw [9, 11] (fun gv iv wx => ∃ i : Nat, i ≤ n ∧ iv = .int .i64 i ∧ gv = .bool (passQ false L K i).2 ∧ Hid (Blk wx g8 #[.int .u64 (pl (passQ false L K i).1 0), .int .u64 (pl (passQ false L K i).1 1), .int .u64 (pl (passQ false L K i).1 2), .int .u64 (pl (passQ false L K i).1 3), .int .u64 (pl (passQ false L K i).1 4), .int .u64 (pl (passQ false L K i).1 5), .int .u64 (pl (passQ false L K i).1 6), .int .u64 (pl (passQ false L K i).1 7)] 26 ∧ ClO N3 wx a2 (cellsS K) ∧ Below g8 w2 wx)) (fun _ iv _ => n - (intOf iv).toNat)
     case atStart => exact ⟨0, by omega, rfl, by rw [passQ_zero], Lib.hid (by rw [passQ_zero]; exact HI0.out)⟩
     case round =>
      clear HI0
      obtain ⟨i, hi, rfl, rfl, HI⟩ := hrel
      by_cases hlt : i < n
      ·obtain ⟨⟨x0, x1, x2⟩, hx⟩ : ∃ x, (cellsS L)[i]? = some x := ⟨_, List.getElem?_eq_getElem (by rw [← HN.out]; exact hlt)⟩
       have hxin : inG (x0, x1, x2) = true := cellsS_in (List.mem_iff_getElem?.2 ⟨i, hx⟩)
       have HPQ := Lib.hid (passQ_step false (K := K) hx)
       have HX := Lib.hid hx
       have HXI := Lib.hid hxin
       obtain ⟨⟨P, G⟩, hPG⟩ : ∃ p, p = passQ false L K i := ⟨_, rfl⟩
       rw [← hPG] at HI HPQ ⊢
       have HI' : Hid (Blk wr g8 #[.int .u64 (pl P 0), .int .u64 (pl P 1), .int .u64 (pl P 2), .int .u64 (pl P 3), .int .u64 (pl P 4), .int .u64 (pl P 5), .int .u64 (pl P 6), .int .u64 (pl P 7)] 26 ∧ ClO N3 wr a2 (cellsS K) ∧ Below g8 w2 wr) := HI
       clear HI hPG hx hxin
       obtain ⟨wB, hwB⟩ : ∃ x, x = wr := ⟨_, rfl⟩
       rw [← hwB] at HI' ⊢
       clear hwB
       have HHas := Lib.hid fun W => HHa.out P (x0, x1, x2) W
       obtain ⟨q, hq⟩ : ∃ q, q = hasS P (x0, x1, x2) := ⟨_, rfl⟩
       rw [← hq] at HHas
       have HQh := Lib.hid hq
       have hiI : (i : Int) < (n : Int) := by omega
       have HCX := Lib.hid (HA2.out.2.2.1.mono (by rw [← HG.out]; exact HI'.out.2.2) HA2.out.2.2.1.1)
       clear hq
       go_wp2_with fail
       refine wp_region_val Grows (fun _ _ _ => True) [Is (solV P), Is (.slice (some ⟨b1, o1, none⟩) n c1'), Is (.int .i64 (i : Nat)), Is (.pointer (some ⟨b1, o1 + i * 3, none⟩)), Is (clV (x0, x1, x2)), Is (.bool q)] (by kernel_rfl) (by kernel_rfl) rfl Grows.refl (fun _ _ _ => Grows.trans) (stable_mem ⟨fun _ _ _ h _ => h, fun _ _ _ h _ => h, fun _ _ _ h _ => h, fun _ _ _ h _ => h, fun _ _ _ h _ => h, fun _ _ _ h _ => h, trivial⟩) wB (Below.drew (Below.refl _ _)) trivial ?_
       refine val_cons ?_ (fun v0 => ?_)
       ·intro L vs w1 hvs hat hb hI hF; try simp [factsI, Region.binds, Is] at hF
        have D := (HI'.out.1).grow (show Below _ _ _ from hb); have cD := D.cell; have lD := D.lt; clear D
        go_simp
        first | exact Grows.refl _ | exact ⟨Grows.refl _, trivial⟩
       refine val_cons ?_ (fun v1 => ?_)
       ·intro L vs w1 hvs hat hb hI hF; try simp [factsI, Region.binds, Is] at hF
        have hc := (Grows.cells hb).1
        clear hI
        go_simp
        try simp [upd]
        try first | exact Grows.refl _ | exact trivial | exact ⟨Grows.refl _, trivial⟩
       refine val_cons ?_ (fun v2 => ?_)
       ·intro L vs w1 hvs hat hb hI hF; try simp [factsI, Region.binds, Is] at hF
        have hc := (Grows.cells hb).1
        clear hI
        go_simp
        try simp [upd]
        try first | exact Grows.refl _ | exact trivial | exact ⟨Grows.refl _, trivial⟩
       refine val_cons ?_ (fun v3 => ?_)
       ·intro L vs w1 hvs hat hb hI hF; try simp [factsI, Region.binds, Is] at hF
        have hc := (Grows.cells hb).1
        clear hI
        go_simp
        try simp [upd]
        try first | exact Grows.refl _ | exact trivial | exact ⟨Grows.refl _, trivial⟩
       refine val_cons ?_ (fun v4 => ?_)
       ·intro L vs w1 hvs hat hb hI hF; try simp [factsI, Region.binds, Is] at hF
        have hCw := (HCX.out).mono (show Below _ _ _ from hb) (HCX.out).1
        obtain ⟨z0, z1, z2⟩ := cl_cells hCw HX.out
        have lz := hCw.1
        clear hCw
        go_simp
        first | exact Grows.refl _ | exact ⟨Grows.refl _, trivial⟩
       refine val_cons ?_ (fun v5 => ?_)
       ·intro L vs w1 hvs hat hb hI hF; try simp [factsI, Region.binds, Is] at hF
        have hb0 := hb
        go_simp
        refine (HHas.out _).mono ?_
        rintro e w2 ⟨rfl, hb2⟩
        first | exact ⟨rfl, hb2⟩ | exact ⟨_, rfl, hb2, trivial, rfl⟩ | exact ⟨_, rfl, hb2, rfl⟩
       refine val_nil ?_
       intro vs w1 hvs hb hI hF
       simp [Is, Nat.forall_lt_succ_right] at hF
       simp only [Act.put, List.setIfInBounds_toArray, List.set_cons_succ, List.set_cons_zero, hF]
       clear hF
       have hbB : Below wB.heap.size wB w1 := hb
       have HI1 := Lib.hid (And.intro (HI'.out.1.grow hbB) (And.intro (HI'.out.2.1.mono hbB) (HI'.out.2.2.trans (hbB.mono (Nat.le_of_lt HI'.out.1.lt)))))
       obtain ⟨wC, hwC⟩ : ∃ x, x = w1 := ⟨_, rfl⟩
       rw [← hwC] at HI1 ⊢
       clear hwC hbB hb hvs HI' HCX
       cases q with
       | true =>
        have HS : Hid (passQ false L K (i + 1) = (P, G)) := Lib.hid (by rw [HPQ.out]; exact passStep_has HQh.out.symm)
        go_wp2_with fail
        go_roundw
        case rel => exact ⟨i + 1, by omega, by go_num, by rw [HS.out], Lib.hid (by rw [HS.out]; exact HI1.out)⟩
        case measure => simp [intOf]; omega
       | false =>
        go_wp2_with fail
        go_loopw [12, 13] (fun nv kv wx => ∃ k : Nat, k ≤ m ∧ kv = .int .i64 k ∧ nv = .bool (nearQ false (x0, x1, x2) K k) ∧ Hid (Blk wx g8 #[.int .u64 (pl P 0), .int .u64 (pl P 1), .int .u64 (pl P 2), .int .u64 (pl P 3), .int .u64 (pl P 4), .int .u64 (pl P 5), .int .u64 (pl P 6), .int .u64 (pl P 7)] 26 ∧ ClO N3 wx a2 (cellsS K) ∧ Below g8 w2 wx)) (fun _ kv _ => m - (intOf kv).toNat)
        case atStart => exact ⟨0, by omega, rfl, by rw [nearQ_zero], HI1⟩
        case round =>
         clear HI1
         obtain ⟨k, hk, rfl, rfl, HJ⟩ := hrel
         obtain ⟨wD, hwD⟩ : ∃ x, x = wr := ⟨_, rfl⟩
         rw [← hwD] at HJ ⊢
         clear hwD
         have HCX := Lib.hid (HA2.out.2.2.1.mono (by rw [← HG.out]; exact HJ.out.2.2) HA2.out.2.2.1.1)
         by_cases hkm : k < m
         ·obtain ⟨⟨y0, y1, y2⟩, hy⟩ : ∃ x, (cellsS K)[k]? = some x := ⟨_, List.getElem?_eq_getElem (by rw [← HM9.out]; exact hkm)⟩
          have hyin : inG (y0, y1, y2) = true := cellsS_in (List.mem_iff_getElem?.2 ⟨k, hy⟩)
          have hst := nearQ_step false (x0, x1, x2) hy
          rw [nearC_eq] at hst
          obtain ⟨b2, o2, rfl, hC2, hN2⟩ := HJ.out.2.1.at hy
          have HY := Lib.hid (And.intro hy hC2)
          have HF1 := Lib.hid fun W => HFa.out (x0, x1, x2) (y0, y1, y2) HXI.out hyin W
          obtain ⟨F1, hF1⟩ : ∃ F, F = (farC (x0, x1, x2) (y0, y1, y2)).1 := ⟨_, rfl⟩
          obtain ⟨F2, hF2⟩ : ∃ F, F = (farC (x0, x1, x2) (y0, y1, y2)).2 := ⟨_, rfl⟩
          rw [← hF1, ← hF2] at HF1 hst
          obtain ⟨nb, hnb⟩ : ∃ b, b = nearQ false (x0, x1, x2) K k := ⟨_, rfl⟩
          rw [← hnb] at hst ⊢
          have HST := Lib.hid hst
          have hkI : (k : Int) < (m : Int) := by omega
          clear hy hyin hst hC2 hN2 hF1 hF2 hnb
          go_wp2_with fail
          refine wp_region_val Grows (fun _ _ _ => True) [Is (.slice (some ⟨b1, o1, none⟩) n c1'), Is (.int .i64 (i : Nat)), Is (.pointer (some ⟨b1, o1 + i * 3, none⟩)), Is (clV (x0, x1, x2)), Is (.slice (some ⟨b2, o2, none⟩) m c2'), Is (.int .i64 (k : Nat)), Is (.pointer (some ⟨b2, o2 + k * 3, none⟩)), Is (clV (y0, y1, y2)), Is (.tuple #[.int .i64 F1, .int .i64 F2]), Is (.tuple #[.int .i64 F1, .int .i64 F2]), Is (.int .i64 F1), Is (.int .i64 F2), Is (.int .i64 F1), Is (.int .i64 F2)] (by kernel_rfl) (by kernel_rfl) rfl Grows.refl (fun _ _ _ => Grows.trans) (stable_mem ⟨fun _ _ _ h _ => h, fun _ _ _ h _ => h, fun _ _ _ h _ => h, fun _ _ _ h _ => h, fun _ _ _ h _ => h, fun _ _ _ h _ => h, fun _ _ _ h _ => h, fun _ _ _ h _ => h, fun _ _ _ h _ => h, fun _ _ _ h _ => h, fun _ _ _ h _ => h, fun _ _ _ h _ => h, fun _ _ _ h _ => h, fun _ _ _ h _ => h, trivial⟩) wD (Below.drew (Below.refl _ _)) trivial ?_
          refine val_cons ?_ (fun v0 => ?_)
          ·intro L vs w1 hvs hat hb hI hF; try simp [factsI, Region.binds, Is] at hF
           have hc := (Grows.cells hb).1
           clear hI
           go_simp
           try simp [upd]
           try first | exact Grows.refl _ | exact trivial | exact ⟨Grows.refl _, trivial⟩
          refine val_cons ?_ (fun v1 => ?_)
          ·intro L vs w1 hvs hat hb hI hF; try simp [factsI, Region.binds, Is] at hF
           have hc := (Grows.cells hb).1
           clear hI
           go_simp
           try simp [upd]
           try first | exact Grows.refl _ | exact trivial | exact ⟨Grows.refl _, trivial⟩
          refine val_cons ?_ (fun v2 => ?_)
          ·intro L vs w1 hvs hat hb hI hF; try simp [factsI, Region.binds, Is] at hF
           have hc := (Grows.cells hb).1
           clear hI
           go_simp
           try simp [upd]
           try first | exact Grows.refl _ | exact trivial | exact ⟨Grows.refl _, trivial⟩
          refine val_cons ?_ (fun v3 => ?_)
          ·intro L vs w1 hvs hat hb hI hF; try simp [factsI, Region.binds, Is] at hF
           have hCw := (HCX.out).mono (show Below _ _ _ from hb) (HCX.out).1
           obtain ⟨z0, z1, z2⟩ := cl_cells hCw HX.out
           have lz := hCw.1
           clear hCw
           go_simp
           first | exact Grows.refl _ | exact ⟨Grows.refl _, trivial⟩
          refine val_cons ?_ (fun v4 => ?_)
          ·intro L vs w1 hvs hat hb hI hF; try simp [factsI, Region.binds, Is] at hF
           have hc := (Grows.cells hb).1
           clear hI
           go_simp
           try simp [upd]
           try first | exact Grows.refl _ | exact trivial | exact ⟨Grows.refl _, trivial⟩
          refine val_cons ?_ (fun v5 => ?_)
          ·intro L vs w1 hvs hat hb hI hF; try simp [factsI, Region.binds, Is] at hF
           have hc := (Grows.cells hb).1
           clear hI
           go_simp
           try simp [upd]
           try first | exact Grows.refl _ | exact trivial | exact ⟨Grows.refl _, trivial⟩
          refine val_cons ?_ (fun v6 => ?_)
          ·intro L vs w1 hvs hat hb hI hF; try simp [factsI, Region.binds, Is] at hF
           have hc := (Grows.cells hb).1
           clear hI
           go_simp
           try simp [upd]
           try first | exact Grows.refl _ | exact trivial | exact ⟨Grows.refl _, trivial⟩
          refine val_cons ?_ (fun v7 => ?_)
          ·intro L vs w1 hvs hat hb hI hF; try simp [factsI, Region.binds, Is] at hF
           have hCw := (HY.out.2).mono (show Below _ _ _ from hb) (HY.out.2).1
           obtain ⟨z0, z1, z2⟩ := cl_cells hCw HY.out.1
           have lz := hCw.1
           clear hCw
           go_simp
           first | exact Grows.refl _ | exact ⟨Grows.refl _, trivial⟩
          refine val_cons ?_ (fun v8 => ?_)
          ·intro L vs w1 hvs hat hb hI hF; try simp [factsI, Region.binds, Is] at hF
           have hb0 := hb
           go_simp
           refine (HF1.out _).mono ?_
           rintro e w2 ⟨rfl, hb2⟩
           first | exact ⟨rfl, hb2⟩ | exact ⟨_, rfl, hb2, trivial, rfl⟩ | exact ⟨_, rfl, hb2, rfl⟩
          refine val_cons ?_ (fun v9 => ?_)
          ·intro L vs w1 hvs hat hb hI hF; try simp [factsI, Region.binds, Is] at hF
           have hc := (Grows.cells hb).1
           clear hI
           go_simp
           try simp [upd]
           try first | exact Grows.refl _ | exact trivial | exact ⟨Grows.refl _, trivial⟩
          refine val_cons ?_ (fun v10 => ?_)
          ·intro L vs w1 hvs hat hb hI hF; try simp [factsI, Region.binds, Is] at hF
           have hc := (Grows.cells hb).1
           clear hI
           go_simp
           try simp [upd]
           try first | exact Grows.refl _ | exact trivial | exact ⟨Grows.refl _, trivial⟩
          refine val_cons ?_ (fun v11 => ?_)
          ·intro L vs w1 hvs hat hb hI hF; try simp [factsI, Region.binds, Is] at hF
           have hc := (Grows.cells hb).1
           clear hI
           go_simp
           try simp [upd]
           try first | exact Grows.refl _ | exact trivial | exact ⟨Grows.refl _, trivial⟩
          refine val_cons ?_ (fun v12 => ?_)
          ·intro L vs w1 hvs hat hb hI hF; try simp [factsI, Region.binds, Is] at hF
           have hc := (Grows.cells hb).1
           clear hI
           go_simp
           try simp [upd]
           try first | exact Grows.refl _ | exact trivial | exact ⟨Grows.refl _, trivial⟩
          refine val_cons ?_ (fun v13 => ?_)
          ·intro L vs w1 hvs hat hb hI hF; try simp [factsI, Region.binds, Is] at hF
           have hc := (Grows.cells hb).1
           clear hI
           go_simp
           try simp [upd]
           try first | exact Grows.refl _ | exact trivial | exact ⟨Grows.refl _, trivial⟩
          refine val_nil ?_
          intro vs w1 hvs hb hI hF
          simp [Is, Nat.forall_lt_succ_right] at hF
          simp only [Act.put, List.setIfInBounds_toArray, List.set_cons_succ, List.set_cons_zero, hF]
          clear hF
          have hbB : Below wD.heap.size wD w1 := hb
          have HJ1 := Lib.hid (And.intro (HJ.out.1.grow hbB) (And.intro (HJ.out.2.1.mono hbB) (HJ.out.2.2.trans (hbB.mono (Nat.le_of_lt HJ.out.1.lt)))))
          obtain ⟨wE, hwE⟩ : ∃ x, x = w1 := ⟨_, rfl⟩
          rw [← hwE] at HJ1 ⊢
          clear hwE hbB hb hvs HJ HCX HY
          cases nb with
          | true =>
           have HNV : Hid (nearQ false (x0, x1, x2) K (k + 1) = true) := Lib.hid (by rw [HST.out]; rfl)
           go_wp2_with fail
           go_roundw
           case rel => exact ⟨k + 1, by omega, by go_num, by rw [HNV.out], HJ1⟩
           case measure => simp [intOf]; omega
          | false =>
           by_cases hF : F2 = 1
           ·have HNV : Hid (nearQ false (x0, x1, x2) K (k + 1) = true) := Lib.hid (by rw [HST.out]; simp [hF])
            go_wp2_with fail
            go_roundw
            case rel => exact ⟨k + 1, by omega, by go_num, by rw [HNV.out] <;> simp [hF], HJ1⟩
            case measure => simp [intOf]; omega
           ·have HNV : Hid (nearQ false (x0, x1, x2) K (k + 1) = false) := Lib.hid (by rw [HST.out]; simp [hF])
            go_wp2_with fail
            go_roundw
            case rel => exact ⟨k + 1, by omega, by go_num, by rw [HNV.out] <;> simp [hF], HJ1⟩
            case measure => simp [intOf]; omega
         ·obtain rfl : k = m := by omega
          have hfin : nearQ false (x0, x1, x2) K k = (cellsS K).any fun e => nearC false (x0, x1, x2) e := by rw [HM9.out]; exact nearQ_end false (x0, x1, x2) K
          obtain ⟨nb, hnb⟩ : ∃ b, b = nearQ false (x0, x1, x2) K k := ⟨_, rfl⟩
          rw [← hnb] at hfin ⊢
          have HFN := Lib.hid hfin
          clear hfin hnb
          cases nb with
          | false =>
           have HS : Hid (passQ false L K (i + 1) = (P, G)) := Lib.hid (by rw [HPQ.out]; exact passStep_far HQh.out.symm HFN.out.symm)
           go_wp2_with fail
           go_roundw
           case rel => exact ⟨i + 1, by omega, by go_num, by rw [HS.out], Lib.hid (by rw [HS.out]; exact HJ.out)⟩
           case measure => simp [intOf]; omega
          | true =>
           have HS : Hid (passQ false L K (i + 1) = (withS P (x0, x1, x2), true)) := Lib.hid (by rw [HPQ.out]; exact passStep_near HQh.out.symm HFN.out.symm)
           have HW1' := Lib.hid fun W => HWi.out P (x0, x1, x2) HXI.out W
           obtain ⟨Q, hQ⟩ : ∃ Q, Q = withS P (x0, x1, x2) := ⟨_, rfl⟩
           rw [← hQ] at HS HW1'
           clear hQ
           go_wp2_with fail
           refine wp_region_grow 6 [Is (solV P), Is (.slice (some ⟨b1, o1, none⟩) n c1'), Is (.int .i64 (i : Nat)), Is (.pointer (some ⟨b1, o1 + i * 3, none⟩)), Is (clV (x0, x1, x2)), Is (solV Q)] (by kernel_rfl) (by kernel_rfl) rfl ⟨fun _ _ _ h _ => h, fun _ _ _ h _ => h, fun _ _ _ h _ => h, fun _ _ _ h _ => h, fun _ _ _ h _ => h, fun _ _ _ h _ => h, trivial⟩ ?_
           simp only [List.take_succ_cons, List.take_zero, List.drop_succ_cons, List.drop_zero]
           refine rel_cons ?_ (fun v0 => ?_)
           ·intro w1 hb hF; have hc := (Grows.cells hb).1; have hf := (Grows.cells hb).2; try simp [facts, Is] at hF
            have D := (HJ.out.1).grow (show Below _ _ _ from hb); have cD := D.cell; have lD := D.lt; clear D
            go_simp
            first | exact Grows.refl _ | exact ⟨Grows.refl _, trivial⟩
           refine rel_cons ?_ (fun v1 => ?_)
           ·intro w1 hb hF; have hc := (Grows.cells hb).1; have hf := (Grows.cells hb).2; try simp [facts, Is] at hF
            go_simp
            exact Grows.refl _
           refine rel_cons ?_ (fun v2 => ?_)
           ·intro w1 hb hF; have hc := (Grows.cells hb).1; have hf := (Grows.cells hb).2; try simp [facts, Is] at hF
            go_simp
            exact Grows.refl _
           refine rel_cons ?_ (fun v3 => ?_)
           ·intro w1 hb hF; have hc := (Grows.cells hb).1; have hf := (Grows.cells hb).2; try simp [facts, Is] at hF
            go_simp
            exact Grows.refl _
           refine rel_cons ?_ (fun v4 => ?_)
           ·intro w1 hb hF; have hc := (Grows.cells hb).1; have hf := (Grows.cells hb).2; try simp [facts, Is] at hF
            have hCw := (HCX.out).mono (show Below _ _ _ from hb) (HCX.out).1
            obtain ⟨z0, z1, z2⟩ := cl_cells hCw HX.out
            have lz := hCw.1
            clear hCw
            go_simp
            first | exact Grows.refl _ | exact ⟨Grows.refl _, trivial⟩
           refine rel_cons ?_ (fun v5 => ?_)
           ·intro w1 hb hF; have hc := (Grows.cells hb).1; have hf := (Grows.cells hb).2; try simp [facts, Is] at hF
            go_simp
            refine (HW1'.out _).mono ?_
            rintro e w2 ⟨rfl, hb2⟩
            first | exact ⟨rfl, hb2⟩ | exact ⟨_, rfl, hb2, trivial, rfl⟩
           refine rel_nil ?_
           intro w1 hb hF
           simp [Is, Nat.forall_lt_succ_right] at hF
           simp only [Act.put, List.setIfInBounds_toArray, List.set_cons_succ, List.set_cons_zero, hF]
           clear hF
           have hb5 : Below wD.heap.size wD w1 := hb
           have hM1 := HJ.out.1.grow hb5
           have hgn := HGN.out
           have HE9 : Hid (Blk (w1.setRow g8 #[.int .u64 (pl Q 0), .int .u64 (pl Q 1), .int .u64 (pl Q 2), .int .u64 (pl Q 3), .int .u64 (pl Q 4), .int .u64 (pl Q 5), .int .u64 (pl Q 6), .int .u64 (pl Q 7)]) g8 #[.int .u64 (pl Q 0), .int .u64 (pl Q 1), .int .u64 (pl Q 2), .int .u64 (pl Q 3), .int .u64 (pl Q 4), .int .u64 (pl Q 5), .int .u64 (pl Q 6), .int .u64 (pl Q 7)] 26 ∧ ClO N3 (w1.setRow g8 #[.int .u64 (pl Q 0), .int .u64 (pl Q 1), .int .u64 (pl Q 2), .int .u64 (pl Q 3), .int .u64 (pl Q 4), .int .u64 (pl Q 5), .int .u64 (pl Q 6), .int .u64 (pl Q 7)]) a2 (cellsS K) ∧ Below g8 w2 (w1.setRow g8 #[.int .u64 (pl Q 0), .int .u64 (pl Q 1), .int .u64 (pl Q 2), .int .u64 (pl Q 3), .int .u64 (pl Q 4), .int .u64 (pl Q 5), .int .u64 (pl Q 6), .int .u64 (pl Q 7)])) := Lib.hid ⟨hM1.rowS _, (HJ.out.2.1.mono hb5).row hgn _, bel_rowB (HJ.out.2.2.trans (hb5.mono (Nat.le_of_lt HJ.out.1.lt))) (Nat.le_refl _) _⟩
           have rg := hM1.row; have lg2 := hM1.lt
           rw [← hM1.rw]
           clear hM1 hb hb5 hgn
           go_wp2_with fail
           go_roundw
           case rel => exact ⟨i + 1, by omega, by go_num, by rw [HS.out], Lib.hid (by rw [HS.out]; exact HE9.out)⟩
           case measure => simp [intOf]; omega
      ·obtain rfl : i = n := by omega
       go_wp2_with fail
       go_roundw
       case rel => exact ⟨_, _, rfl, Lib.hid ⟨HPN.out.1, HI.out.1, HI.out.2.2⟩⟩
       case measure =>
        rw [solAt_eq HI.out.1, HSA.out]
        have h := HPN.out.2
        cases hg : (passQ false L K i).2 with
        | true => rw [hg] at h; simp only [if_true] at h; show 2 * _ + 1 < 2 * _ + 1; omega
        | false => rw [hg] at h; simp only [Bool.false_eq_true, if_false] at h; show 2 * _ + 0 < 2 * _ + 1; omega
theorem refClasses_spec (s : Sol) (f : Bool) (w : World) : Calls Tryz.prog 108 #[solV s, .bool f] w fun e w' => ∃ u, e = .returned u ∧ OwnSo w' w.heap.size u (classesS (stepsL f) s) ∧ Below w.heap.size w w' := by
 cases f
 ·exact refClasses_false s w
 ·exact refClasses_true s w
end Go.Proofs.YtkfimbonmnoglaaGreatDoor
end
