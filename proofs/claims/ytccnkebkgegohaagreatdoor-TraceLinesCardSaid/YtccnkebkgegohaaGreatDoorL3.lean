import Derived.Test.YtccnkebkgegohaaGreatDoorL2
import Derived.Deep.Cut
/-
  Given contracts of functions of the program, and laws for them, one behind the other.
-/
set_option linter.unusedVariables false
set_option linter.unusedSimpArgs false
set_option linter.unusedSectionVars false
section
namespace Go.Proofs.YtccnkebkgegohaaGreatDoor.Ln
open Go.RowKit Go.Rel Go.Draw Go.Solid
set_option maxRecDepth 100000
/-! Read of actions -/
abbrev actX (a : Ax) : Value := .agg #[.int .u8 a.1, .int .i64 a.2.1, .int .u64 (pl a.2.2 0), .int .u64 (pl a.2.2 1), .int .u64 (pl a.2.2 2), .int .u64 (pl a.2.2 3), .int .u64 (pl a.2.2 4), .int .u64 (pl a.2.2 5), .int .u64 (pl a.2.2 6), .int .u64 (pl a.2.2 7)]
theorem zact : Ending.returned (.tuple #[.agg #[.int .u8 0, .int .i64 0, .int .u64 0, .int .u64 0, .int .u64 0, .int .u64 0, .int .u64 0, .int .u64 0, .int .u64 0, .int .u64 0], .int .i64 4]) = Ending.returned (.tuple #[actX (0, 0, 0), .int .i64 4]) := by simp only [actX, pl_zero]; rfl
theorem atoi_anyX {w : World} (hX : EnvX w) (s : List UInt8) (hs : s.length ≤ 1000) : Calls Tryz.prog 138 #[.string ⟨s.toArray⟩] w fun e w' => (∃ er, e = .returned (.tuple #[.int .i64 (atoiX s), er])) ∧ Below w.heap.size w w' := by
 have hsz : (⟨s.toArray⟩ : ByteArray).size = s.length := rfl
 cases h : Lib.atoiAll s
 ·rename_i v
  refine (Tryz.strconv_Atoi_ok ⟨s.toArray⟩ (by omega) v h w).mono ?_
  rintro e w' ⟨rfl, hw⟩
  refine ⟨⟨_, by unfold atoiX; rw [h]⟩, ?_⟩
  rcases hw with rfl | ⟨t, rfl⟩
  ·exact Below.refl _ _
  ·exact Lib.bytesWorld_below _ _ _
 ·obtain ⟨_, ⟨te, pe, hv⟩, _⟩ := hX
  refine (Tryz.strconv_Atoi_syntax ⟨s.toArray⟩ (by omega) h _ w hv (.inr ⟨te, pe, rfl⟩)).mono ?_
  rintro e w' ⟨N, rfl, _, _, hb⟩
  exact ⟨⟨_, by unfold atoiX; rw [h]⟩, hb⟩
 ·obtain ⟨_, _, ⟨te, pe, hv⟩⟩ := hX
  refine (Tryz.strconv_Atoi_range ⟨s.toArray⟩ (by omega) h _ w hv (.inr ⟨te, pe, rfl⟩)).mono ?_
  rintro e w' ⟨N, rfl, _, _, hb⟩
  exact ⟨⟨_, by unfold atoiX; rw [h]⟩, hb⟩
theorem idx_anyX {W : World} {g : Nat} {t : TypeId} (h : Blk W g #[.string ⟨#[]⟩, .string ⟨#[99, 117, 116]⟩, .string ⟨#[102, 105, 116]⟩, .string ⟨#[116, 97, 107, 101]⟩] t) (l : List UInt8) : Calls Tryz.prog 136 #[.slice (some ⟨g, 0, none⟩) 4 4, .string ⟨(wordX l).toArray⟩] W fun e w' => e = .returned (.int .i64 (idxX l)) ∧ w' = W := by
 have hc : ∀ j, j < wordsX.length → W.cell? ⟨g, 0 + j, none⟩ = some (.string (wordsX.getD j ByteArray.empty)) := by
  intro j hj
  rw [Nat.zero_add, h.cell]
  have hj4 : j < 4 := hj
  obtain rfl | rfl | rfl | rfl : j = 0 ∨ j = 1 ∨ j = 2 ∨ j = 3 := by omega
  all_goals rfl
 refine (Tryz.slices_Index_string g 0 4 4 wordsX ⟨(wordX l).toArray⟩ W (by decide) (by decide) hc).mono ?_
 rintro e w' ⟨rfl, rfl⟩
 exact ⟨rfl, rfl⟩
theorem cut_anyX (l : List UInt8) (hl : l.length ≤ 1000) {w : World} (hX : EnvX w) : Calls Tryz.prog 135 #[.string ⟨l.toArray⟩, .string ⟨#[32]⟩] w fun e w' => (∃ b, e = .returned (.tuple #[.string ⟨(wordX l).toArray⟩, .string ⟨(restX l).toArray⟩, .bool b])) ∧ Below w.heap.size w w' := by
 obtain ⟨⟨m, hm⟩, _⟩ := hX
 refine (Tryz.strings_Cut ⟨l.toArray⟩ ⟨#[32]⟩ m w (by show l.length < _; omega) hm).mono ?_
 rintro e w' ⟨rfl, n, rfl⟩
 exact ⟨⟨_, rfl⟩, bel_drewN (bel_refl w) n⟩
set_option maxHeartbeats 16000000 in
theorem ReadA (l : List UInt8) (hl : l.length ≤ 300) (w : World) (hX : EnvX w) (hT : Tab w)
  (hW : ∀ (K : Nat) (p : Int) (s : Sol) (W : World), Below w.heap.size w W → Calls Tryz.prog 81 #[actX (K, p, s)] W fun e w' => e = .returned (.tuple #[.string ⟨(wrXM (K, p, s)).1.toArray⟩, .int .i64 (wrXM (K, p, s)).2]) ∧ Below W.heap.size W w') :
  Calls Tryz.prog 83 #[.string ⟨l.toArray⟩] w fun e w' => e = .returned (.tuple #[actX (rdX l).1, .int .i64 (rdX l).2]) ∧ Below w.heap.size w w' := by
 have HC := Lib.hid (fun W (hb : Below w.heap.size w W) => cut_anyX l (by omega) (hX.grow hb hX.size))
 have HI := Lib.hid (fun W g (hB : Blk W g #[.string ⟨#[]⟩, .string ⟨#[99, 117, 116]⟩, .string ⟨#[102, 105, 116]⟩, .string ⟨#[116, 97, 107, 101]⟩] 9) => idx_anyX hB l)
 have hrl := rest_len l
 have HR := Lib.hid (fun W (hb : Below w.heap.size w W) => solidRead_n (restX l) (by omega) W (hX.grow hb hX.size) (hT.grow hb))
 have HA := Lib.hid (fun W (hb : Below w.heap.size w W) => atoi_anyX (hX.grow hb hX.size) (restX l) (by omega))
 have HW := Lib.hid hW
 clear hW hrl hX hT
 obtain ⟨⟨c, er⟩, hrd⟩ : ∃ x, rdX l = x := ⟨_, rfl⟩
 have hpx : pX l = if kindX l = 1 then (1, 0, (readM (restX l)).1) else (kindX l, atoiX (restX l), 0) := rfl
 have hyes := @read_yes l (pX l)
 have hno := @read_not l
 rw [hrd] at hyes hno
 rw [hrd]
 have hkk : kindX l = (max 0 (idxX l)).toNat := rfl
 have hix := idxX_cases l
 obtain ⟨x, hx⟩ : ∃ x, x = (readM (restX l)).1 := ⟨_, rfl⟩
 obtain ⟨xe, hxe⟩ : ∃ x, x = (readM (restX l)).2 := ⟨_, rfl⟩
 obtain ⟨pv, hpv⟩ : ∃ x, x = atoiX (restX l) := ⟨_, rfl⟩
 rw [← hx, ← hxe] at HR
 rw [← hx, ← hpv] at hpx
 rw [← hpv] at HA
 obtain ⟨WD, hWD⟩ : ∃ x : ByteArray, x = ⟨(wordX l).toArray⟩ := ⟨_, rfl⟩
 obtain ⟨RS, hRS⟩ : ∃ x : ByteArray, x = ⟨(restX l).toArray⟩ := ⟨_, rfl⟩
 rw [← hWD, ← hRS] at HC
 rw [← hWD] at HI
 rw [← hRS] at HR HA
 obtain ⟨B, hB⟩ : ∃ x : ByteArray, x = ⟨l.toArray⟩ := ⟨_, rfl⟩
 rw [← hB] at HC ⊢
 obtain ⟨ix, hixx⟩ : ∃ x, x = idxX l := ⟨_, rfl⟩
 rw [← hixx] at HI hkk hix
 have HFIN := Lib.hid (And.intro hpx (And.intro hyes (And.intro hno (And.intro hkk hB))))
 clear hpx hyes hno hkk hB hx hxe hpv hWD hRS hixx hrd hl
 go_enter Tryz.func83, Tryz.ntmps83
 go_wp2_with fail
 refine (HC.out _ (by repeat (first | with_reducible exact bel_refl _ | with_reducible assumption | with_reducible refine bel_drewN ?_ _ | with_reducible refine bel_drew ?_ | with_reducible refine bel_alloc ?_ _ | with_reducible refine bel_row ?_ ?_ _ | with_reducible refine bel_set ?_ ?_ _ | refine bel_trans ?_ (by with_reducible assumption) | (simp; done) | (simp; omega)))).mono ?_
 rintro e w1 ⟨⟨b, rfl⟩, hb1⟩
 have hbw1 : Below w.heap.size w w1 := bel_trans (bel_alloc (bel_refl w) (.cells #[.int .u8 0, .int .i64 0, .int .u64 0, .int .u64 0, .int .u64 0, .int .u64 0, .int .u64 0, .int .u64 0, .int .u64 0, .int .u64 0] 46)) hb1
 have k0 := (Blk.new w #[.int .u8 0, .int .i64 0, .int .u64 0, .int .u64 0, .int .u64 0, .int .u64 0, .int .u64 0, .int .u64 0, .int .u64 0, .int .u64 0] 46).grow hb1
 have H1 := Lib.hid (And.intro k0 hbw1); clear k0 hbw1 hb1
 go_wp2_with fail
 have kw := Blk.new w1 #[.string ⟨#[]⟩, .string ⟨#[99, 117, 116]⟩, .string ⟨#[102, 105, 116]⟩, .string ⟨#[116, 97, 107, 101]⟩] 9
 refine (HI.out _ _ kw).mono ?_
 rintro e w2 ⟨rfl, hw2⟩
 have k2 : Blk w2 w.heap.size #[.int .u8 0, .int .i64 0, .int .u64 0, .int .u64 0, .int .u64 0, .int .u64 0, .int .u64 0, .int .u64 0, .int .u64 0, .int .u64 0] 46 := by rw [hw2]; exact H1.out.1.alloc _
 have hb2 : Below w.heap.size w w2 := by rw [hw2]; exact bel_alloc H1.out.2 _
 have H2 := Lib.hid (And.intro k2 hb2); clear k2 hb2 kw hw2 H1
 rcases hix with rfl | rfl | rfl | rfl | rfl
 ·have hm : max (0 : Int) (-1) = 0 := rfl
  go_wp2_with fail
  have HPX : Hid (pX l = (0, pv, 0)) := Lib.hid (by rw [HFIN.out.1, HFIN.out.2.2.2.1]; rfl)
  obtain ⟨⟨LL, ee⟩, hwm⟩ : ∃ y, wrXM (0, pv, 0) = y := ⟨_, rfl⟩
  have HWk : Hid (∀ W, Below w.heap.size w W → Calls Tryz.prog 81 #[.agg #[.int .u8 0, .int .i64 pv, .int .u64 0, .int .u64 0, .int .u64 0, .int .u64 0, .int .u64 0, .int .u64 0, .int .u64 0, .int .u64 0]] W fun e w' => e = .returned (.tuple #[.string ⟨LL.toArray⟩, .int .i64 ee]) ∧ Below W.heap.size W w') := Lib.hid fun W hb => by
   have := HW.out 0 pv 0 W hb
   rw [hwm] at this
   simp only [actX, pl_zero] at this
   exact this
  have HWM := Lib.hid hwm
  have htri : (ee = 0 ∧ LL = l) ∨ ee ≠ 0 ∨ (ee = 0 ∧ LL ≠ l) := by
   by_cases h : ee = 0
   ·by_cases h' : LL = l
    ·exact .inl ⟨h, h'⟩
    ·exact .inr (.inr ⟨h, h'⟩)
   ·exact .inr (.inl h)
  clear hwm hm
  refine (HA.out _ (bel_alloc H2.out.2 _)).mono ?_
  rintro e w4 ⟨⟨er2, rfl⟩, hb4⟩
  have k7 := (Blk.new w2 #[.int .u8 0, .int .i64 0, .int .u64 0, .int .u64 0, .int .u64 0, .int .u64 0, .int .u64 0, .int .u64 0, .int .u64 0, .int .u64 0] 46).grow hb4
  have k0 := (H2.out.1.alloc (.cells #[.int .u8 0, .int .i64 0, .int .u64 0, .int .u64 0, .int .u64 0, .int .u64 0, .int .u64 0, .int .u64 0, .int .u64 0, .int .u64 0] 46)).grow hb4
  have hbw := bel_trans (bel_alloc H2.out.2 (.cells #[.int .u8 0, .int .i64 0, .int .u64 0, .int .u64 0, .int .u64 0, .int .u64 0, .int .u64 0, .int .u64 0, .int .u64 0, .int .u64 0] 46)) hb4
  obtain ⟨g7, hg7⟩ : ∃ g, g = w2.heap.size := ⟨_, rfl⟩
  have hg7w : w.heap.size ≤ g7 := by rw [hg7]; exact H2.out.2.size
  have hg7n : w.heap.size < g7 := by rw [hg7]; exact H2.out.1.lt
  rw [← hg7] at k7 ⊢
  clear hg7 hb4
  have r7 := k7.row; have l7 := k7.lt
  have K7 := Lib.hid (k7.rowS #[.int .u8 0, .int .i64 pv, .int .u64 0, .int .u64 0, .int .u64 0, .int .u64 0, .int .u64 0, .int .u64 0, .int .u64 0, .int .u64 0])
  have K0 := Lib.hid (k0.rowO (g := g7) #[.int .u8 0, .int .i64 pv, .int .u64 0, .int .u64 0, .int .u64 0, .int .u64 0, .int .u64 0, .int .u64 0, .int .u64 0, .int .u64 0] (by omega))
  have hbw5 := bel_row hbw (g := g7) hg7w #[.int .u8 0, .int .i64 pv, .int .u64 0, .int .u64 0, .int .u64 0, .int .u64 0, .int .u64 0, .int .u64 0, .int .u64 0, .int .u64 0]
  rw [← k7.rw]
  clear k0 k7 hbw
  go_wp2_with fail

  refine (HWk.out _ hbw5).mono ?_
  rintro e w5 ⟨rfl, hb5⟩
  have k7 := K7.out.grow hb5
  have k0 := K0.out.grow hb5
  have hbF := bel_trans hbw5 hb5
  clear hb5 hbw5 HWk K7 K0
  rcases htri with ⟨rfl, hLL⟩ | hee | ⟨rfl, hLL⟩
  ·have HCC : Hid (c = (0, pv, 0) ∧ er = 0) := Lib.hid (by
    have h := HFIN.out.2.1 (by rw [HPX.out, HWM.out, hLL])
    rw [HPX.out] at h
    exact ⟨congrArg Prod.fst h, congrArg Prod.snd h⟩)
   have hLB : (⟨LL.toArray⟩ : ByteArray) = B := by rw [hLL, HFIN.out.2.2.2.2]
   rw [hLB]
   clear hLB hLL
   have kk := k7.rowO (g := w.heap.size) #[.int .u8 0, .int .i64 0, .int .u64 0, .int .u64 0, .int .u64 0, .int .u64 0, .int .u64 0, .int .u64 0, .int .u64 0, .int .u64 0] (by omega)
   have c7 := kk.cell; have l7 := kk.lt
   clear kk
   have r0 := k0.row; have l0 := k0.lt
   have cF := (k0.rowS #[.int .u8 0, .int .i64 pv, .int .u64 0, .int .u64 0, .int .u64 0, .int .u64 0, .int .u64 0, .int .u64 0, .int .u64 0, .int .u64 0]).cell
   have hb6 := bel_row hbF (g := w.heap.size) (Nat.le_refl _) #[.int .u8 0, .int .i64 pv, .int .u64 0, .int .u64 0, .int .u64 0, .int .u64 0, .int .u64 0, .int .u64 0, .int .u64 0, .int .u64 0]
   rw [← k0.rw]
   clear k0 k7
   go_wp2_with fail
   exact bodyPost_ret (v := .tuple #[.agg #[.int .u8 0, .int .i64 pv, .int .u64 0, .int .u64 0, .int .u64 0, .int .u64 0, .int .u64 0, .int .u64 0, .int .u64 0, .int .u64 0], .int .i64 0]) (by simp [results, Tryz.results83, go_sem, cF]) rfl ⟨by rw [HCC.out.1, HCC.out.2]; simp only [actX, pl_zero]; rfl, hb6⟩
  ·have HCC : Hid (c = (0, 0, 0) ∧ er = 4) := Lib.hid (by
    have h := HFIN.out.2.2.1 (by rw [HPX.out, HWM.out]; intro e; exact hee (congrArg Prod.snd e))
    exact ⟨congrArg Prod.fst h, congrArg Prod.snd h⟩)
   have dee : (ee == 0) = false := by simpa using hee
   have r0 := k0.row; have l0 := k0.lt
   have cF := (k0.rowS #[.int .u8 0, .int .i64 0, .int .u64 0, .int .u64 0, .int .u64 0, .int .u64 0, .int .u64 0, .int .u64 0, .int .u64 0, .int .u64 0]).cell
   have hb6 := bel_row hbF (g := w.heap.size) (Nat.le_refl _) #[.int .u8 0, .int .i64 0, .int .u64 0, .int .u64 0, .int .u64 0, .int .u64 0, .int .u64 0, .int .u64 0, .int .u64 0, .int .u64 0]
   rw [← k0.rw]
   clear k0 k7
   go_wp2_with fail
   exact bodyPost_ret (v := .tuple #[.agg #[.int .u8 0, .int .i64 0, .int .u64 0, .int .u64 0, .int .u64 0, .int .u64 0, .int .u64 0, .int .u64 0, .int .u64 0, .int .u64 0], .int .i64 4]) (by simp [results, Tryz.results83, go_sem, cF]) rfl ⟨by rw [HCC.out.1, HCC.out.2]; exact zact, hb6⟩
  ·have HCC : Hid (c = (0, 0, 0) ∧ er = 4) := Lib.hid (by
    have h := HFIN.out.2.2.1 (by rw [HPX.out, HWM.out]; intro e; exact hLL (congrArg Prod.fst e))
    exact ⟨congrArg Prod.fst h, congrArg Prod.snd h⟩)
   have htl := bytes_ne (show ¬ (⟨LL.toArray⟩ : ByteArray) = B by rw [HFIN.out.2.2.2.2]; intro e; exact hLL (bytes_inj e))
   obtain ⟨LB, hLB⟩ : ∃ x : ByteArray, x = ⟨LL.toArray⟩ := ⟨_, rfl⟩
   rw [← hLB] at htl ⊢
   clear hLL hLB
   have r0 := k0.row; have l0 := k0.lt
   have cF := (k0.rowS #[.int .u8 0, .int .i64 0, .int .u64 0, .int .u64 0, .int .u64 0, .int .u64 0, .int .u64 0, .int .u64 0, .int .u64 0, .int .u64 0]).cell
   have hb6 := bel_row hbF (g := w.heap.size) (Nat.le_refl _) #[.int .u8 0, .int .i64 0, .int .u64 0, .int .u64 0, .int .u64 0, .int .u64 0, .int .u64 0, .int .u64 0, .int .u64 0, .int .u64 0]
   rw [← k0.rw]
   clear k0 k7
   go_wp2_with fail
   exact bodyPost_ret (v := .tuple #[.agg #[.int .u8 0, .int .i64 0, .int .u64 0, .int .u64 0, .int .u64 0, .int .u64 0, .int .u64 0, .int .u64 0, .int .u64 0, .int .u64 0], .int .i64 4]) (by simp [results, Tryz.results83, go_sem, cF]) rfl ⟨by rw [HCC.out.1, HCC.out.2]; exact zact, hb6⟩
 ·have hm : max (0 : Int) 0 = 0 := rfl
  go_wp2_with fail
  have HPX : Hid (pX l = (0, pv, 0)) := Lib.hid (by rw [HFIN.out.1, HFIN.out.2.2.2.1]; rfl)
  obtain ⟨⟨LL, ee⟩, hwm⟩ : ∃ y, wrXM (0, pv, 0) = y := ⟨_, rfl⟩
  have HWk : Hid (∀ W, Below w.heap.size w W → Calls Tryz.prog 81 #[.agg #[.int .u8 0, .int .i64 pv, .int .u64 0, .int .u64 0, .int .u64 0, .int .u64 0, .int .u64 0, .int .u64 0, .int .u64 0, .int .u64 0]] W fun e w' => e = .returned (.tuple #[.string ⟨LL.toArray⟩, .int .i64 ee]) ∧ Below W.heap.size W w') := Lib.hid fun W hb => by
   have := HW.out 0 pv 0 W hb
   rw [hwm] at this
   simp only [actX, pl_zero] at this
   exact this
  have HWM := Lib.hid hwm
  have htri : (ee = 0 ∧ LL = l) ∨ ee ≠ 0 ∨ (ee = 0 ∧ LL ≠ l) := by
   by_cases h : ee = 0
   ·by_cases h' : LL = l
    ·exact .inl ⟨h, h'⟩
    ·exact .inr (.inr ⟨h, h'⟩)
   ·exact .inr (.inl h)
  clear hwm hm
  refine (HA.out _ (bel_alloc H2.out.2 _)).mono ?_
  rintro e w4 ⟨⟨er2, rfl⟩, hb4⟩
  have k7 := (Blk.new w2 #[.int .u8 0, .int .i64 0, .int .u64 0, .int .u64 0, .int .u64 0, .int .u64 0, .int .u64 0, .int .u64 0, .int .u64 0, .int .u64 0] 46).grow hb4
  have k0 := (H2.out.1.alloc (.cells #[.int .u8 0, .int .i64 0, .int .u64 0, .int .u64 0, .int .u64 0, .int .u64 0, .int .u64 0, .int .u64 0, .int .u64 0, .int .u64 0] 46)).grow hb4
  have hbw := bel_trans (bel_alloc H2.out.2 (.cells #[.int .u8 0, .int .i64 0, .int .u64 0, .int .u64 0, .int .u64 0, .int .u64 0, .int .u64 0, .int .u64 0, .int .u64 0, .int .u64 0] 46)) hb4
  obtain ⟨g7, hg7⟩ : ∃ g, g = w2.heap.size := ⟨_, rfl⟩
  have hg7w : w.heap.size ≤ g7 := by rw [hg7]; exact H2.out.2.size
  have hg7n : w.heap.size < g7 := by rw [hg7]; exact H2.out.1.lt
  rw [← hg7] at k7 ⊢
  clear hg7 hb4
  have r7 := k7.row; have l7 := k7.lt
  have K7 := Lib.hid (k7.rowS #[.int .u8 0, .int .i64 pv, .int .u64 0, .int .u64 0, .int .u64 0, .int .u64 0, .int .u64 0, .int .u64 0, .int .u64 0, .int .u64 0])
  have K0 := Lib.hid (k0.rowO (g := g7) #[.int .u8 0, .int .i64 pv, .int .u64 0, .int .u64 0, .int .u64 0, .int .u64 0, .int .u64 0, .int .u64 0, .int .u64 0, .int .u64 0] (by omega))
  have hbw5 := bel_row hbw (g := g7) hg7w #[.int .u8 0, .int .i64 pv, .int .u64 0, .int .u64 0, .int .u64 0, .int .u64 0, .int .u64 0, .int .u64 0, .int .u64 0, .int .u64 0]
  rw [← k7.rw]
  clear k0 k7 hbw
  go_wp2_with fail

  refine (HWk.out _ hbw5).mono ?_
  rintro e w5 ⟨rfl, hb5⟩
  have k7 := K7.out.grow hb5
  have k0 := K0.out.grow hb5
  have hbF := bel_trans hbw5 hb5
  clear hb5 hbw5 HWk K7 K0
  rcases htri with ⟨rfl, hLL⟩ | hee | ⟨rfl, hLL⟩
  ·have HCC : Hid (c = (0, pv, 0) ∧ er = 0) := Lib.hid (by
    have h := HFIN.out.2.1 (by rw [HPX.out, HWM.out, hLL])
    rw [HPX.out] at h
    exact ⟨congrArg Prod.fst h, congrArg Prod.snd h⟩)
   have hLB : (⟨LL.toArray⟩ : ByteArray) = B := by rw [hLL, HFIN.out.2.2.2.2]
   rw [hLB]
   clear hLB hLL
   have kk := k7.rowO (g := w.heap.size) #[.int .u8 0, .int .i64 0, .int .u64 0, .int .u64 0, .int .u64 0, .int .u64 0, .int .u64 0, .int .u64 0, .int .u64 0, .int .u64 0] (by omega)
   have c7 := kk.cell; have l7 := kk.lt
   clear kk
   have r0 := k0.row; have l0 := k0.lt
   have cF := (k0.rowS #[.int .u8 0, .int .i64 pv, .int .u64 0, .int .u64 0, .int .u64 0, .int .u64 0, .int .u64 0, .int .u64 0, .int .u64 0, .int .u64 0]).cell
   have hb6 := bel_row hbF (g := w.heap.size) (Nat.le_refl _) #[.int .u8 0, .int .i64 pv, .int .u64 0, .int .u64 0, .int .u64 0, .int .u64 0, .int .u64 0, .int .u64 0, .int .u64 0, .int .u64 0]
   rw [← k0.rw]
   clear k0 k7
   go_wp2_with fail
   exact bodyPost_ret (v := .tuple #[.agg #[.int .u8 0, .int .i64 pv, .int .u64 0, .int .u64 0, .int .u64 0, .int .u64 0, .int .u64 0, .int .u64 0, .int .u64 0, .int .u64 0], .int .i64 0]) (by simp [results, Tryz.results83, go_sem, cF]) rfl ⟨by rw [HCC.out.1, HCC.out.2]; simp only [actX, pl_zero]; rfl, hb6⟩
  ·have HCC : Hid (c = (0, 0, 0) ∧ er = 4) := Lib.hid (by
    have h := HFIN.out.2.2.1 (by rw [HPX.out, HWM.out]; intro e; exact hee (congrArg Prod.snd e))
    exact ⟨congrArg Prod.fst h, congrArg Prod.snd h⟩)
   have dee : (ee == 0) = false := by simpa using hee
   have r0 := k0.row; have l0 := k0.lt
   have cF := (k0.rowS #[.int .u8 0, .int .i64 0, .int .u64 0, .int .u64 0, .int .u64 0, .int .u64 0, .int .u64 0, .int .u64 0, .int .u64 0, .int .u64 0]).cell
   have hb6 := bel_row hbF (g := w.heap.size) (Nat.le_refl _) #[.int .u8 0, .int .i64 0, .int .u64 0, .int .u64 0, .int .u64 0, .int .u64 0, .int .u64 0, .int .u64 0, .int .u64 0, .int .u64 0]
   rw [← k0.rw]
   clear k0 k7
   go_wp2_with fail
   exact bodyPost_ret (v := .tuple #[.agg #[.int .u8 0, .int .i64 0, .int .u64 0, .int .u64 0, .int .u64 0, .int .u64 0, .int .u64 0, .int .u64 0, .int .u64 0, .int .u64 0], .int .i64 4]) (by simp [results, Tryz.results83, go_sem, cF]) rfl ⟨by rw [HCC.out.1, HCC.out.2]; exact zact, hb6⟩
  ·have HCC : Hid (c = (0, 0, 0) ∧ er = 4) := Lib.hid (by
    have h := HFIN.out.2.2.1 (by rw [HPX.out, HWM.out]; intro e; exact hLL (congrArg Prod.fst e))
    exact ⟨congrArg Prod.fst h, congrArg Prod.snd h⟩)
   have htl := bytes_ne (show ¬ (⟨LL.toArray⟩ : ByteArray) = B by rw [HFIN.out.2.2.2.2]; intro e; exact hLL (bytes_inj e))
   obtain ⟨LB, hLB⟩ : ∃ x : ByteArray, x = ⟨LL.toArray⟩ := ⟨_, rfl⟩
   rw [← hLB] at htl ⊢
   clear hLL hLB
   have r0 := k0.row; have l0 := k0.lt
   have cF := (k0.rowS #[.int .u8 0, .int .i64 0, .int .u64 0, .int .u64 0, .int .u64 0, .int .u64 0, .int .u64 0, .int .u64 0, .int .u64 0, .int .u64 0]).cell
   have hb6 := bel_row hbF (g := w.heap.size) (Nat.le_refl _) #[.int .u8 0, .int .i64 0, .int .u64 0, .int .u64 0, .int .u64 0, .int .u64 0, .int .u64 0, .int .u64 0, .int .u64 0, .int .u64 0]
   rw [← k0.rw]
   clear k0 k7
   go_wp2_with fail
   exact bodyPost_ret (v := .tuple #[.agg #[.int .u8 0, .int .i64 0, .int .u64 0, .int .u64 0, .int .u64 0, .int .u64 0, .int .u64 0, .int .u64 0, .int .u64 0, .int .u64 0], .int .i64 4]) (by simp [results, Tryz.results83, go_sem, cF]) rfl ⟨by rw [HCC.out.1, HCC.out.2]; exact zact, hb6⟩
 ·have hm : max (0 : Int) 1 = 1 := rfl
  go_wp2_with fail
  have HPX : Hid (pX l = (1, 0, x)) := Lib.hid (by rw [HFIN.out.1, HFIN.out.2.2.2.1]; rfl)
  obtain ⟨⟨LL, ee⟩, hwm⟩ : ∃ y, wrXM (1, 0, x) = y := ⟨_, rfl⟩
  have HWk : Hid (∀ W, Below w.heap.size w W → Calls Tryz.prog 81 #[.agg #[.int .u8 1, .int .i64 0, .int .u64 (pl x 0), .int .u64 (pl x 1), .int .u64 (pl x 2), .int .u64 (pl x 3), .int .u64 (pl x 4), .int .u64 (pl x 5), .int .u64 (pl x 6), .int .u64 (pl x 7)]] W fun e w' => e = .returned (.tuple #[.string ⟨LL.toArray⟩, .int .i64 ee]) ∧ Below W.heap.size W w') := Lib.hid fun W hb => by
   have := HW.out 1 0 x W hb
   rw [hwm] at this
   exact this
  have HWM := Lib.hid hwm
  have htri : (ee = 0 ∧ LL = l) ∨ ee ≠ 0 ∨ (ee = 0 ∧ LL ≠ l) := by
   by_cases h : ee = 0
   ·by_cases h' : LL = l
    ·exact .inl ⟨h, h'⟩
    ·exact .inr (.inr ⟨h, h'⟩)
   ·exact .inr (.inl h)
  clear hwm hm
  refine (HR.out _ (bel_alloc H2.out.2 _)).mono ?_
  rintro e w4 ⟨rfl, hb4⟩
  have k7 := (Blk.new w2 #[.int .u8 1, .int .i64 0, .int .u64 0, .int .u64 0, .int .u64 0, .int .u64 0, .int .u64 0, .int .u64 0, .int .u64 0, .int .u64 0] 46).grow hb4
  have k0 := (H2.out.1.alloc (.cells #[.int .u8 1, .int .i64 0, .int .u64 0, .int .u64 0, .int .u64 0, .int .u64 0, .int .u64 0, .int .u64 0, .int .u64 0, .int .u64 0] 46)).grow hb4
  have hbw := bel_trans (bel_alloc H2.out.2 (.cells #[.int .u8 1, .int .i64 0, .int .u64 0, .int .u64 0, .int .u64 0, .int .u64 0, .int .u64 0, .int .u64 0, .int .u64 0, .int .u64 0] 46)) hb4
  obtain ⟨g7, hg7⟩ : ∃ g, g = w2.heap.size := ⟨_, rfl⟩
  have hg7w : w.heap.size ≤ g7 := by rw [hg7]; exact H2.out.2.size
  have hg7n : w.heap.size < g7 := by rw [hg7]; exact H2.out.1.lt
  rw [← hg7] at k7 ⊢
  clear hg7 hb4
  have r7 := k7.row; have l7 := k7.lt
  have K7 := Lib.hid (k7.rowS #[.int .u8 1, .int .i64 0, .int .u64 (pl x 0), .int .u64 (pl x 1), .int .u64 (pl x 2), .int .u64 (pl x 3), .int .u64 (pl x 4), .int .u64 (pl x 5), .int .u64 (pl x 6), .int .u64 (pl x 7)])
  have K0 := Lib.hid (k0.rowO (g := g7) #[.int .u8 1, .int .i64 0, .int .u64 (pl x 0), .int .u64 (pl x 1), .int .u64 (pl x 2), .int .u64 (pl x 3), .int .u64 (pl x 4), .int .u64 (pl x 5), .int .u64 (pl x 6), .int .u64 (pl x 7)] (by omega))
  have hbw5 := bel_row hbw (g := g7) hg7w #[.int .u8 1, .int .i64 0, .int .u64 (pl x 0), .int .u64 (pl x 1), .int .u64 (pl x 2), .int .u64 (pl x 3), .int .u64 (pl x 4), .int .u64 (pl x 5), .int .u64 (pl x 6), .int .u64 (pl x 7)]
  rw [← k7.rw]
  clear k0 k7 hbw
  go_wp2_with fail

  refine (HWk.out _ hbw5).mono ?_
  rintro e w5 ⟨rfl, hb5⟩
  have k7 := K7.out.grow hb5
  have k0 := K0.out.grow hb5
  have hbF := bel_trans hbw5 hb5
  clear hb5 hbw5 HWk K7 K0
  rcases htri with ⟨rfl, hLL⟩ | hee | ⟨rfl, hLL⟩
  ·have HCC : Hid (c = (1, 0, x) ∧ er = 0) := Lib.hid (by
    have h := HFIN.out.2.1 (by rw [HPX.out, HWM.out, hLL])
    rw [HPX.out] at h
    exact ⟨congrArg Prod.fst h, congrArg Prod.snd h⟩)
   have hLB : (⟨LL.toArray⟩ : ByteArray) = B := by rw [hLL, HFIN.out.2.2.2.2]
   rw [hLB]
   clear hLB hLL
   have kk := k7.rowO (g := w.heap.size) #[.int .u8 0, .int .i64 0, .int .u64 0, .int .u64 0, .int .u64 0, .int .u64 0, .int .u64 0, .int .u64 0, .int .u64 0, .int .u64 0] (by omega)
   have c7 := kk.cell; have l7 := kk.lt
   clear kk
   have r0 := k0.row; have l0 := k0.lt
   have cF := (k0.rowS #[.int .u8 1, .int .i64 0, .int .u64 (pl x 0), .int .u64 (pl x 1), .int .u64 (pl x 2), .int .u64 (pl x 3), .int .u64 (pl x 4), .int .u64 (pl x 5), .int .u64 (pl x 6), .int .u64 (pl x 7)]).cell
   have hb6 := bel_row hbF (g := w.heap.size) (Nat.le_refl _) #[.int .u8 1, .int .i64 0, .int .u64 (pl x 0), .int .u64 (pl x 1), .int .u64 (pl x 2), .int .u64 (pl x 3), .int .u64 (pl x 4), .int .u64 (pl x 5), .int .u64 (pl x 6), .int .u64 (pl x 7)]
   rw [← k0.rw]
   clear k0 k7
   go_wp2_with fail
   exact bodyPost_ret (v := .tuple #[.agg #[.int .u8 1, .int .i64 0, .int .u64 (pl x 0), .int .u64 (pl x 1), .int .u64 (pl x 2), .int .u64 (pl x 3), .int .u64 (pl x 4), .int .u64 (pl x 5), .int .u64 (pl x 6), .int .u64 (pl x 7)], .int .i64 0]) (by simp [results, Tryz.results83, go_sem, cF]) rfl ⟨by rw [HCC.out.1, HCC.out.2]; rfl, hb6⟩
  ·have HCC : Hid (c = (0, 0, 0) ∧ er = 4) := Lib.hid (by
    have h := HFIN.out.2.2.1 (by rw [HPX.out, HWM.out]; intro e; exact hee (congrArg Prod.snd e))
    exact ⟨congrArg Prod.fst h, congrArg Prod.snd h⟩)
   have dee : (ee == 0) = false := by simpa using hee
   have r0 := k0.row; have l0 := k0.lt
   have cF := (k0.rowS #[.int .u8 0, .int .i64 0, .int .u64 0, .int .u64 0, .int .u64 0, .int .u64 0, .int .u64 0, .int .u64 0, .int .u64 0, .int .u64 0]).cell
   have hb6 := bel_row hbF (g := w.heap.size) (Nat.le_refl _) #[.int .u8 0, .int .i64 0, .int .u64 0, .int .u64 0, .int .u64 0, .int .u64 0, .int .u64 0, .int .u64 0, .int .u64 0, .int .u64 0]
   rw [← k0.rw]
   clear k0 k7
   go_wp2_with fail
   exact bodyPost_ret (v := .tuple #[.agg #[.int .u8 0, .int .i64 0, .int .u64 0, .int .u64 0, .int .u64 0, .int .u64 0, .int .u64 0, .int .u64 0, .int .u64 0, .int .u64 0], .int .i64 4]) (by simp [results, Tryz.results83, go_sem, cF]) rfl ⟨by rw [HCC.out.1, HCC.out.2]; exact zact, hb6⟩
  ·have HCC : Hid (c = (0, 0, 0) ∧ er = 4) := Lib.hid (by
    have h := HFIN.out.2.2.1 (by rw [HPX.out, HWM.out]; intro e; exact hLL (congrArg Prod.fst e))
    exact ⟨congrArg Prod.fst h, congrArg Prod.snd h⟩)
   have htl := bytes_ne (show ¬ (⟨LL.toArray⟩ : ByteArray) = B by rw [HFIN.out.2.2.2.2]; intro e; exact hLL (bytes_inj e))
   obtain ⟨LB, hLB⟩ : ∃ x : ByteArray, x = ⟨LL.toArray⟩ := ⟨_, rfl⟩
   rw [← hLB] at htl ⊢
   clear hLL hLB
   have r0 := k0.row; have l0 := k0.lt
   have cF := (k0.rowS #[.int .u8 0, .int .i64 0, .int .u64 0, .int .u64 0, .int .u64 0, .int .u64 0, .int .u64 0, .int .u64 0, .int .u64 0, .int .u64 0]).cell
   have hb6 := bel_row hbF (g := w.heap.size) (Nat.le_refl _) #[.int .u8 0, .int .i64 0, .int .u64 0, .int .u64 0, .int .u64 0, .int .u64 0, .int .u64 0, .int .u64 0, .int .u64 0, .int .u64 0]
   rw [← k0.rw]
   clear k0 k7
   go_wp2_with fail
   exact bodyPost_ret (v := .tuple #[.agg #[.int .u8 0, .int .i64 0, .int .u64 0, .int .u64 0, .int .u64 0, .int .u64 0, .int .u64 0, .int .u64 0, .int .u64 0, .int .u64 0], .int .i64 4]) (by simp [results, Tryz.results83, go_sem, cF]) rfl ⟨by rw [HCC.out.1, HCC.out.2]; exact zact, hb6⟩
 ·have hm : max (0 : Int) 2 = 2 := rfl
  go_wp2_with fail
  have HPX : Hid (pX l = (2, pv, 0)) := Lib.hid (by rw [HFIN.out.1, HFIN.out.2.2.2.1]; rfl)
  obtain ⟨⟨LL, ee⟩, hwm⟩ : ∃ y, wrXM (2, pv, 0) = y := ⟨_, rfl⟩
  have HWk : Hid (∀ W, Below w.heap.size w W → Calls Tryz.prog 81 #[.agg #[.int .u8 2, .int .i64 pv, .int .u64 0, .int .u64 0, .int .u64 0, .int .u64 0, .int .u64 0, .int .u64 0, .int .u64 0, .int .u64 0]] W fun e w' => e = .returned (.tuple #[.string ⟨LL.toArray⟩, .int .i64 ee]) ∧ Below W.heap.size W w') := Lib.hid fun W hb => by
   have := HW.out 2 pv 0 W hb
   rw [hwm] at this
   simp only [actX, pl_zero] at this
   exact this
  have HWM := Lib.hid hwm
  have htri : (ee = 0 ∧ LL = l) ∨ ee ≠ 0 ∨ (ee = 0 ∧ LL ≠ l) := by
   by_cases h : ee = 0
   ·by_cases h' : LL = l
    ·exact .inl ⟨h, h'⟩
    ·exact .inr (.inr ⟨h, h'⟩)
   ·exact .inr (.inl h)
  clear hwm hm
  refine (HA.out _ (bel_alloc H2.out.2 _)).mono ?_
  rintro e w4 ⟨⟨er2, rfl⟩, hb4⟩
  have k7 := (Blk.new w2 #[.int .u8 2, .int .i64 0, .int .u64 0, .int .u64 0, .int .u64 0, .int .u64 0, .int .u64 0, .int .u64 0, .int .u64 0, .int .u64 0] 46).grow hb4
  have k0 := (H2.out.1.alloc (.cells #[.int .u8 2, .int .i64 0, .int .u64 0, .int .u64 0, .int .u64 0, .int .u64 0, .int .u64 0, .int .u64 0, .int .u64 0, .int .u64 0] 46)).grow hb4
  have hbw := bel_trans (bel_alloc H2.out.2 (.cells #[.int .u8 2, .int .i64 0, .int .u64 0, .int .u64 0, .int .u64 0, .int .u64 0, .int .u64 0, .int .u64 0, .int .u64 0, .int .u64 0] 46)) hb4
  obtain ⟨g7, hg7⟩ : ∃ g, g = w2.heap.size := ⟨_, rfl⟩
  have hg7w : w.heap.size ≤ g7 := by rw [hg7]; exact H2.out.2.size
  have hg7n : w.heap.size < g7 := by rw [hg7]; exact H2.out.1.lt
  rw [← hg7] at k7 ⊢
  clear hg7 hb4
  have r7 := k7.row; have l7 := k7.lt
  have K7 := Lib.hid (k7.rowS #[.int .u8 2, .int .i64 pv, .int .u64 0, .int .u64 0, .int .u64 0, .int .u64 0, .int .u64 0, .int .u64 0, .int .u64 0, .int .u64 0])
  have K0 := Lib.hid (k0.rowO (g := g7) #[.int .u8 2, .int .i64 pv, .int .u64 0, .int .u64 0, .int .u64 0, .int .u64 0, .int .u64 0, .int .u64 0, .int .u64 0, .int .u64 0] (by omega))
  have hbw5 := bel_row hbw (g := g7) hg7w #[.int .u8 2, .int .i64 pv, .int .u64 0, .int .u64 0, .int .u64 0, .int .u64 0, .int .u64 0, .int .u64 0, .int .u64 0, .int .u64 0]
  rw [← k7.rw]
  clear k0 k7 hbw
  go_wp2_with fail

  refine (HWk.out _ hbw5).mono ?_
  rintro e w5 ⟨rfl, hb5⟩
  have k7 := K7.out.grow hb5
  have k0 := K0.out.grow hb5
  have hbF := bel_trans hbw5 hb5
  clear hb5 hbw5 HWk K7 K0
  rcases htri with ⟨rfl, hLL⟩ | hee | ⟨rfl, hLL⟩
  ·have HCC : Hid (c = (2, pv, 0) ∧ er = 0) := Lib.hid (by
    have h := HFIN.out.2.1 (by rw [HPX.out, HWM.out, hLL])
    rw [HPX.out] at h
    exact ⟨congrArg Prod.fst h, congrArg Prod.snd h⟩)
   have hLB : (⟨LL.toArray⟩ : ByteArray) = B := by rw [hLL, HFIN.out.2.2.2.2]
   rw [hLB]
   clear hLB hLL
   have kk := k7.rowO (g := w.heap.size) #[.int .u8 0, .int .i64 0, .int .u64 0, .int .u64 0, .int .u64 0, .int .u64 0, .int .u64 0, .int .u64 0, .int .u64 0, .int .u64 0] (by omega)
   have c7 := kk.cell; have l7 := kk.lt
   clear kk
   have r0 := k0.row; have l0 := k0.lt
   have cF := (k0.rowS #[.int .u8 2, .int .i64 pv, .int .u64 0, .int .u64 0, .int .u64 0, .int .u64 0, .int .u64 0, .int .u64 0, .int .u64 0, .int .u64 0]).cell
   have hb6 := bel_row hbF (g := w.heap.size) (Nat.le_refl _) #[.int .u8 2, .int .i64 pv, .int .u64 0, .int .u64 0, .int .u64 0, .int .u64 0, .int .u64 0, .int .u64 0, .int .u64 0, .int .u64 0]
   rw [← k0.rw]
   clear k0 k7
   go_wp2_with fail
   exact bodyPost_ret (v := .tuple #[.agg #[.int .u8 2, .int .i64 pv, .int .u64 0, .int .u64 0, .int .u64 0, .int .u64 0, .int .u64 0, .int .u64 0, .int .u64 0, .int .u64 0], .int .i64 0]) (by simp [results, Tryz.results83, go_sem, cF]) rfl ⟨by rw [HCC.out.1, HCC.out.2]; simp only [actX, pl_zero]; rfl, hb6⟩
  ·have HCC : Hid (c = (0, 0, 0) ∧ er = 4) := Lib.hid (by
    have h := HFIN.out.2.2.1 (by rw [HPX.out, HWM.out]; intro e; exact hee (congrArg Prod.snd e))
    exact ⟨congrArg Prod.fst h, congrArg Prod.snd h⟩)
   have dee : (ee == 0) = false := by simpa using hee
   have r0 := k0.row; have l0 := k0.lt
   have cF := (k0.rowS #[.int .u8 0, .int .i64 0, .int .u64 0, .int .u64 0, .int .u64 0, .int .u64 0, .int .u64 0, .int .u64 0, .int .u64 0, .int .u64 0]).cell
   have hb6 := bel_row hbF (g := w.heap.size) (Nat.le_refl _) #[.int .u8 0, .int .i64 0, .int .u64 0, .int .u64 0, .int .u64 0, .int .u64 0, .int .u64 0, .int .u64 0, .int .u64 0, .int .u64 0]
   rw [← k0.rw]
   clear k0 k7
   go_wp2_with fail
   exact bodyPost_ret (v := .tuple #[.agg #[.int .u8 0, .int .i64 0, .int .u64 0, .int .u64 0, .int .u64 0, .int .u64 0, .int .u64 0, .int .u64 0, .int .u64 0, .int .u64 0], .int .i64 4]) (by simp [results, Tryz.results83, go_sem, cF]) rfl ⟨by rw [HCC.out.1, HCC.out.2]; exact zact, hb6⟩
  ·have HCC : Hid (c = (0, 0, 0) ∧ er = 4) := Lib.hid (by
    have h := HFIN.out.2.2.1 (by rw [HPX.out, HWM.out]; intro e; exact hLL (congrArg Prod.fst e))
    exact ⟨congrArg Prod.fst h, congrArg Prod.snd h⟩)
   have htl := bytes_ne (show ¬ (⟨LL.toArray⟩ : ByteArray) = B by rw [HFIN.out.2.2.2.2]; intro e; exact hLL (bytes_inj e))
   obtain ⟨LB, hLB⟩ : ∃ x : ByteArray, x = ⟨LL.toArray⟩ := ⟨_, rfl⟩
   rw [← hLB] at htl ⊢
   clear hLL hLB
   have r0 := k0.row; have l0 := k0.lt
   have cF := (k0.rowS #[.int .u8 0, .int .i64 0, .int .u64 0, .int .u64 0, .int .u64 0, .int .u64 0, .int .u64 0, .int .u64 0, .int .u64 0, .int .u64 0]).cell
   have hb6 := bel_row hbF (g := w.heap.size) (Nat.le_refl _) #[.int .u8 0, .int .i64 0, .int .u64 0, .int .u64 0, .int .u64 0, .int .u64 0, .int .u64 0, .int .u64 0, .int .u64 0, .int .u64 0]
   rw [← k0.rw]
   clear k0 k7
   go_wp2_with fail
   exact bodyPost_ret (v := .tuple #[.agg #[.int .u8 0, .int .i64 0, .int .u64 0, .int .u64 0, .int .u64 0, .int .u64 0, .int .u64 0, .int .u64 0, .int .u64 0, .int .u64 0], .int .i64 4]) (by simp [results, Tryz.results83, go_sem, cF]) rfl ⟨by rw [HCC.out.1, HCC.out.2]; exact zact, hb6⟩
 ·have hm : max (0 : Int) 3 = 3 := rfl
  go_wp2_with fail
  have HPX : Hid (pX l = (3, pv, 0)) := Lib.hid (by rw [HFIN.out.1, HFIN.out.2.2.2.1]; rfl)
  obtain ⟨⟨LL, ee⟩, hwm⟩ : ∃ y, wrXM (3, pv, 0) = y := ⟨_, rfl⟩
  have HWk : Hid (∀ W, Below w.heap.size w W → Calls Tryz.prog 81 #[.agg #[.int .u8 3, .int .i64 pv, .int .u64 0, .int .u64 0, .int .u64 0, .int .u64 0, .int .u64 0, .int .u64 0, .int .u64 0, .int .u64 0]] W fun e w' => e = .returned (.tuple #[.string ⟨LL.toArray⟩, .int .i64 ee]) ∧ Below W.heap.size W w') := Lib.hid fun W hb => by
   have := HW.out 3 pv 0 W hb
   rw [hwm] at this
   simp only [actX, pl_zero] at this
   exact this
  have HWM := Lib.hid hwm
  have htri : (ee = 0 ∧ LL = l) ∨ ee ≠ 0 ∨ (ee = 0 ∧ LL ≠ l) := by
   by_cases h : ee = 0
   ·by_cases h' : LL = l
    ·exact .inl ⟨h, h'⟩
    ·exact .inr (.inr ⟨h, h'⟩)
   ·exact .inr (.inl h)
  clear hwm hm
  refine (HA.out _ (bel_alloc H2.out.2 _)).mono ?_
  rintro e w4 ⟨⟨er2, rfl⟩, hb4⟩
  have k7 := (Blk.new w2 #[.int .u8 3, .int .i64 0, .int .u64 0, .int .u64 0, .int .u64 0, .int .u64 0, .int .u64 0, .int .u64 0, .int .u64 0, .int .u64 0] 46).grow hb4
  have k0 := (H2.out.1.alloc (.cells #[.int .u8 3, .int .i64 0, .int .u64 0, .int .u64 0, .int .u64 0, .int .u64 0, .int .u64 0, .int .u64 0, .int .u64 0, .int .u64 0] 46)).grow hb4
  have hbw := bel_trans (bel_alloc H2.out.2 (.cells #[.int .u8 3, .int .i64 0, .int .u64 0, .int .u64 0, .int .u64 0, .int .u64 0, .int .u64 0, .int .u64 0, .int .u64 0, .int .u64 0] 46)) hb4
  obtain ⟨g7, hg7⟩ : ∃ g, g = w2.heap.size := ⟨_, rfl⟩
  have hg7w : w.heap.size ≤ g7 := by rw [hg7]; exact H2.out.2.size
  have hg7n : w.heap.size < g7 := by rw [hg7]; exact H2.out.1.lt
  rw [← hg7] at k7 ⊢
  clear hg7 hb4
  have r7 := k7.row; have l7 := k7.lt
  have K7 := Lib.hid (k7.rowS #[.int .u8 3, .int .i64 pv, .int .u64 0, .int .u64 0, .int .u64 0, .int .u64 0, .int .u64 0, .int .u64 0, .int .u64 0, .int .u64 0])
  have K0 := Lib.hid (k0.rowO (g := g7) #[.int .u8 3, .int .i64 pv, .int .u64 0, .int .u64 0, .int .u64 0, .int .u64 0, .int .u64 0, .int .u64 0, .int .u64 0, .int .u64 0] (by omega))
  have hbw5 := bel_row hbw (g := g7) hg7w #[.int .u8 3, .int .i64 pv, .int .u64 0, .int .u64 0, .int .u64 0, .int .u64 0, .int .u64 0, .int .u64 0, .int .u64 0, .int .u64 0]
  rw [← k7.rw]
  clear k0 k7 hbw
  go_wp2_with fail

  refine (HWk.out _ hbw5).mono ?_
  rintro e w5 ⟨rfl, hb5⟩
  have k7 := K7.out.grow hb5
  have k0 := K0.out.grow hb5
  have hbF := bel_trans hbw5 hb5
  clear hb5 hbw5 HWk K7 K0
  rcases htri with ⟨rfl, hLL⟩ | hee | ⟨rfl, hLL⟩
  ·have HCC : Hid (c = (3, pv, 0) ∧ er = 0) := Lib.hid (by
    have h := HFIN.out.2.1 (by rw [HPX.out, HWM.out, hLL])
    rw [HPX.out] at h
    exact ⟨congrArg Prod.fst h, congrArg Prod.snd h⟩)
   have hLB : (⟨LL.toArray⟩ : ByteArray) = B := by rw [hLL, HFIN.out.2.2.2.2]
   rw [hLB]
   clear hLB hLL
   have kk := k7.rowO (g := w.heap.size) #[.int .u8 0, .int .i64 0, .int .u64 0, .int .u64 0, .int .u64 0, .int .u64 0, .int .u64 0, .int .u64 0, .int .u64 0, .int .u64 0] (by omega)
   have c7 := kk.cell; have l7 := kk.lt
   clear kk
   have r0 := k0.row; have l0 := k0.lt
   have cF := (k0.rowS #[.int .u8 3, .int .i64 pv, .int .u64 0, .int .u64 0, .int .u64 0, .int .u64 0, .int .u64 0, .int .u64 0, .int .u64 0, .int .u64 0]).cell
   have hb6 := bel_row hbF (g := w.heap.size) (Nat.le_refl _) #[.int .u8 3, .int .i64 pv, .int .u64 0, .int .u64 0, .int .u64 0, .int .u64 0, .int .u64 0, .int .u64 0, .int .u64 0, .int .u64 0]
   rw [← k0.rw]
   clear k0 k7
   go_wp2_with fail
   exact bodyPost_ret (v := .tuple #[.agg #[.int .u8 3, .int .i64 pv, .int .u64 0, .int .u64 0, .int .u64 0, .int .u64 0, .int .u64 0, .int .u64 0, .int .u64 0, .int .u64 0], .int .i64 0]) (by simp [results, Tryz.results83, go_sem, cF]) rfl ⟨by rw [HCC.out.1, HCC.out.2]; simp only [actX, pl_zero]; rfl, hb6⟩
  ·have HCC : Hid (c = (0, 0, 0) ∧ er = 4) := Lib.hid (by
    have h := HFIN.out.2.2.1 (by rw [HPX.out, HWM.out]; intro e; exact hee (congrArg Prod.snd e))
    exact ⟨congrArg Prod.fst h, congrArg Prod.snd h⟩)
   have dee : (ee == 0) = false := by simpa using hee
   have r0 := k0.row; have l0 := k0.lt
   have cF := (k0.rowS #[.int .u8 0, .int .i64 0, .int .u64 0, .int .u64 0, .int .u64 0, .int .u64 0, .int .u64 0, .int .u64 0, .int .u64 0, .int .u64 0]).cell
   have hb6 := bel_row hbF (g := w.heap.size) (Nat.le_refl _) #[.int .u8 0, .int .i64 0, .int .u64 0, .int .u64 0, .int .u64 0, .int .u64 0, .int .u64 0, .int .u64 0, .int .u64 0, .int .u64 0]
   rw [← k0.rw]
   clear k0 k7
   go_wp2_with fail
   exact bodyPost_ret (v := .tuple #[.agg #[.int .u8 0, .int .i64 0, .int .u64 0, .int .u64 0, .int .u64 0, .int .u64 0, .int .u64 0, .int .u64 0, .int .u64 0, .int .u64 0], .int .i64 4]) (by simp [results, Tryz.results83, go_sem, cF]) rfl ⟨by rw [HCC.out.1, HCC.out.2]; exact zact, hb6⟩
  ·have HCC : Hid (c = (0, 0, 0) ∧ er = 4) := Lib.hid (by
    have h := HFIN.out.2.2.1 (by rw [HPX.out, HWM.out]; intro e; exact hLL (congrArg Prod.fst e))
    exact ⟨congrArg Prod.fst h, congrArg Prod.snd h⟩)
   have htl := bytes_ne (show ¬ (⟨LL.toArray⟩ : ByteArray) = B by rw [HFIN.out.2.2.2.2]; intro e; exact hLL (bytes_inj e))
   obtain ⟨LB, hLB⟩ : ∃ x : ByteArray, x = ⟨LL.toArray⟩ := ⟨_, rfl⟩
   rw [← hLB] at htl ⊢
   clear hLL hLB
   have r0 := k0.row; have l0 := k0.lt
   have cF := (k0.rowS #[.int .u8 0, .int .i64 0, .int .u64 0, .int .u64 0, .int .u64 0, .int .u64 0, .int .u64 0, .int .u64 0, .int .u64 0, .int .u64 0]).cell
   have hb6 := bel_row hbF (g := w.heap.size) (Nat.le_refl _) #[.int .u8 0, .int .i64 0, .int .u64 0, .int .u64 0, .int .u64 0, .int .u64 0, .int .u64 0, .int .u64 0, .int .u64 0, .int .u64 0]
   rw [← k0.rw]
   clear k0 k7
   go_wp2_with fail
   exact bodyPost_ret (v := .tuple #[.agg #[.int .u8 0, .int .i64 0, .int .u64 0, .int .u64 0, .int .u64 0, .int .u64 0, .int .u64 0, .int .u64 0, .int .u64 0, .int .u64 0], .int .i64 4]) (by simp [results, Tryz.results83, go_sem, cF]) rfl ⟨by rw [HCC.out.1, HCC.out.2]; exact zact, hb6⟩
end Go.Proofs.YtccnkebkgegohaaGreatDoor.Ln
end
