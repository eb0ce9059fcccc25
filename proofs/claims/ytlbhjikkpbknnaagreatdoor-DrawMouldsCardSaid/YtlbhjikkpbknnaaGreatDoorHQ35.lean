import Derived.Test.YtlbhjikkpbknnaaGreatDoorHQ3
/-
  Given contracts of functions of the program, and laws for them, one behind the other.
-/
set_option linter.unusedVariables false
set_option linter.unusedSimpArgs false
set_option linter.unusedSectionVars false
section
namespace Go.Proofs.YtlbhjikkpbknnaaGreatDoor
open Go.RowKit Go.Rel Go.Draw
set_option maxRecDepth 100000
/-! CheckMould and Sand of the program -/
def sandE (m : List Sol) : Sol := if errM m = 0 then sandM m else 0
theorem CheckMould_n {w : World} {v : Value} {m : List Sol} (H : SlS w v m) : Calls Tryz.prog 59 #[v] w fun e w' => e = .returned (.int .i64 (errM m)) ∧ Below w.heap.size w w' := by
 have HM := Lib.hid (moulded_x H)
 clear H
 go_enter Tryz.func59, Tryz.ntmps59
 go_wp2_with fail
 refine HM.out.mono ?_
 rintro e w1 ⟨hb, p, rfl, -, -⟩
 have HB := Lib.hid hb; clear hb
 go_wp2_with fail
 go_ret
 exact ⟨rfl, HB.out⟩
set_option maxHeartbeats 8000000 in
theorem Sand_n {w : World} {v : Value} {m : List Sol} (H : SlS w v m) : Calls Tryz.prog 51 #[v] w fun e w' => e = .returned (.tuple #[solV (sandE m), .int .i64 (errM m)]) ∧ Below w.heap.size w w' := by
 have HM := Lib.hid fun W (h : Below w.heap.size w W) => moulded_x (H.mono h)
 clear H
 obtain ⟨S, hS⟩ : ∃ S, S = sandE m := ⟨_, rfl⟩
 rw [← hS]
 unfold sandE at hS
 have HS := Lib.hid hS; clear hS
 obtain ⟨E, hE⟩ : ∃ E, E = errM m := ⟨_, rfl⟩
 have HE := Lib.hid hE
 rw [← hE]
 clear hE
 go_enter Tryz.func51, Tryz.ntmps51
 go_wp2_with fail
 obtain ⟨W0, hW0⟩ : ∃ W0, W0 = w.alloc (.cells #[.int .u64 0, .int .u64 0, .int .u64 0, .int .u64 0, .int .u64 0, .int .u64 0, .int .u64 0, .int .u64 0] 64) := ⟨_, rfl⟩
 have b2 : Blk W0 w.heap.size #[.int .u64 0, .int .u64 0, .int .u64 0, .int .u64 0, .int .u64 0, .int .u64 0, .int .u64 0, .int .u64 0] 64 := by subst hW0; exact Blk.new _ _ _
 have hbel : Below w.heap.size w W0 := by subst hW0; exact bel_alloc (bel_refl _) _
 have hsz : W0.heap.size = w.heap.size + 1 := by subst hW0; simp
 rw [← hW0]
 clear hW0
 refine (HM.out _ hbel).mono ?_
 rintro e wM ⟨hb1, p, rfl, hx, hn⟩
 have hbw := bel_trans hbel hb1
 have B2 := b2.grow hb1
 by_cases hE : errM m = 0
 ·obtain ⟨hl, g, mb, rfl, hg, hmb, hM⟩ := hx hE
  obtain ⟨pa, pc, hBg, -⟩ := hM.blk
  have hBr := hBg.rowO (g := w.heap.size) #[.int .u64 0, .int .u64 0, .int .u64 0, .int .u64 0, .int .u64 0, .int .u64 0, .int .u64 0, .int .u64 0] (by omega)
  have c1 := hBr.cell 1; have c2 := hBr.cell 2; have c3 := hBr.cell 3; have c4 := hBr.cell 4; have c5 := hBr.cell 5; have c6 := hBr.cell 6; have c7 := hBr.cell 7; have c8 := hBr.cell 8
  have lg := hBr.lt
  simp only [List.getElem?_toArray, List.getElem?_cons_zero, List.getElem?_cons_succ] at c1 c2 c3 c4 c5 c6 c7 c8
  have r2 := B2.row; have l2 := B2.lt
  have HB := Lib.hid (And.intro B2 (And.intro hbw (HS.out.trans (if_pos hE))))
  obtain rfl : E = 0 := HE.out.trans hE
  rw [hE]
  rw [← B2.rw]
  clear hx hn hb1 b2 hbel hsz hbw B2 hE hM hBg hBr hl hmb
  go_wp2_with fail
  have BS := HB.out.1.rowS #[.int .u64 (pl (sandM m) 0), .int .u64 (pl (sandM m) 1), .int .u64 (pl (sandM m) 2), .int .u64 (pl (sandM m) 3), .int .u64 (pl (sandM m) 4), .int .u64 (pl (sandM m) 5), .int .u64 (pl (sandM m) 6), .int .u64 (pl (sandM m) 7)]
  have s0 := BS.cell 0; have s1 := BS.cell 1; have s2 := BS.cell 2; have s3 := BS.cell 3; have s4 := BS.cell 4; have s5 := BS.cell 5; have s6 := BS.cell 6; have s7 := BS.cell 7
  simp only [List.getElem?_toArray, List.getElem?_cons_zero, List.getElem?_cons_succ] at s0 s1 s2 s3 s4 s5 s6 s7
  refine bodyPost_ret (v := .tuple #[solV (sandM m), .int .i64 0]) (by simp [results, Tryz.results51, go_sem, s0, s1, s2, s3, s4, s5, s6, s7]) rfl ⟨by rw [HB.out.2.2], blw_row HB.out.2.1 (Nat.le_refl _) _⟩
 ·have hp := hn hE
  subst hp
  have e0 : ¬ (errM m = 0) := hE
  have hS0 : S = 0 := HS.out.trans (if_neg hE)
  subst hS0
  have HB := Lib.hid (And.intro B2 hbw)
  have r2 := B2.row; have l2 := B2.lt
  rw [← HE.out] at e0 ⊢
  rw [← B2.rw]
  clear hx hn hb1 b2 hbel hsz hbw B2 hE
  go_wp2_with fail
  have BS := HB.out.1.rowS #[.int .u64 0, .int .u64 0, .int .u64 0, .int .u64 0, .int .u64 0, .int .u64 0, .int .u64 0, .int .u64 0]
  have s0 := BS.cell 0; have s1 := BS.cell 1; have s2 := BS.cell 2; have s3 := BS.cell 3; have s4 := BS.cell 4; have s5 := BS.cell 5; have s6 := BS.cell 6; have s7 := BS.cell 7
  simp only [List.getElem?_toArray, List.getElem?_cons_zero, List.getElem?_cons_succ] at s0 s1 s2 s3 s4 s5 s6 s7
  refine bodyPost_ret (v := .tuple #[.agg #[.int .u64 0, .int .u64 0, .int .u64 0, .int .u64 0, .int .u64 0, .int .u64 0, .int .u64 0, .int .u64 0], .int .i64 E]) (by simp [results, Tryz.results51, go_sem, s0, s1, s2, s3, s4, s5, s6, s7]) rfl ⟨by simp [show ∀ k, pl (0#512) k = 0 from pl_zero], blw_row HB.out.2 (Nat.le_refl _) _⟩
end Go.Proofs.YtlbhjikkpbknnaaGreatDoor
end
section
namespace Go.Proofs.YtlbhjikkpbknnaaGreatDoor
open Go.RowKit Go.Rel Go.Draw
set_option maxRecDepth 100000
/-! Sand and Undercut of the reference -/
def dZ (m : List Sol) (i z : Nat) : Int := pl (~~~(allS (m.take i))) z
theorem dZ_zero (m : List Sol) {z : Nat} (hz : z < 8) : dZ m 0 z = 18446744073709551615 := by
 unfold dZ pl
 rw [plv_not _ _ hz, List.take_zero]
 rw [show plv (allS []) z = 0 from plv_zero z]
 decide +kernel
theorem dZ_step {m : List Sol} {i z : Nat} {s : Sol} (hs : m[i]? = some s) (hz : z < 8) : bits .andNot .u64 (dZ m i z) (pl s z) = dZ m (i + 1) z := by
 unfold dZ
 rw [bits_andNot_pl _ _ _ hz, take_snoc' hs, allS_snoc, BitVec.not_or]
theorem dZ_end (m : List Sol) (z : Nat) : dZ m m.length z = pl (sandM m) z := by unfold dZ sandM; rw [List.take_length]
def IS (N : Nat) (C D : Array Value) (a : Bool) (W : World) : Prop := (a = false → Blk W N C 64) ∧ (a = true → Blk W N D 64)
def setZ (S : Sol) (z : Nat) (x : Int) : Array Value := (mixU 0 S z).setIfInBounds z (.int .u64 x)
theorem setZ_get (S : Sol) {z : Nat} (hz : z < 8) (x : Int) : (setZ S z x)[z]? = some (.int .u64 x) := by
 unfold setZ mixU
 rw [mixA_set _ hz, mixA_get _ hz]; simp
theorem setZ_set (S : Sol) {z : Nat} (hz : z < 8) (x y : Int) : (setZ S z x).setIfInBounds z (.int .u64 y) = setZ S z y := by
 unfold setZ mixU
 rw [mixA_set _ hz, mixA_set _ hz, mixA_set _ hz]
 refine mixA_eq fun i _ => ?_
 by_cases h : i = z
 ·rw [if_pos h, if_pos h]
 ·rw [if_neg h, if_neg h, if_neg h]
theorem setZ_end (S : Sol) {z : Nat} (hz : z < 8) : setZ S z (pl S z) = mixU 0 S (z + 1) := mixU_set 0 S hz
set_option maxHeartbeats 16000000 in
theorem refSand_n {w : World} {v : Value} {m : List Sol} (H : SlS w v m) : Calls Tryz.prog 52 #[v] w fun e w' => e = .returned (.tuple #[solV (sandE m), .int .i64 (errM m)]) ∧ Below w.heap.size w w' := by
 have HM := Lib.hid fun W (h : Below w.heap.size w W) => refMould_spec (H.mono h)
 obtain ⟨ai, nn, c, rfl, hnn, hc, hcm⟩ := H.out
 subst hnn
 have HH := Lib.hid H
 clear H
 obtain ⟨S, hS⟩ : ∃ S, S = sandE m := ⟨_, rfl⟩
 rw [← hS]
 unfold sandE at hS
 have HS := Lib.hid hS; clear hS
 obtain ⟨E, hE⟩ : ∃ E, E = errM m := ⟨_, rfl⟩
 rw [← hE] at HS HM ⊢
 have HE := Lib.hid hE; clear hE
 go_enter Tryz.func52, Tryz.ntmps52
 go_wp2_with fail
 obtain ⟨W0, hW0⟩ : ∃ W0, W0 = w.alloc (.cells #[.int .u64 0, .int .u64 0, .int .u64 0, .int .u64 0, .int .u64 0, .int .u64 0, .int .u64 0, .int .u64 0] 64) := ⟨_, rfl⟩
 have b2 : Blk W0 w.heap.size #[.int .u64 0, .int .u64 0, .int .u64 0, .int .u64 0, .int .u64 0, .int .u64 0, .int .u64 0, .int .u64 0] 64 := by subst hW0; exact Blk.new _ _ _
 have hbel : Below w.heap.size w W0 := by subst hW0; exact bel_alloc (bel_refl _) _
 rw [← hW0]
 clear hW0
 refine (HM.out _ hbel).mono ?_
 rintro e wM ⟨rfl, hb1⟩
 have hbw := bel_trans hbel hb1
 have B2 := b2.grow hb1
 by_cases hE : E = 0
 ·have hS1 : S = sandM m := HS.out.trans (if_pos hE)
  subst hE
  have HB := Lib.hid (And.intro B2 (And.intro hbw hS1))
  clear hb1 b2 hbel hbw B2 hS1 HM HS HE
  go_wp2_with fail
  obtain ⟨W1, hW1⟩ : ∃ W1, W1 = wM.alloc (.cells #[.int .u64 0, .int .u64 0, .int .u64 0, .int .u64 0, .int .u64 0, .int .u64 0, .int .u64 0, .int .u64 0] 64) := ⟨_, rfl⟩
  have hb1 : Below wM.heap.size wM W1 := by subst hW1; exact bel_alloc (bel_refl _) _
  have H1 : Hid (Blk W1 wM.heap.size #[.int .u64 0, .int .u64 0, .int .u64 0, .int .u64 0, .int .u64 0, .int .u64 0, .int .u64 0, .int .u64 0] 64 ∧ Blk W1 w.heap.size #[.int .u64 0, .int .u64 0, .int .u64 0, .int .u64 0, .int .u64 0, .int .u64 0, .int .u64 0, .int .u64 0] 64 ∧ Below w.heap.size w W1 ∧ w.heap.size < wM.heap.size) := Lib.hid ⟨by subst hW1; exact Blk.new _ _ _, HB.out.1.grow hb1, bel_trans HB.out.2.1 hb1, HB.out.1.lt⟩
  rw [← hW1]
  clear hW1 hb1
  obtain ⟨N, hN⟩ : ∃ N, N = wM.heap.size := ⟨_, rfl⟩
  rw [← hN] at H1 ⊢
  clear hN
  go_loopw [6] (fun iv wx => ∃ z : Nat, z ≤ 8 ∧ iv = .int .i64 z ∧ Hid (Blk wx N (mixU 0 S z) 64 ∧ W1.grownBy wx (some N))) (fun iv _ => 8 - (intOf iv).toNat)
  case atStart => exact ⟨0, by omega, rfl, Lib.hid ⟨by rw [mixU_zero]; simpa [show ∀ k, pl (0#512) k = 0 from pl_zero] using H1.out.1, gb_refl _ _⟩⟩
  case round =>
   obtain ⟨z, hz, rfl, HI⟩ := hrel
   by_cases hz8 : z < 8
   ·have hzI : (z : Int) < 8 := by omega
    have hd : decide ((z : Int) < 8) = true := decide_eq_true hzI
    have lN := HI.out.1.lt
    have fN := HI.out.1.free z
    have eN := (HI.out.1.cell z).trans (mixU_get 0 S hz8)
    go_wp2_with fail
    obtain ⟨W2, hW2⟩ : ∃ W2, W2 = wr.setCell ⟨N, z, none⟩ (.int .u64 18446744073709551615) := ⟨_, rfl⟩
    have H2 : Hid (Blk W2 N (setZ S z (dZ m 0 z)) 64 ∧ W1.grownBy W2 (some N)) := Lib.hid ⟨by subst hW2; rw [dZ_zero m hz8]; exact HI.out.1.set z _, by subst hW2; exact gb_set HI.out.2 _ rfl _⟩
    rw [← hW2]
    clear hW2 lN fN eN HI hd
    go_loopw [7] (fun iv wx => ∃ i : Nat, i ≤ m.length ∧ iv = .int .i64 i ∧ Hid (Blk wx N (setZ S z (dZ m i z)) 64 ∧ W1.grownBy wx (some N))) (fun iv _ => m.length - (intOf iv).toNat)
    case atStart => exact ⟨0, Nat.zero_le _, rfl, H2⟩
    case round =>
     obtain ⟨i, hi, rfl, HI⟩ := hrel
     by_cases hlt : i < m.length
     ·obtain ⟨s, hs⟩ : ∃ x, m[i]? = some x := ⟨_, List.getElem?_eq_getElem hlt⟩
      obtain ⟨b, off, c1, he, _, _, hb, hcs⟩ := sol_at_piece HH.out hs
      obtain ⟨rfl, -, rfl⟩ : ai = some ⟨b, off, none⟩ ∧ True ∧ c = c1 := by
       simp only [Value.slice.injEq] at he; exact ⟨he.1, trivial, he.2.2⟩
      have hbI : Below w.heap.size w wr := H1.out.2.2.1.grown HI.out.2 H1.out.2.2.1.size (fun j e => by cases e; have := H1.out.2.2.2; omega)
      have hst := dZ_step hs hz8
      have HCS := Lib.hid (And.intro hcs (And.intro hs (And.intro hbI (And.intro hb HI.out))))
      have him : (i : Int) < (m.length : Int) := by omega
      have hdi : decide ((i : Int) < (m.length : Int)) = true := decide_eq_true him
      clear he hs hcs hbI hb HI
      go_wp2_with fail
      refine wp_region_val (GbN N) (fun L vs W => IS N (setZ S z (dZ m i z)) (setZ S z (dZ m (i + 1) z)) (L 12) W) [Is (.int .i64 (z : Int)), Is (.int .i64 (z : Int)), Is (.pointer (some ⟨N, z, none⟩)), Is (.int .u64 (dZ m i z)), Is (.slice (some ⟨b, off, none⟩) m.length c), Is (.int .i64 (i : Int)), Is (.int .i64 (z : Int)), Is (.pointer (some ⟨b, off + i * 8, none⟩)), Is (.pointer (some ⟨b, off + i * 8 + z, none⟩)), Is (.int .u64 (pl s z)), Is (.int .u64 (dZ m (i + 1) z)), Is (.pointer (some ⟨N, z, none⟩)), AnyV] (by kernel_rfl) (by kernel_rfl) rfl (fun W => gb_refl W _) (GbN.trans N) (stable_mem ⟨fun _ _ _ h _ => h, fun _ _ _ h _ => h, fun _ _ _ h _ => h, fun _ _ _ h _ => h, fun _ _ _ h _ => h, fun _ _ _ h _ => h, fun _ _ _ h _ => h, fun _ _ _ h _ => h, fun _ _ _ h _ => h, fun _ _ _ h _ => h, fun _ _ _ h _ => h, fun _ _ _ h _ => h, fun _ _ _ h _ => h, trivial⟩) wr (gb_drew (gb_refl _ _)) (⟨fun _ => HCS.out.2.2.2.2.1, fun e => (by cases e)⟩) ?_
      refine val_cons ?_ (fun v0 => ?_)
      ·intro L vs w1 hvs hat hb hI hF; try simp [factsI, Region.binds, Is] at hF
       have HI2 := Lib.hid hI; clear hI
       go_simp
       first | exact ⟨gb_refl _ _, HI2.out⟩ | exact HI2.out | exact ⟨HI2.out, trivial⟩
      refine val_cons ?_ (fun v1 => ?_)
      ·intro L vs w1 hvs hat hb hI hF; try simp [factsI, Region.binds, Is] at hF
       have HI2 := Lib.hid hI; clear hI
       go_simp
       first | exact ⟨gb_refl _ _, HI2.out⟩ | exact HI2.out | exact ⟨HI2.out, trivial⟩
      refine val_cons ?_ (fun v2 => ?_)
      ·intro L vs w1 hvs hat hb hI hF; try simp [factsI, Region.binds, Is] at hF
       have HI2 := Lib.hid hI; clear hI
       go_simp
       first | exact ⟨gb_refl _ _, HI2.out⟩ | exact HI2.out | exact ⟨HI2.out, trivial⟩
      refine val_cons ?_ (fun v3 => ?_)
      ·intro L vs w1 hvs hat hb hI hF; try simp [factsI, Region.binds, Is] at hF
       have h15 := hat.later 13 12 (by kernel_rfl)
       have c6 := ((hI.1 h15).cell z).trans (setZ_get S hz8 (dZ m i z))
       have l6 := (hI.1 h15).lt
       clear h15
       have HI2 := Lib.hid hI; clear hI
       go_simp
       first | exact ⟨gb_refl _ _, HI2.out⟩ | exact HI2.out | exact ⟨HI2.out, trivial⟩
      refine val_cons ?_ (fun v4 => ?_)
      ·intro L vs w1 hvs hat hb hI hF; try simp [factsI, Region.binds, Is] at hF
       have HI2 := Lib.hid hI; clear hI
       go_simp
       first | exact ⟨gb_refl _ _, HI2.out⟩ | exact HI2.out | exact ⟨HI2.out, trivial⟩
      refine val_cons ?_ (fun v5 => ?_)
      ·intro L vs w1 hvs hat hb hI hF; try simp [factsI, Region.binds, Is] at hF
       have HI2 := Lib.hid hI; clear hI
       go_simp
       first | exact ⟨gb_refl _ _, HI2.out⟩ | exact HI2.out | exact ⟨HI2.out, trivial⟩
      refine val_cons ?_ (fun v6 => ?_)
      ·intro L vs w1 hvs hat hb hI hF; try simp [factsI, Region.binds, Is] at hF
       have HI2 := Lib.hid hI; clear hI
       go_simp
       first | exact ⟨gb_refl _ _, HI2.out⟩ | exact HI2.out | exact ⟨HI2.out, trivial⟩
      refine val_cons ?_ (fun v7 => ?_)
      ·intro L vs w1 hvs hat hb hI hF; try simp [factsI, Region.binds, Is] at hF
       have HI2 := Lib.hid hI; clear hI
       go_simp
       first | exact ⟨gb_refl _ _, HI2.out⟩ | exact HI2.out | exact ⟨HI2.out, trivial⟩
      refine val_cons ?_ (fun v8 => ?_)
      ·intro L vs w1 hvs hat hb hI hF; try simp [factsI, Region.binds, Is] at hF
       have HI2 := Lib.hid hI; clear hI
       go_simp
       first | exact ⟨gb_refl _ _, HI2.out⟩ | exact HI2.out | exact ⟨HI2.out, trivial⟩
      refine val_cons ?_ (fun v9 => ?_)
      ·intro L vs w1 hvs hat hb hI hF; try simp [factsI, Region.binds, Is] at hF
       have hbz : Below w.heap.size w w1 := HCS.out.2.2.1.grown hb HCS.out.2.2.1.size (fun j e => by cases e; have := H1.out.2.2.2; omega)
       have c7 := sol_cellz (HCS.out.1.mono hbz HCS.out.2.2.2.1) HCS.out.2.1 hz8
       have l7 : b < w1.heap.size := Nat.lt_of_lt_of_le HCS.out.2.2.2.1 hbz.size
       have HI2 := Lib.hid hI; clear hI
       go_simp
       first | exact ⟨gb_refl _ _, HI2.out⟩ | exact HI2.out | exact ⟨HI2.out, trivial⟩
      refine val_cons ?_ (fun v10 => ?_)
      ·intro L vs w1 hvs hat hb hI hF; try simp [factsI, Region.binds, Is] at hF
       have HI2 := Lib.hid hI; clear hI
       go_simp
       first | exact ⟨gb_refl _ _, HI2.out⟩ | exact HI2.out | exact ⟨HI2.out, trivial⟩
      refine val_cons ?_ (fun v11 => ?_)
      ·intro L vs w1 hvs hat hb hI hF; try simp [factsI, Region.binds, Is] at hF
       have HI2 := Lib.hid hI; clear hI
       go_simp
       first | exact ⟨gb_refl _ _, HI2.out⟩ | exact HI2.out | exact ⟨HI2.out, trivial⟩
      refine val_cons ?_ (fun v12 => ?_)
      ·intro L vs w1 hvs hat hb hI hF; try simp [factsI, Region.binds, Is] at hF
       have h15 := Lib.hid hat.self
       have hB := hI.1 h15.out
       have l6 := hB.lt
       have f6 := hB.free z
       have e6 := ((hB.cell z).trans (setZ_get S hz8 (dZ m i z)))
       have HW := Lib.hid hB
       clear hI hB
       go_simp
       refine ⟨gb_set (gb_refl _ _) _ rfl _, ⟨fun e => (by cases e), fun _ => ?_⟩, trivial⟩
       have := HW.out.set z (.int .u64 (dZ m (i + 1) z))
       rw [setZ_set S hz8] at this
       exact this
      refine val_nil ?_
      intro vs w1 hvs hb hI hF
      simp [Is, Nat.forall_lt_succ_right] at hF
      have e0 := hF.1.1.1.1.1.1.1.1.1.1.1.1
      have e1 := hF.1.1.1.1.1.1.1.1.1.1.1.2
      have e2 := hF.1.1.1.1.1.1.1.1.1.1.2
      have e3 := hF.1.1.1.1.1.1.1.1.1.2
      have e4 := hF.1.1.1.1.1.1.1.1.2
      have e5 := hF.1.1.1.1.1.1.1.2
      have e6 := hF.1.1.1.1.1.1.2
      have e7 := hF.1.1.1.1.1.2
      have e8 := hF.1.1.1.1.2
      have e9 := hF.1.1.1.2
      have e10 := hF.1.1.2
      have e11 := hF.1.2
      have e12 := hF.2
      clear hF
      simp only [Act.put, List.setIfInBounds_toArray, List.set_cons_succ, List.set_cons_zero, e0, e1, e2, e3, e4, e5, e6, e7, e8, e9, e10, e11]
      clear e0 e1 e2 e3 e4 e5 e6 e7 e8 e9 e10 e11
      have hB7 := hI.2 rfl
      have HC := Lib.hid (And.intro hB7 (HCS.out.2.2.2.2.2.trans hb))
      clear hI hb hB7 hvs hst
      go_wp2_with fail
      refine ⟨⟨i + 1, by omega, by simp, HC⟩, by simp [intOf]; omega⟩
     ·obtain rfl : i = m.length := by omega
      have hdi : decide ((m.length : Int) < (m.length : Int)) = false := decide_eq_false (by omega)
      have HC : Hid (Blk wr N (mixU 0 S (z + 1)) 64 ∧ W1.grownBy wr (some N)) := Lib.hid ⟨by have := HI.out.1; rwa [dZ_end, ← HB.out.2.2, setZ_end S hz8] at this, HI.out.2⟩
      clear HI
      go_wp2_with fail
      refine ⟨⟨z + 1, by omega, by simp, HC⟩, by simp [intOf]; omega⟩
   ·obtain rfl : z = 8 := by omega
    have B5 := HI.out.1
    rw [mixU_end] at B5
    have B0 := H1.out.2.1.gb HI.out.2 (by simp; have := H1.out.2.2.2; omega)
    have hbI : Below w.heap.size w wr := H1.out.2.2.1.grown HI.out.2 H1.out.2.2.1.size (fun j e => by cases e; have := H1.out.2.2.2; omega)
    have hne : N ≠ w.heap.size := by have := H1.out.2.2.2; omega
    have BR := B5.rowO (g := w.heap.size) #[.int .u64 0, .int .u64 0, .int .u64 0, .int .u64 0, .int .u64 0, .int .u64 0, .int .u64 0, .int .u64 0] hne
    have c0 := BR.cell 0; have c1 := BR.cell 1; have c2 := BR.cell 2; have c3 := BR.cell 3; have c4 := BR.cell 4; have c5 := BR.cell 5; have c6 := BR.cell 6; have c7 := BR.cell 7
    simp only [List.getElem?_toArray, List.getElem?_cons_zero, List.getElem?_cons_succ] at c0 c1 c2 c3 c4 c5 c6 c7
    have lR := BR.lt
    have r2 := B0.row; have l2 := B0.lt
    have HZ := Lib.hid (And.intro B0 hbI)
    have HS2 := Lib.hid HB.out.2.2
    have hd8 : decide (((8 : Nat) : Int) < 8) = false := by decide
    rw [← B0.rw]
    clear B5 B0 hbI BR HI hne
    go_wp2_with fail
    have BS := HZ.out.1.rowS #[.int .u64 (pl S 0), .int .u64 (pl S 1), .int .u64 (pl S 2), .int .u64 (pl S 3), .int .u64 (pl S 4), .int .u64 (pl S 5), .int .u64 (pl S 6), .int .u64 (pl S 7)]
    have s0 := BS.cell 0; have s1 := BS.cell 1; have s2 := BS.cell 2; have s3 := BS.cell 3; have s4 := BS.cell 4; have s5 := BS.cell 5; have s6 := BS.cell 6; have s7 := BS.cell 7
    simp only [List.getElem?_toArray, List.getElem?_cons_zero, List.getElem?_cons_succ] at s0 s1 s2 s3 s4 s5 s6 s7
    refine bodyPost_ret (v := .tuple #[solV S, .int .i64 0]) (by simp [results, Tryz.results52, go_sem, s0, s1, s2, s3, s4, s5, s6, s7]) rfl ⟨rfl, blw_row HZ.out.2 (Nat.le_refl _) _⟩
 ·have e0 : ¬ (E = 0) := hE
  have hS0 : S = 0 := HS.out.trans (if_neg hE)
  subst hS0
  have HB := Lib.hid (And.intro B2 hbw)
  have r2 := B2.row; have l2 := B2.lt
  rw [← B2.rw]
  clear hb1 b2 hbel hbw B2 hE HM HS HE
  go_wp2_with fail
  have BS := HB.out.1.rowS #[.int .u64 0, .int .u64 0, .int .u64 0, .int .u64 0, .int .u64 0, .int .u64 0, .int .u64 0, .int .u64 0]
  have s0 := BS.cell 0; have s1 := BS.cell 1; have s2 := BS.cell 2; have s3 := BS.cell 3; have s4 := BS.cell 4; have s5 := BS.cell 5; have s6 := BS.cell 6; have s7 := BS.cell 7
  simp only [List.getElem?_toArray, List.getElem?_cons_zero, List.getElem?_cons_succ] at s0 s1 s2 s3 s4 s5 s6 s7
  refine bodyPost_ret (v := .tuple #[.agg #[.int .u64 0, .int .u64 0, .int .u64 0, .int .u64 0, .int .u64 0, .int .u64 0, .int .u64 0, .int .u64 0], .int .i64 E]) (by simp [results, Tryz.results52, go_sem, s0, s1, s2, s3, s4, s5, s6, s7]) rfl ⟨by simp [show ∀ k, pl (0#512) k = 0 from pl_zero], blw_row HB.out.2 (Nat.le_refl _) _⟩
end Go.Proofs.YtlbhjikkpbknnaaGreatDoor
end
section
namespace Go.Proofs.YtlbhjikkpbknnaaGreatDoor
open Go.RowKit Go.Rel Go.Draw
set_option maxRecDepth 100000
/-! Undercut of both -/
theorem errM_one (s : Sol) : errM [s] = if s = 0 then 1 else 0 := by
 unfold errM
 rw [if_neg (by simp)]
 by_cases h : s = 0
 ·rw [if_pos h, if_neg]
  intro hg
  exact ((goodM_iff [s]).1 hg).1 s (by simp) h
 ·rw [if_neg h, if_pos]
  exact (goodM_iff [s]).2 ⟨by simpa using h, List.pairwise_singleton _ _⟩
def underE (s : Sol) : Sol := if s = 0 then 0 else undercutM s
theorem Undercut_n {w : World} {s : Sol} (hT : Tab w) : Calls Tryz.prog 57 #[solV s] w fun e w' => e = .returned (.tuple #[solV (underE s), .int .i64 (errM [s])]) ∧ Below w.heap.size w w' := by
 refine (Undercut_spec hT).mono ?_
 rintro e w' ⟨hb, o, rfl, h0, h1⟩
 refine ⟨?_, hb⟩
 rw [errM_one] at h0 h1
 unfold underE
 by_cases h : s = 0
 ·rw [if_pos h] at h1 ⊢
  rw [h1 (by decide)]
 ·rw [if_neg h] at h0 ⊢
  rw [h0 rfl]
set_option maxHeartbeats 16000000 in
theorem refUndercut_n {w : World} {s : Sol} : Calls Tryz.prog 58 #[solV s] w fun e w' => e = .returned (.tuple #[solV (underE s), .int .i64 (errM [s])]) ∧ Below w.heap.size w w' := by
 have hE := errM_one s
 have hU : underE s = if s = 0 then 0 else undercutM s := rfl
 obtain ⟨E, hE1⟩ : ∃ E, E = errM [s] := ⟨_, rfl⟩
 obtain ⟨O, hO1⟩ : ∃ O, O = underE s := ⟨_, rfl⟩
 rw [← hE1] at hE ⊢
 rw [← hO1] at hU ⊢
 have HE := Lib.hid (And.intro hE hU)
 clear hE hU hE1 hO1
 by_cases hs : s = 0
 ·have ez : (s == 0#512) = true := beq_iff_eq.2 hs
  have HZ := Lib.hid hs; clear hs
  go_enter Tryz.func58, Tryz.ntmps58
  go_wp2_with fail
  refine bodyPost_ret (v := .tuple #[.agg #[.int .u64 0, .int .u64 0, .int .u64 0, .int .u64 0, .int .u64 0, .int .u64 0, .int .u64 0, .int .u64 0], .int .i64 1]) (by simp [results, Tryz.results58, go_sem]) rfl ⟨?_, (by repeat (first | with_reducible exact bel_refl _ | with_reducible assumption | with_reducible refine bel_drewN ?_ _ | with_reducible refine bel_drew ?_ | with_reducible refine bel_alloc ?_ _ | with_reducible refine bel_row ?_ ?_ _ | with_reducible refine bel_set ?_ ?_ _ | refine bel_trans ?_ (by with_reducible assumption) | (simp; done) | (simp; omega)))⟩
  rw [HE.out.1, HE.out.2, if_pos HZ.out, if_pos HZ.out]
  simp [show ∀ k, pl (0#512) k = 0 from pl_zero]
 ·have ez : (s == 0#512) = false := by rw [beq_eq_false_iff_ne]; exact hs
  have hE0 : E = 0 := HE.out.1.trans (if_neg hs)
  have hO0 : O = undercutM s := HE.out.2.trans (if_neg hs)
  subst hE0
  have HO := Lib.hid hO0
  clear hs hO0 HE
  go_enter Tryz.func58, Tryz.ntmps58
  go_wp2_with fail
  clear ez
  obtain ⟨W1, hW1⟩ : ∃ W1, W1 = ((w.alloc (.cells #[.int .u64 (pl s 0), .int .u64 (pl s 1), .int .u64 (pl s 2), .int .u64 (pl s 3), .int .u64 (pl s 4), .int .u64 (pl s 5), .int .u64 (pl s 6), .int .u64 (pl s 7)] 64)).alloc (.cells #[.int .u64 0, .int .u64 0, .int .u64 0, .int .u64 0, .int .u64 0, .int .u64 0, .int .u64 0, .int .u64 0] 64)).alloc (.cells #[.int .u64 0, .int .u64 0, .int .u64 0, .int .u64 0, .int .u64 0, .int .u64 0, .int .u64 0, .int .u64 0] 64) := ⟨_, rfl⟩
  have H1 : Hid (Blk W1 w.heap.size #[.int .u64 (pl s 0), .int .u64 (pl s 1), .int .u64 (pl s 2), .int .u64 (pl s 3), .int .u64 (pl s 4), .int .u64 (pl s 5), .int .u64 (pl s 6), .int .u64 (pl s 7)] 64 ∧ Blk W1 (w.heap.size + 1) #[.int .u64 0, .int .u64 0, .int .u64 0, .int .u64 0, .int .u64 0, .int .u64 0, .int .u64 0, .int .u64 0] 64 ∧ Blk W1 (w.heap.size + 1 + 1) #[.int .u64 0, .int .u64 0, .int .u64 0, .int .u64 0, .int .u64 0, .int .u64 0, .int .u64 0, .int .u64 0] 64 ∧ Below w.heap.size w W1) := Lib.hid ⟨by subst hW1; exact (by repeat (first | with_reducible assumption | (refine Blk.at _ _ ?_; (simp; done)) | with_reducible refine Blk.alloc ?_ _ | with_reducible refine Blk.drew ?_ | with_reducible refine Blk.rowS ?_ _ | with_reducible refine Blk.rowO ?_ _ (by simp))), by subst hW1; exact (by repeat (first | with_reducible assumption | (refine Blk.at _ _ ?_; (simp; done)) | with_reducible refine Blk.alloc ?_ _ | with_reducible refine Blk.drew ?_ | with_reducible refine Blk.rowS ?_ _ | with_reducible refine Blk.rowO ?_ _ (by simp))), by subst hW1; exact (by repeat (first | with_reducible assumption | (refine Blk.at _ _ ?_; (simp; done)) | with_reducible refine Blk.alloc ?_ _ | with_reducible refine Blk.drew ?_ | with_reducible refine Blk.rowS ?_ _ | with_reducible refine Blk.rowO ?_ _ (by simp))), by subst hW1; exact (by repeat (first | with_reducible exact bel_refl _ | with_reducible assumption | with_reducible refine bel_drewN ?_ _ | with_reducible refine bel_drew ?_ | with_reducible refine bel_alloc ?_ _ | with_reducible refine bel_row ?_ ?_ _ | with_reducible refine bel_set ?_ ?_ _ | refine bel_trans ?_ (by with_reducible assumption) | (simp; done) | (simp; omega)))⟩
  rw [← hW1]
  clear hW1
  go_loopw [5, 6] (fun bv iv wx => ∃ z : Nat, z ≤ 8 ∧ iv = .int .i64 z ∧ bv = .int .u64 (uI (belowR s z)) ∧ Hid (Blk wx (w.heap.size + 1 + 1) (mixU 0 O z) 64 ∧ W1.grownBy wx (some (w.heap.size + 1 + 1)))) (fun _ iv _ => 8 - (intOf iv).toNat)
  case atStart => exact ⟨0, by omega, rfl, by rw [show belowR s 0 = 0 from rfl, uI_zero], Lib.hid ⟨by rw [mixU_zero]; simpa [show ∀ k, pl (0#512) k = 0 from pl_zero] using H1.out.2.2.1, gb_refl _ _⟩⟩
  case round =>
   obtain ⟨z, hz, rfl, rfl, HI⟩ := hrel
   by_cases hz8 : z < 8
   ·have hzI : (z : Int) < 8 := by omega
    have hd : decide ((z : Int) < 8) = true := decide_eq_true hzI
    have BI := HI.out.1
    have BS := H1.out.1.gb HI.out.2 (by simp; omega)
    have lN := BI.lt
    have fN := BI.free z
    have eN := (BI.cell z).trans (mixU_get 0 O hz8)
    have lS := BS.lt
    have c1 := (BS.cell z).trans (mixA_get (fun i => pl s i) hz8)
    have ea : bits .andNot .u64 (uI (belowR s z)) (pl s z) = pl O z := by rw [pl_uI, bits_andNot_u, HO.out, pl_uI, under_words s hz8]
    have eo : bits .or .u64 (uI (belowR s z)) (pl s z) = uI (belowR s (z + 1)) := by rw [pl_uI, bits_or_u]; rfl
    have c2 := ((BS.other (a := ⟨w.heap.size + 1 + 1, z, none⟩) (by simp; omega) (.int .u64 (pl O z))).cell z).trans (mixA_get (fun i => pl s i) hz8)
    have HC : Hid (Blk (wr.setCell ⟨w.heap.size + 1 + 1, z, none⟩ (.int .u64 (pl O z))) (w.heap.size + 1 + 1) (mixU 0 O (z + 1)) 64 ∧ W1.grownBy (wr.setCell ⟨w.heap.size + 1 + 1, z, none⟩ (.int .u64 (pl O z))) (some (w.heap.size + 1 + 1))) := Lib.hid ⟨by rw [← mixU_set 0 O hz8]; exact BI.set _ _, gb_set HI.out.2 _ rfl _⟩
    clear BI BS HI
    go_wp2_with fail
    refine ⟨⟨z + 1, by omega, by simp, rfl, HC⟩, by simp [intOf]; omega⟩
   ·obtain rfl : z = 8 := by omega
    have B5 := HI.out.1
    rw [mixU_end] at B5
    have B0 := H1.out.2.1.gb HI.out.2 (by simp)
    have hbI : Below w.heap.size w wr := H1.out.2.2.2.grown HI.out.2 H1.out.2.2.2.size (fun j e => by cases e; omega)
    have BR := B5.rowO (g := w.heap.size + 1) #[.int .u64 0, .int .u64 0, .int .u64 0, .int .u64 0, .int .u64 0, .int .u64 0, .int .u64 0, .int .u64 0] (by omega)
    have c0 := BR.cell 0; have c1 := BR.cell 1; have c2 := BR.cell 2; have c3 := BR.cell 3; have c4 := BR.cell 4; have c5 := BR.cell 5; have c6 := BR.cell 6; have c7 := BR.cell 7
    simp only [List.getElem?_toArray, List.getElem?_cons_zero, List.getElem?_cons_succ] at c0 c1 c2 c3 c4 c5 c6 c7
    have lR := BR.lt
    have r2 := B0.row; have l2 := B0.lt
    have HZ := Lib.hid (And.intro B0 hbI)
    have hd8 : decide (((8 : Nat) : Int) < 8) = false := by decide
    rw [← B0.rw]
    clear B5 B0 hbI BR HI
    go_wp2_with fail
    have BS := HZ.out.1.rowS #[.int .u64 (pl O 0), .int .u64 (pl O 1), .int .u64 (pl O 2), .int .u64 (pl O 3), .int .u64 (pl O 4), .int .u64 (pl O 5), .int .u64 (pl O 6), .int .u64 (pl O 7)]
    have s0 := BS.cell 0; have s1 := BS.cell 1; have s2 := BS.cell 2; have s3 := BS.cell 3; have s4 := BS.cell 4; have s5 := BS.cell 5; have s6 := BS.cell 6; have s7 := BS.cell 7
    simp only [List.getElem?_toArray, List.getElem?_cons_zero, List.getElem?_cons_succ] at s0 s1 s2 s3 s4 s5 s6 s7
    refine bodyPost_ret (v := .tuple #[solV O, .int .i64 0]) (by simp [results, Tryz.results58, go_sem, s0, s1, s2, s3, s4, s5, s6, s7]) rfl ⟨rfl, blw_row HZ.out.2 (by omega) _⟩
end Go.Proofs.YtlbhjikkpbknnaaGreatDoor
end
section
namespace Go.Proofs.YtlbhjikkpbknnaaGreatDoor
open Go.RowKit Go.Rel Go.Draw
set_option maxRecDepth 100000
/-! lists of solids: parts of them, and words set in them -/
theorem sl_takeW {w : World} {k i n c : Nat} {a : Option Addr} {xs : List (List Value)} (h : Sl w k (.slice a n c) xs) (hi : i ≤ n) : Sl w k (.slice a i c) (xs.take i) := by
 obtain ⟨a', c', he, h1, h2, h3⟩ := h
 cases he
 have hl : (xs.take i).length = i := by rw [List.length_take]; omega
 refine ⟨a, c, by rw [hl], by rw [hl]; omega, h2, ?_⟩
 rcases h3 with rfl | ⟨b, off, rfl, h4⟩
 ·exact .inl (by simp)
 ·refine .inr ⟨b, off, rfl, h4.1, fun j r u hu => h4.2 j r u ?_⟩
  rw [List.getElem?_take] at hu
  split at hu
  ·exact hu
  ·simp at hu
theorem sl_dropW {w : World} {k i n c : Nat} {a : Option Addr} {xs : List (List Value)} (h : Sl w k (.slice a n c) xs) (hi : i ≤ n) : Sl w k (sliced a i n c k) (xs.drop i) := by
 obtain ⟨a', c', he, h1, h2, h3⟩ := h
 cases he
 have hl : (xs.drop i).length = xs.length - i := by rw [List.length_drop]
 unfold sliced
 refine ⟨_, _, by rw [hl], by rw [hl]; omega, by omega, ?_⟩
 rcases h3 with rfl | ⟨b, off, rfl, h4⟩
 ·exact .inl (by simp)
 ·by_cases hx : xs.drop i = []
  ·exact .inl hx
  ·have hlt : i < xs.length := by
    refine Nat.lt_of_not_le fun h => hx (List.drop_eq_nil_of_le h)
   refine .inr ⟨b, off + i * k, ?_, h4.1, fun j r u hu => ?_⟩
   ·rw [if_neg (by omega)]; simp [Go.WideShapes.add_plain]
   ·rw [List.getElem?_drop] at hu
    have := h4.2 (i + j) r u hu
    rw [show off + i * k + j * k + r = off + (i + j) * k + r by rw [Nat.add_mul]; omega]
    exact this
theorem app_sols {W : World} {base : Nat} {v x : Value} {xs ys : List Sol} (hO : OwnS W base v xs) (hX : SlS W x ys) (hl : xs.length + ys.length ≤ 1000) (hbase : base ≤ W.heap.size) :
  ∃ v' W', (Builtin.append_ #[22, 22] 22 #[v, x]).run Tryz.prog W = .ok v' W' ∧ OwnS W' base v' (xs ++ ys) ∧ Below base W W' := by
 obtain ⟨i0, hi, hz0, hz1, hz2⟩ := info_parts infoSolid
 have hlt := hO.lt
 rcases hX.cases with ⟨hy, a, c, rfl, hc⟩ | ⟨b, off, c, rfl, hc, hcm, hpos, hcs⟩
 ·have hy' : ys = [] := List.map_eq_nil_iff.1 hy
  subst hy'
  rw [List.append_nil]
  cases a with
  | none =>
   have hr : (Builtin.append_ #[22, 22] 22 #[v, .slice none 0 c]).run Tryz.prog W = .ok v W := by
    rcases hO.2 with ⟨rfl, hn⟩ | ⟨g, cap, cur, rfl, _, _, hnc, _⟩
    ·simp [Builtin.append_, run_underlying Tryz.underlying22, sizeOf, typeInfo, hi, Builtin.lenOf, Builtin.firstCells]
    ·simp [Builtin.append_, run_underlying Tryz.underlying22, sizeOf, typeInfo, hi, Builtin.lenOf, Builtin.firstCells, hnc, storeCells]
   exact ⟨v, W, hr, hO, Below.refl _ _⟩
  | some ad =>
   obtain ⟨v', w', hr, hO', hgr, _⟩ := run_append_own (P := Tryz.prog) W base 22 22 64 i0 _ 8 64 Tryz.underlying22 hi hz0 hz1 hz2 rfl (by decide) _ xs.length _ hO ad 0 c [] (by simp) (fun j u hu => by simp at hu) (fun x hx => by simp at hx) (by unfold maxLen; simp at hl; omega) (by simp at hl; omega) hbase
   refine ⟨v', w', hr, ?_, (Below.refl _ _).grown hgr hbase (fun k hk => (hlt k hk).1)⟩
   simpa using hO'
 ·rw [List.length_map] at hc hpos
  obtain ⟨v', w', hr, hO', hgr, _⟩ := run_append_own (P := Tryz.prog) W base 22 22 64 i0 _ 8 64 Tryz.underlying22 hi hz0 hz1 hz2 rfl (by decide) _ xs.length _ hO ⟨b, off, none⟩ ys.length c ((ys.map solL).flatten) (solFlat_len ys) (fun j u hu => hcs.flat (fun r hr => by obtain ⟨s, _, rfl⟩ := List.mem_map.1 hr; rfl) j u hu) one_sol (by unfold maxLen; omega) (by omega) hbase
  refine ⟨v', w', by rw [List.length_map]; exact hr, ?_, (Below.refl _ _).grown hgr hbase (fun k hk => (hlt k hk).1)⟩
  unfold OwnS
  rw [List.length_append, List.map_append, List.flatten_append]
  exact hO'
/-- a word of a solid, set -/
def setW (s : Sol) (z : Nat) (x : U) : Sol := (s &&& ~~~(shS (~~~0#64) z)) ||| shS x z
theorem plv_setW (s : Sol) {z : Nat} (x : U) {k : Nat} (hz : z < 8) (hk : k < 8) : plv (setW s z x) k = if k = z then x else plv s k := by
 unfold setW
 rw [plv_or, plv_and, plv_not _ _ hk, plv_shS _ _ _ hz hk, plv_shS _ _ _ hz hk]
 by_cases h : k = z
 ·rw [if_pos h, if_pos h, if_pos h]
  apply BitVec.eq_of_getLsbD_eq
  intro i hi
  simp
 ·rw [if_neg h, if_neg h, if_neg h, show ~~~(0#64) = BitVec.allOnes 64 from by decide +kernel, BitVec.and_allOnes, BitVec.or_zero]
theorem sol_flat (m : List Sol) : ∀ k, ((m.map solL).flatten)[k]? = (m[k / 8]?).map fun s => Value.int .u64 (pl s (k % 8)) := by
 induction m with
 | nil => intro k; simp
 | cons s m ih =>
  intro k
  rw [List.map_cons, List.flatten_cons]
  by_cases h : k < 8
  ·rw [List.getElem?_append_left (by simpa using h), Nat.div_eq_of_lt h, Nat.mod_eq_of_lt h]
   obtain rfl | rfl | rfl | rfl | rfl | rfl | rfl | rfl : k = 0 ∨ k = 1 ∨ k = 2 ∨ k = 3 ∨ k = 4 ∨ k = 5 ∨ k = 6 ∨ k = 7 := by omega
   all_goals rfl
  ·rw [List.getElem?_append_right (by simp; omega)]
   have e : k - (solL s).length = k - 8 := rfl
   rw [e, ih, show k / 8 = (k - 8) / 8 + 1 by omega, show k % 8 = (k - 8) % 8 by omega]
   simp
theorem flat_setW {m : List Sol} {a z : Nat} {s : Sol} (hs : m[a]? = some s) (hz : z < 8) (x : U) : ((m.map solL).flatten).set (a * 8 + z) (.int .u64 (uI x)) = ((m.set a (setW s z x)).map solL).flatten := by
 have ha : a < m.length := (List.getElem?_eq_some_iff.1 hs).1
 apply List.ext_getElem?
 intro k
 rw [List.getElem?_set, sol_flat, sol_flat, List.getElem?_set, solFlat_len]
 by_cases h : a * 8 + z = k
 ·subst h
  rw [if_pos rfl, if_pos (by omega), show (a * 8 + z) / 8 = a by omega, show (a * 8 + z) % 8 = z by omega, if_pos rfl, if_pos ha]
  simp only [Option.map_some]
  rw [pl_uI, plv_setW _ _ hz hz, if_pos rfl]
 ·rw [if_neg h]
  by_cases h2 : a = k / 8
  ·subst h2
   rw [if_pos rfl, if_pos ha, hs]
   simp only [Option.map_some]
   rw [pl_uI, pl_uI, plv_setW _ _ hz (by omega), if_neg (by omega)]
  ·rw [if_neg h2]
theorem OwnQ.setW {W : World} {base g cap : Nat} {m : List Sol} {cur : Array Value} (h : OwnQ W base m g cap cur) {a z : Nat} {s : Sol} (hs : m[a]? = some s) (hz : z < 8) (x : U) :
  OwnQ (W.setCell ⟨g, a * 8 + z, none⟩ (.int .u64 (uI x))) base (m.set a (setW s z x)) g cap (cur.setIfInBounds (a * 8 + z) (.int .u64 (uI x))) := by
 have ha : a < m.length := (List.getElem?_eq_some_iff.1 hs).1
 have hle := h.le
 refine ⟨h.base, h.blk.set _ _, by rw [List.length_set]; exact h.le, h.lim, by rw [Array.size_setIfInBounds]; exact h.size, ?_⟩
 rw [List.length_set, ← flat_setW hs hz, ← h.rows, Array.toList_setIfInBounds, List.take_set]
theorem OwnQ.cellz {W : World} {base g cap : Nat} {m : List Sol} {cur : Array Value} (h : OwnQ W base m g cap cur) {k z : Nat} {s : Sol} (hs : m[k]? = some s) (hz : z < 8) : W.cell? ⟨g, k * 8 + z, none⟩ = some (.int .u64 (pl s z)) := by
 have hk : k < m.length := (List.getElem?_eq_some_iff.1 hs).1
 rw [h.blk.cell, ← Array.getElem?_toList]
 have h1 := sol_flat m (k * 8 + z)
 rw [← h.rows, List.getElem?_take, if_pos (by omega), show (k * 8 + z) / 8 = k by omega, show (k * 8 + z) % 8 = z by omega, hs] at h1
 exact h1
/-- the words below z are those of t -/
def mixW (x t : Sol) : Nat → Sol
 | 0 => x
 | z + 1 => setW (mixW x t z) z (plv t z)
theorem plv_mixW (x t : Sol) {k : Nat} (hk : k < 8) : ∀ z, z ≤ 8 → plv (mixW x t z) k = if k < z then plv t k else plv x k
 | 0, _ => rfl
 | z + 1, h => by
  unfold mixW
  rw [plv_setW _ _ (by omega) hk, plv_mixW x t hk z (by omega)]
  by_cases e : k = z
  ·rw [if_pos e, if_pos (by omega), e]
  ·rw [if_neg e]
   by_cases h2 : k < z
   ·rw [if_pos h2, if_pos (by omega)]
   ·rw [if_neg h2, if_neg (by omega)]
theorem mixW_end (x t : Sol) : mixW x t 8 = t := sol_ext fun k hk => by rw [plv_mixW x t hk 8 (by omega), if_pos hk]
def OwnR (W : World) (base : Nat) (m : List Sol) (g cap : Nat) : Prop := ∃ cur, OwnQ W base m g cap cur
theorem OwnR.step {W : World} {base g cap : Nat} {m : List Sol} {a z : Nat} {x t : Sol} (h : OwnR W base (m.set a (mixW x t z)) g cap) (ha : a < m.length) (hz : z < 8) :
  OwnR (W.setCell ⟨g, a * 8 + z, none⟩ (.int .u64 (pl t z))) base (m.set a (mixW x t (z + 1))) g cap := by
 obtain ⟨cur, h⟩ := h
 have hs : (m.set a (mixW x t z))[a]? = some (mixW x t z) := by simp [ha]
 have := h.setW hs hz (plv t z)
 rw [List.set_set, ← pl_uI] at this
 exact ⟨_, this⟩
theorem askE_two (m : List Sol) (p q : Int) : askE m [] [p, q] = if askE m [] [p] = 0 then askE m [] [q] else askE m [] [p] := by
 unfold askE
 by_cases h0 : errM m = 0
 ·simp only [h0, ne_eq, not_true_eq_false, if_false]
  rw [show setI m.length [] = some 0 from rfl]
  simp only [List.any_cons, List.any_nil, Bool.or_false]
  cases askF m.length 0 p <;> cases askF m.length 0 q <;> simp
 ·rw [if_pos h0, if_pos h0, if_pos h0, if_neg h0]
theorem ask_in {m : List Sol} {p : Int} (h : askE m [] [p] = 0) : m.length ≤ 12 ∧ ∃ q : Nat, p = (q : Int) ∧ q < m.length := by
 rw [askE_one_eq] at h
 by_cases hE : errM m = 0
 ·rw [if_neg (by simpa using hE)] at h
  by_cases hc : ((setI m.length []).isSome && decide (0 ≤ p) && decide (p < m.length) && !([] : List Int).contains p) = true
  ·simp only [Bool.and_eq_true, decide_eq_true_eq] at hc
   exact ⟨(errM_zero.1 hE).1, p.toNat, by omega, by omega⟩
  ·rw [if_neg hc] at h; cases h
 ·rw [if_pos hE] at h; exact absurd h hE
theorem wrap_succ {q : Nat} (h : q < 4611686018427387904) : IntKind.i64.wrap ((q : Int) + 1) = (q : Int) + 1 := IntWalk.i64_in _ ⟨by omega, by omega⟩
theorem own_nilS (W : World) {base : Nat} (h : base ≤ W.heap.size) : OwnS (W.alloc (.cells #[] 64)) base (.slice (some ⟨W.heap.size, 0, none⟩) 0 0) [] := World.ownsRow_lit W #[] 0 h (by decide) rfl
def joinE (m : List Sol) (p q : Int) : Int := if askE m [] [p, q] = 0 then (if p = q then 1 else 0) else askE m [] [p, q]
def joinL (m : List Sol) (p q : Int) : List Sol := if joinE m p q = 0 then (m.set (min p q).toNat (m.getD (min p q).toNat 0 ||| m.getD (max p q).toNat 0)).eraseIdx (max p q).toNat else []
end Go.Proofs.YtlbhjikkpbknnaaGreatDoor
end
