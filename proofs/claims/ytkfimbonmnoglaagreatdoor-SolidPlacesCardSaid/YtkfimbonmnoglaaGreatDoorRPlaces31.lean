import Derived.Test.YtkfimbonmnoglaaGreatDoorRPlaces30
import Derived.Deep.Cut
/-
  Given contracts of functions of the program, and laws for them, one behind the other.
-/
set_option linter.unusedVariables false
set_option linter.unusedSimpArgs false
set_option linter.unusedSectionVars false
section
namespace Go.Proofs.YtkfimbonmnoglaaGreatDoor
open Go.RowKit Go.Rel Go.Draw Go.Solid
set_option maxRecDepth 100000
theorem ClO.rowN {base : Nat} {W : World} {a : Option Addr} {l : List Cl} (h : ClO base W a l) {g : Nat} (hg : ∀ b off, a = some ⟨b, off, none⟩ → l ≠ [] → b ≠ g) (cs : Array Value) : ClO base (W.setRow g cs) a l := by
 by_cases hl : l = []
 ·exact .inl hl
 rcases h with h | ⟨b, off, h1, h2, h3⟩
 ·exact .inl h
 ·exact .inr ⟨b, off, h1, h2.rowC (hg b off h1 hl) cs, h3⟩
theorem cells_zero_len {s : Sol} (h : s ≠ 0) : 0 < (cellsS s).length := List.length_pos_iff.2 fun e => h (cellsS_nil.1 e)
attribute [local irreducible] accP
set_option maxHeartbeats 8000000 in
theorem refMoved_n (s : Sol) (d : Cl) (w : World) : Calls Tryz.prog 74 #[solV s, .int .i64 d.1, .int .i64 d.2.1, .int .i64 d.2.2] w fun e w' => e = .returned (.tuple #[solV (movedM s d).1, .int .i64 (movedM s d).2]) ∧ Below w.heap.size w w' := by
 have HC := Lib.hid fun W => refCells_open s W
 have hlen := cells512 s
 have HZ := Lib.hid zero_sols
 have HZV := Lib.hid zero_solV
 have H1 := Lib.hid fun W => refShort_spec d.1 W
 have H2 := Lib.hid fun W => refShort_spec d.2.1 W
 have H3 := Lib.hid fun W => refShort_spec d.2.2 W
 have hshort : shortB d = (inB d.1 (-7) 7 && inB d.2.1 (-7) 7 && inB d.2.2 (-7) 7) := rfl
 by_cases hs : s = 0
 ·have hM : movedM s d = (0, 0) := by unfold movedM; rw [if_pos hs]
  have hn : (cellsS s).length = 0 := by rw [hs, cellsS_zero]; rfl
  rw [hM]
  rw [hn] at HC
  clear hM hn hs hlen hshort H1 H2 H3
  go_enter Tryz.func74, Tryz.ntmps74
  go_wp2_with fail
  obtain ⟨W0, hW0⟩ : ∃ W0, W0 = (w.alloc (.cells #[.int .u64 (pl s 0), .int .u64 (pl s 1), .int .u64 (pl s 2), .int .u64 (pl s 3), .int .u64 (pl s 4), .int .u64 (pl s 5), .int .u64 (pl s 6), .int .u64 (pl s 7)] 26)).alloc (.cells #[.int .u64 0, .int .u64 0, .int .u64 0, .int .u64 0, .int .u64 0, .int .u64 0, .int .u64 0, .int .u64 0] 26) := ⟨_, rfl⟩
  have b0 : Blk W0 (w.heap.size + 1) #[.int .u64 0, .int .u64 0, .int .u64 0, .int .u64 0, .int .u64 0, .int .u64 0, .int .u64 0, .int .u64 0] 26 ∧ Below w.heap.size w W0 ∧ W0.heap.size = w.heap.size + 1 + 1 := by
   rw [hW0]
   exact ⟨Blk.at _ _ (by simp), (by repeat (first | with_reducible exact bel_refl _ | with_reducible assumption | with_reducible refine bel_drewN ?_ _ | with_reducible refine bel_drew ?_ | with_reducible refine bel_alloc ?_ _ | with_reducible refine bel_row ?_ ?_ _ | with_reducible refine bel_set ?_ ?_ _ | refine bel_trans ?_ (by with_reducible assumption) | (simp; done) | (simp; omega))), by simp⟩
  rw [← hW0]
  clear hW0
  have HB := Lib.hid b0
  clear b0
  refine (HC.out _).mono ?_
  rintro e w1 ⟨⟨a, c, rfl, hcl⟩, hb⟩
  have HB1 := Lib.hid (And.intro (HB.out.1.grow hb) (And.intro (bel_trans HB.out.2.1 hb) hcl))
  have HSz := Lib.hid (And.intro HB.out.2.2 hb.size)
  clear hb hcl HB
  have k0 := HB1.out.2.1
  go_wp2_with fail
  obtain ⟨wA, hwA⟩ : ∃ x, x = w1.alloc (.cells #[.int .u64 0, .int .u64 0, .int .u64 0, .int .u64 0, .int .u64 0, .int .u64 0, .int .u64 0, .int .u64 0] 26) := ⟨_, rfl⟩
  have HA : Hid (Blk wA w1.heap.size #[.int .u64 0, .int .u64 0, .int .u64 0, .int .u64 0, .int .u64 0, .int .u64 0, .int .u64 0, .int .u64 0] 26 ∧ Blk wA (w.heap.size + 1) #[.int .u64 0, .int .u64 0, .int .u64 0, .int .u64 0, .int .u64 0, .int .u64 0, .int .u64 0, .int .u64 0] 26 ∧ Below w.heap.size w wA ∧ w.heap.size + 1 < w1.heap.size) := Lib.hid (by
   rw [hwA]
   exact ⟨Blk.new _ _ _, HB1.out.1.alloc _, bel_alloc HB1.out.2.1 _, HB1.out.1.lt⟩)
  obtain ⟨ga, hga⟩ : ∃ x, x = w1.heap.size := ⟨_, rfl⟩
  rw [← hwA, ← hga]
  rw [← hga] at HA
  clear hwA hga HB1 HSz k0
  go_loopw [12] (fun iv wx => iv = .int .i64 0 ∧ wx = wA) (fun iv _ => 0)
  case atStart => exact ⟨rfl, rfl⟩
  case round =>
   obtain ⟨rfl, hwr⟩ := hrel
   have hwr2 := hwr
   subst hwr2
   have c1 := (HA.out.1.rowO (g := w.heap.size + 1) #[.int .u64 0, .int .u64 0, .int .u64 0, .int .u64 0, .int .u64 0, .int .u64 0, .int .u64 0, .int .u64 0] (by have := HA.out.2.2.2; omega)).cell
   have l1 := HA.out.1.lt
   have k2 := HA.out.2.1
   have r2 := k2.row; have l2 := k2.lt
   have cF := (k2.rowS #[.int .u64 0, .int .u64 0, .int .u64 0, .int .u64 0, .int .u64 0, .int .u64 0, .int .u64 0, .int .u64 0]).cell
   have hb5 := bel_row HA.out.2.2.1 (g := w.heap.size + 1) (by omega) #[.int .u64 0, .int .u64 0, .int .u64 0, .int .u64 0, .int .u64 0, .int .u64 0, .int .u64 0, .int .u64 0]
   rw [← k2.rw]
   clear k2
   go_wp2_with fail
   exact bodyPost_ret (v := .tuple #[solV 0, .int .i64 0]) (by rw [HZV.out]; simp [results, Tryz.results74, go_sem, cF]) rfl ⟨rfl, hb5⟩
 ·have hpos := cells_zero_len hs
  have hM : movedM s d = if shortB d then (if stays (movC d) s then (imgS (movC d) s, 0) else (0, 20)) else (0, 20) := by unfold movedM; rw [if_neg hs]
  cases h1 : inB d.1 (-7) 7 with
  | false =>
   have hM2 : movedM s d = (0, 20) := by rw [hM, hshort, h1]; rfl
   rw [hM2]
   rw [h1] at H1
   obtain ⟨n, hn⟩ : ∃ n, n = (cellsS s).length := ⟨_, rfl⟩
   rw [← hn] at hpos HC
   obtain ⟨x, y, z⟩ := d
   clear hM hM2 hshort h1 hn hlen hs
   go_enter Tryz.func74, Tryz.ntmps74
   go_wp2_with fail
   obtain ⟨W0, hW0⟩ : ∃ W0, W0 = (w.alloc (.cells #[.int .u64 (pl s 0), .int .u64 (pl s 1), .int .u64 (pl s 2), .int .u64 (pl s 3), .int .u64 (pl s 4), .int .u64 (pl s 5), .int .u64 (pl s 6), .int .u64 (pl s 7)] 26)).alloc (.cells #[.int .u64 0, .int .u64 0, .int .u64 0, .int .u64 0, .int .u64 0, .int .u64 0, .int .u64 0, .int .u64 0] 26) := ⟨_, rfl⟩
   have b0 : Blk W0 (w.heap.size + 1) #[.int .u64 0, .int .u64 0, .int .u64 0, .int .u64 0, .int .u64 0, .int .u64 0, .int .u64 0, .int .u64 0] 26 ∧ Below w.heap.size w W0 ∧ W0.heap.size = w.heap.size + 1 + 1 := by
    rw [hW0]
    exact ⟨Blk.at _ _ (by simp), (by repeat (first | with_reducible exact bel_refl _ | with_reducible assumption | with_reducible refine bel_drewN ?_ _ | with_reducible refine bel_drew ?_ | with_reducible refine bel_alloc ?_ _ | with_reducible refine bel_row ?_ ?_ _ | with_reducible refine bel_set ?_ ?_ _ | refine bel_trans ?_ (by with_reducible assumption) | (simp; done) | (simp; omega))), by simp⟩
   rw [← hW0]
   clear hW0
   have HB := Lib.hid b0
   clear b0
   refine (HC.out _).mono ?_
   rintro e w1 ⟨⟨a, c, rfl, hcl⟩, hb⟩
   have HB1 := Lib.hid (And.intro (HB.out.1.grow hb) (And.intro (bel_trans HB.out.2.1 hb) hcl))
   have HSz := Lib.hid (And.intro HB.out.2.2 hb.size)
   clear hb hcl HB
   go_wp2_with fail
   refine (H1.out _).mono ?_
   rintro e w2 ⟨rfl, rfl⟩
   have k2 := HB1.out.1
   have r2 := k2.row; have l2 := k2.lt
   have cF := (k2.rowS #[.int .u64 0, .int .u64 0, .int .u64 0, .int .u64 0, .int .u64 0, .int .u64 0, .int .u64 0, .int .u64 0]).cell
   have hb5 := bel_row HB1.out.2.1 (g := w.heap.size + 1) (by omega) #[.int .u64 0, .int .u64 0, .int .u64 0, .int .u64 0, .int .u64 0, .int .u64 0, .int .u64 0, .int .u64 0]
   rw [← k2.rw]
   clear k2
   go_wp2_with fail
   exact bodyPost_ret (v := .tuple #[solV 0, .int .i64 20]) (by rw [HZV.out]; simp [results, Tryz.results74, go_sem, cF]) rfl ⟨rfl, hb5⟩
  | true =>
   rw [h1] at H1
   cases h2 : inB d.2.1 (-7) 7 with
   | false =>
    have hM2 : movedM s d = (0, 20) := by rw [hM, hshort, h1, h2]; rfl
    rw [hM2]
    rw [h2] at H2
    obtain ⟨n, hn⟩ : ∃ n, n = (cellsS s).length := ⟨_, rfl⟩
    rw [← hn] at hpos HC
    obtain ⟨x, y, z⟩ := d
    clear hM hM2 hshort h1 h2 hn hlen hs
    go_enter Tryz.func74, Tryz.ntmps74
    go_wp2_with fail
    obtain ⟨W0, hW0⟩ : ∃ W0, W0 = (w.alloc (.cells #[.int .u64 (pl s 0), .int .u64 (pl s 1), .int .u64 (pl s 2), .int .u64 (pl s 3), .int .u64 (pl s 4), .int .u64 (pl s 5), .int .u64 (pl s 6), .int .u64 (pl s 7)] 26)).alloc (.cells #[.int .u64 0, .int .u64 0, .int .u64 0, .int .u64 0, .int .u64 0, .int .u64 0, .int .u64 0, .int .u64 0] 26) := ⟨_, rfl⟩
    have b0 : Blk W0 (w.heap.size + 1) #[.int .u64 0, .int .u64 0, .int .u64 0, .int .u64 0, .int .u64 0, .int .u64 0, .int .u64 0, .int .u64 0] 26 ∧ Below w.heap.size w W0 ∧ W0.heap.size = w.heap.size + 1 + 1 := by
     rw [hW0]
     exact ⟨Blk.at _ _ (by simp), (by repeat (first | with_reducible exact bel_refl _ | with_reducible assumption | with_reducible refine bel_drewN ?_ _ | with_reducible refine bel_drew ?_ | with_reducible refine bel_alloc ?_ _ | with_reducible refine bel_row ?_ ?_ _ | with_reducible refine bel_set ?_ ?_ _ | refine bel_trans ?_ (by with_reducible assumption) | (simp; done) | (simp; omega))), by simp⟩
    rw [← hW0]
    clear hW0
    have HB := Lib.hid b0
    clear b0
    refine (HC.out _).mono ?_
    rintro e w1 ⟨⟨a, c, rfl, hcl⟩, hb⟩
    have HB1 := Lib.hid (And.intro (HB.out.1.grow hb) (And.intro (bel_trans HB.out.2.1 hb) hcl))
    have HSz := Lib.hid (And.intro HB.out.2.2 hb.size)
    clear hb hcl HB
    go_wp2_with fail
    refine (H1.out _).mono ?_
    rintro e w2 ⟨rfl, rfl⟩
    go_wp2_with fail
    refine (H2.out _).mono ?_
    rintro e w2 ⟨rfl, rfl⟩
    have k2 := HB1.out.1
    have r2 := k2.row; have l2 := k2.lt
    have cF := (k2.rowS #[.int .u64 0, .int .u64 0, .int .u64 0, .int .u64 0, .int .u64 0, .int .u64 0, .int .u64 0, .int .u64 0]).cell
    have hb5 := bel_row HB1.out.2.1 (g := w.heap.size + 1) (by omega) #[.int .u64 0, .int .u64 0, .int .u64 0, .int .u64 0, .int .u64 0, .int .u64 0, .int .u64 0, .int .u64 0]
    rw [← k2.rw]
    clear k2
    go_wp2_with fail
    exact bodyPost_ret (v := .tuple #[solV 0, .int .i64 20]) (by rw [HZV.out]; simp [results, Tryz.results74, go_sem, cF]) rfl ⟨rfl, hb5⟩
   | true =>
    rw [h2] at H2
    cases h3 : inB d.2.2 (-7) 7 with
    | false =>
     have hM2 : movedM s d = (0, 20) := by rw [hM, hshort, h1, h2, h3]; rfl
     rw [hM2]
     rw [h3] at H3
     obtain ⟨n, hn⟩ : ∃ n, n = (cellsS s).length := ⟨_, rfl⟩
     rw [← hn] at hpos HC
     obtain ⟨x, y, z⟩ := d
     clear hM hM2 hshort h1 h2 h3 hn hlen hs
     go_enter Tryz.func74, Tryz.ntmps74
     go_wp2_with fail
     obtain ⟨W0, hW0⟩ : ∃ W0, W0 = (w.alloc (.cells #[.int .u64 (pl s 0), .int .u64 (pl s 1), .int .u64 (pl s 2), .int .u64 (pl s 3), .int .u64 (pl s 4), .int .u64 (pl s 5), .int .u64 (pl s 6), .int .u64 (pl s 7)] 26)).alloc (.cells #[.int .u64 0, .int .u64 0, .int .u64 0, .int .u64 0, .int .u64 0, .int .u64 0, .int .u64 0, .int .u64 0] 26) := ⟨_, rfl⟩
     have b0 : Blk W0 (w.heap.size + 1) #[.int .u64 0, .int .u64 0, .int .u64 0, .int .u64 0, .int .u64 0, .int .u64 0, .int .u64 0, .int .u64 0] 26 ∧ Below w.heap.size w W0 ∧ W0.heap.size = w.heap.size + 1 + 1 := by
      rw [hW0]
      exact ⟨Blk.at _ _ (by simp), (by repeat (first | with_reducible exact bel_refl _ | with_reducible assumption | with_reducible refine bel_drewN ?_ _ | with_reducible refine bel_drew ?_ | with_reducible refine bel_alloc ?_ _ | with_reducible refine bel_row ?_ ?_ _ | with_reducible refine bel_set ?_ ?_ _ | refine bel_trans ?_ (by with_reducible assumption) | (simp; done) | (simp; omega))), by simp⟩
     rw [← hW0]
     clear hW0
     have HB := Lib.hid b0
     clear b0
     refine (HC.out _).mono ?_
     rintro e w1 ⟨⟨a, c, rfl, hcl⟩, hb⟩
     have HB1 := Lib.hid (And.intro (HB.out.1.grow hb) (And.intro (bel_trans HB.out.2.1 hb) hcl))
     have HSz := Lib.hid (And.intro HB.out.2.2 hb.size)
     clear hb hcl HB
     go_wp2_with fail
     refine (H1.out _).mono ?_
     rintro e w2 ⟨rfl, rfl⟩
     go_wp2_with fail
     refine (H2.out _).mono ?_
     rintro e w2 ⟨rfl, rfl⟩
     go_wp2_with fail
     refine (H3.out _).mono ?_
     rintro e w2 ⟨rfl, rfl⟩
     have k2 := HB1.out.1
     have r2 := k2.row; have l2 := k2.lt
     have cF := (k2.rowS #[.int .u64 0, .int .u64 0, .int .u64 0, .int .u64 0, .int .u64 0, .int .u64 0, .int .u64 0, .int .u64 0]).cell
     have hb5 := bel_row HB1.out.2.1 (g := w.heap.size + 1) (by omega) #[.int .u64 0, .int .u64 0, .int .u64 0, .int .u64 0, .int .u64 0, .int .u64 0, .int .u64 0, .int .u64 0]
     rw [← k2.rw]
     clear k2
     go_wp2_with fail
     exact bodyPost_ret (v := .tuple #[solV 0, .int .i64 20]) (by rw [HZV.out]; simp [results, Tryz.results74, go_sem, cF]) rfl ⟨rfl, hb5⟩
    | true =>
     rw [h3] at H3
     rw [hshort, h1, h2, h3] at hM
     have hM2 : movedM s d = if stays (movC d) s then (imgS (movC d) s, 0) else (0, 20) := by rw [hM]; rfl
     have hd := inB_iff.1 h1
     have hd2 := inB_iff.1 h2
     have hd3 := inB_iff.1 h3
     clear hM hshort h1 h2 h3
     have hE := accP_end (movC d) s
     have hin7 : ∀ c ∈ cellsS s, inG c = true := fun c hc => has_in (mem_cellsS.1 hc)
     have hyes : (∀ c ∈ cellsS s, inG (movC d c) = true) → movedM s d = (accP (movC d) (cellsS s) (cellsS s).length, 0) := fun h => by
      rw [hM2, if_pos (stays_iff.2 fun c hc => h c (mem_cellsS.2 hc)), hE]
     have hno : (∃ c ∈ cellsS s, inG (movC d c) = false) → movedM s d = (0, 20) := fun ⟨c, hc, hf⟩ => by
      rw [hM2, if_neg (fun h => by rw [stays_iff.1 h c (mem_cellsS.1 hc)] at hf; cases hf)]
     obtain ⟨R, hR⟩ : ∃ R, R = movedM s d := ⟨_, rfl⟩
     rw [← hR] at hyes hno ⊢
     obtain ⟨L, hL⟩ : ∃ L, L = cellsS s := ⟨_, rfl⟩
     rw [← hL] at HC hin7 hlen hpos hyes hno
     clear hL hR hE hM2 hs
     obtain ⟨n, hn⟩ : ∃ n, n = L.length := ⟨_, rfl⟩
     rw [← hn] at HC hlen hpos hyes
     have h0 : accP (movC d) L 0 = 0 := by unfold accP; rfl
     have hst : ∀ i c, L[i]? = some c → withS (accP (movC d) L i) (movC d c) = accP (movC d) L (i + 1) := fun i c h => accP_step h
     obtain ⟨A, hA⟩ : ∃ A, A = accP (movC d) L := ⟨_, rfl⟩
     rw [← hA] at hyes h0 hst
     have HY := Lib.hid hyes
     have HNo := Lib.hid hno
     have H0 := Lib.hid h0
     have HST := Lib.hid hst
     have HI := Lib.hid hin7
     have HN := Lib.hid hn
     clear hA h0 hst hin7 hn hyes hno
     have HD := Lib.hid (And.intro hd (And.intro hd2 hd3))
     have HMv := Lib.hid fun c (hc : near14 c) W => refMoved_spec c d (by have := hc.1; omega) (by have := hc.2.1; omega) (by have := hc.2.2; omega) W
     have HIn := Lib.hid fun c W => inGrid_spec c W
     obtain ⟨dx, dy, dz⟩ := d
     clear hd hd2 hd3
     go_enter Tryz.func74, Tryz.ntmps74
     go_wp2_with fail
     obtain ⟨W0, hW0⟩ : ∃ W0, W0 = (w.alloc (.cells #[.int .u64 (pl s 0), .int .u64 (pl s 1), .int .u64 (pl s 2), .int .u64 (pl s 3), .int .u64 (pl s 4), .int .u64 (pl s 5), .int .u64 (pl s 6), .int .u64 (pl s 7)] 26)).alloc (.cells #[.int .u64 0, .int .u64 0, .int .u64 0, .int .u64 0, .int .u64 0, .int .u64 0, .int .u64 0, .int .u64 0] 26) := ⟨_, rfl⟩
     have b0 : Blk W0 (w.heap.size + 1) #[.int .u64 0, .int .u64 0, .int .u64 0, .int .u64 0, .int .u64 0, .int .u64 0, .int .u64 0, .int .u64 0] 26 ∧ Below w.heap.size w W0 ∧ W0.heap.size = w.heap.size + 1 + 1 := by
      rw [hW0]
      exact ⟨Blk.at _ _ (by simp), (by repeat (first | with_reducible exact bel_refl _ | with_reducible assumption | with_reducible refine bel_drewN ?_ _ | with_reducible refine bel_drew ?_ | with_reducible refine bel_alloc ?_ _ | with_reducible refine bel_row ?_ ?_ _ | with_reducible refine bel_set ?_ ?_ _ | refine bel_trans ?_ (by with_reducible assumption) | (simp; done) | (simp; omega))), by simp⟩
     rw [← hW0]
     clear hW0
     have HB := Lib.hid b0
     clear b0
     refine (HC.out _).mono ?_
     rintro e w1 ⟨⟨a, c, rfl, hcl⟩, hb⟩
     have HB1 := Lib.hid (And.intro (HB.out.1.grow hb) (And.intro (bel_trans HB.out.2.1 hb) hcl))
     have HSz := Lib.hid (And.intro HB.out.2.2 hb.size)
     clear hb hcl HB
     go_wp2_with fail
     refine (H1.out _).mono ?_
     rintro e w2 ⟨rfl, hw⟩
     obtain rfl : w1 = w2 := hw.symm
     clear hw
     go_wp2_with fail
     refine (H2.out _).mono ?_
     rintro e w2 ⟨rfl, hw⟩
     obtain rfl : w1 = w2 := hw.symm
     clear hw
     go_wp2_with fail
     refine (H3.out _).mono ?_
     rintro e w2 ⟨rfl, hw⟩
     obtain rfl : w1 = w2 := hw.symm
     clear hw
     go_wp2_with fail
     obtain ⟨wA, hwA⟩ : ∃ x, x = w1.alloc (.cells #[.int .u64 0, .int .u64 0, .int .u64 0, .int .u64 0, .int .u64 0, .int .u64 0, .int .u64 0, .int .u64 0] 26) := ⟨_, rfl⟩
     have HA : Hid (Blk wA w1.heap.size #[.int .u64 (pl (A 0) 0), .int .u64 (pl (A 0) 1), .int .u64 (pl (A 0) 2), .int .u64 (pl (A 0) 3), .int .u64 (pl (A 0) 4), .int .u64 (pl (A 0) 5), .int .u64 (pl (A 0) 6), .int .u64 (pl (A 0) 7)] 26 ∧ Blk wA (w.heap.size + 1) #[.int .u64 0, .int .u64 0, .int .u64 0, .int .u64 0, .int .u64 0, .int .u64 0, .int .u64 0, .int .u64 0] 26 ∧ Below w.heap.size w wA ∧ ClO W0.heap.size wA a L) := Lib.hid (by
      rw [hwA, H0.out, HZ.out]
      exact ⟨Blk.new _ _ _, HB1.out.1.alloc _, bel_alloc HB1.out.2.1 _, HB1.out.2.2.mono (bel_alloc (bel_refl _) _)⟩)
     have HO : Hid (w.heap.size + 1 < w1.heap.size ∧ W0.heap.size = w.heap.size + 1 + 1 ∧ (∀ b off, a = some ⟨b, off, none⟩ → L ≠ [] → b < w1.heap.size)) := Lib.hid ⟨HB1.out.1.lt, HSz.out.1, fun b off h hl => by
      rcases HB1.out.2.2 with h2 | ⟨b', off', h1, h2, _⟩
      ·exact absurd h2 hl
      ·rw [h1] at h; cases h; exact h2.1⟩
     obtain ⟨ga, hga⟩ : ∃ x, x = w1.heap.size := ⟨_, rfl⟩
     obtain ⟨N0, hN0⟩ : ∃ x, x = W0.heap.size := ⟨_, rfl⟩
     rw [← hwA, ← hga]
     rw [← hga, ← hN0] at HO
     rw [← hga, ← hN0] at HA
     clear hwA hga hN0 HB1 HSz
     go_loopw [12] (fun iv wx => ∃ i : Nat, i ≤ n ∧ iv = .int .i64 i ∧ Hid ((∀ j c, j < i → L[j]? = some c → inG (movC (dx, dy, dz) c) = true) ∧ Blk wx ga #[.int .u64 (pl (A i) 0), .int .u64 (pl (A i) 1), .int .u64 (pl (A i) 2), .int .u64 (pl (A i) 3), .int .u64 (pl (A i) 4), .int .u64 (pl (A i) 5), .int .u64 (pl (A i) 6), .int .u64 (pl (A i) 7)] 26 ∧ Blk wx (w.heap.size + 1) #[.int .u64 0, .int .u64 0, .int .u64 0, .int .u64 0, .int .u64 0, .int .u64 0, .int .u64 0, .int .u64 0] 26 ∧ Below w.heap.size w wx ∧ ClO N0 wx a L)) (fun iv _ => n - (intOf iv).toNat)
     case atStart => exact ⟨0, by omega, rfl, Lib.hid ⟨fun j c h => by omega, HA.out⟩⟩
     case round =>
      clear HA
      obtain ⟨i, hi, rfl, HM⟩ := hrel
      by_cases hin : i < n
      ·have hx : ∃ x, L[i]? = some x := ⟨L[i]'(by rw [← HN.out]; exact hin), by simp [← HN.out, hin]⟩
       obtain ⟨x, hx⟩ := hx
       have h1 := HST.out i x hx
       have hxg := HI.out x (List.mem_of_getElem? hx)
       have hxn : near14 x := by
        have := inG_iff.1 hxg
        unfold near14; omega
       obtain ⟨P, hP⟩ : ∃ P, P = A i := ⟨_, rfl⟩
       obtain ⟨Q, hQ⟩ : ∃ P, P = A (i + 1) := ⟨_, rfl⟩
       have hyy : movC (dx, dy, dz) x = addC x (dx, dy, dz) := rfl
       rw [hyy] at h1
       have HM1 := Lib.hid fun W => HMv.out x hxn W
       obtain ⟨y, hy⟩ : ∃ y, y = addC x (dx, dy, dz) := ⟨_, rfl⟩
       rw [← hP] at HM h1
       rw [← hQ, ← hy] at h1
       rw [← hy] at HM1
       have HI1 := Lib.hid fun W => HIn.out y W
       have HQ := Lib.hid hQ
       have HX := Lib.hid hx
       have HYY := Lib.hid (hyy.trans hy.symm)
       obtain ⟨b, off, rfl, hcs, hNb⟩ := HM.out.2.2.2.2.at hx
       obtain ⟨z0, z1, z2⟩ := cl_cells hcs hx
       have lz := hcs.1
       cases hg : inG y with
       | false =>
        rw [hg] at HI1
        have hR := HNo.out ⟨x, List.mem_of_getElem? hx, by rw [hyy, ← hy]; exact hg⟩
        have HR := Lib.hid hR
        obtain ⟨y0, y1, y2⟩ := y
        clear h1 hxg hxn hP hQ hx hNb hg hcs hyy hy hR
        go_wp2_with fail
        refine (HM1.out _).mono ?_
        rintro e w3 ⟨rfl, hb⟩
        have hb3 := Lib.hid hb
        clear hb z0 z1 z2
        go_wp2_with fail
        refine (HI1.out _).mono ?_
        rintro e w4 ⟨rfl, hb⟩
        have hb4 := Lib.hid (bel_trans HM.out.2.2.2.1 (bel_trans (bel_alloc hb3.out _) hb))
        have k2 := ((HM.out.2.2.1.grow hb3.out).alloc (.cells #[.int .i64 y0, .int .i64 y1, .int .i64 y2] 60)).grow hb
        have r2 := k2.row; have l2 := k2.lt
        have cF := (k2.rowS #[.int .u64 0, .int .u64 0, .int .u64 0, .int .u64 0, .int .u64 0, .int .u64 0, .int .u64 0, .int .u64 0]).cell
        have hb5 := Lib.hid (bel_row hb4.out (g := w.heap.size + 1) (by omega) #[.int .u64 0, .int .u64 0, .int .u64 0, .int .u64 0, .int .u64 0, .int .u64 0, .int .u64 0, .int .u64 0])
        rw [← k2.rw]
        clear k2 hb
        go_wp2_with fail
        exact bodyPost_ret (v := .tuple #[solV 0, .int .i64 20]) (by rw [HZV.out]; simp [results, Tryz.results74, go_sem, cF]) rfl ⟨by rw [HR.out], hb5.out⟩
       | true =>
        rw [hg] at HI1
        have HW1 := Lib.hid fun W => refWith_spec P y hg W
        rw [h1] at HW1
        have HYG := Lib.hid (show inG (movC (dx, dy, dz) x) = true by rw [hyy, ← hy]; exact hg)
        obtain ⟨y0, y1, y2⟩ := y
        clear h1 hxg hxn hP hQ hx hNb hg hcs hyy hy
        go_wp2_with fail
        refine (HM1.out _).mono ?_
        rintro e w3 ⟨rfl, hb⟩
        have hb3 := Lib.hid hb
        clear hb z0 z1 z2
        go_wp2_with fail
        refine (HI1.out _).mono ?_
        rintro e w4 ⟨rfl, hb⟩
        have hb4 := Lib.hid (bel_trans (bel_alloc hb3.out (.cells #[.int .i64 y0, .int .i64 y1, .int .i64 y2] 60)) hb)
        have c13 := ((Blk.new w3 #[.int .i64 y0, .int .i64 y1, .int .i64 y2] 60).grow hb).cell
        have l13 := ((Blk.new w3 #[.int .i64 y0, .int .i64 y1, .int .i64 y2] 60).grow hb).lt
        have ca := (HM.out.2.1.grow hb4.out).cell; have la := (HM.out.2.1.grow hb4.out).lt
        clear hb
        go_wp2_with fail
        refine (HW1.out _).mono ?_
        rintro e w5 ⟨rfl, hb⟩
        have hb5 := Lib.hid (bel_trans hb4.out hb)
        clear hb c13 l13 ca la
        have hM1 := HM.out.2.1.grow hb5.out
        have ho := HO.out
        have HE : Hid (Blk (w5.setRow ga #[.int .u64 (pl Q 0), .int .u64 (pl Q 1), .int .u64 (pl Q 2), .int .u64 (pl Q 3), .int .u64 (pl Q 4), .int .u64 (pl Q 5), .int .u64 (pl Q 6), .int .u64 (pl Q 7)]) ga #[.int .u64 (pl Q 0), .int .u64 (pl Q 1), .int .u64 (pl Q 2), .int .u64 (pl Q 3), .int .u64 (pl Q 4), .int .u64 (pl Q 5), .int .u64 (pl Q 6), .int .u64 (pl Q 7)] 26 ∧ Blk (w5.setRow ga #[.int .u64 (pl Q 0), .int .u64 (pl Q 1), .int .u64 (pl Q 2), .int .u64 (pl Q 3), .int .u64 (pl Q 4), .int .u64 (pl Q 5), .int .u64 (pl Q 6), .int .u64 (pl Q 7)]) (w.heap.size + 1) #[.int .u64 0, .int .u64 0, .int .u64 0, .int .u64 0, .int .u64 0, .int .u64 0, .int .u64 0, .int .u64 0] 26 ∧ Below w.heap.size w (w5.setRow ga #[.int .u64 (pl Q 0), .int .u64 (pl Q 1), .int .u64 (pl Q 2), .int .u64 (pl Q 3), .int .u64 (pl Q 4), .int .u64 (pl Q 5), .int .u64 (pl Q 6), .int .u64 (pl Q 7)]) ∧ ClO N0 (w5.setRow ga #[.int .u64 (pl Q 0), .int .u64 (pl Q 1), .int .u64 (pl Q 2), .int .u64 (pl Q 3), .int .u64 (pl Q 4), .int .u64 (pl Q 5), .int .u64 (pl Q 6), .int .u64 (pl Q 7)]) (some ⟨b, off, none⟩) L) := Lib.hid ⟨hM1.rowS _, (HM.out.2.2.1.grow hb5.out).rowO _ (by omega), bel_row (bel_trans HM.out.2.2.2.1 hb5.out) (by omega) _, (HM.out.2.2.2.2.mono hb5.out).rowN (fun b' off' h1 h2 => by have := ho.2.2 b' off' h1 h2; omega) _⟩
        have rg := hM1.row; have lg2 := hM1.lt
        rw [← hM1.rw]
        clear hM1 ho
        go_wp2_with fail
        go_roundw
        case rel =>
         refine ⟨i + 1, by omega, by go_num, Lib.hid ⟨fun j c hj hc => ?_, ?_⟩⟩
         ·by_cases hji : j = i
          ·subst hji
           have := HX.out
           rw [this] at hc; cases hc
           exact HYG.out
          ·exact HM.out.1 j c (by omega) hc
         ·rw [← HQ.out]
          exact HE.out
        case measure => simp [intOf]; omega
      ·obtain rfl : i = n := by omega
       have hR := HY.out fun c hc => by
        obtain ⟨j, hj⟩ := List.mem_iff_getElem?.1 hc
        exact HM.out.1 j c (by rw [HN.out]; exact (List.getElem?_eq_some_iff.1 hj).1) hj
       obtain ⟨P, hP⟩ : ∃ P, P = A i := ⟨_, rfl⟩
       rw [← hP] at hR HM
       have HR := Lib.hid hR
       obtain ⟨_, k1, k2, k3, _⟩ := HM.out
       have ho := HO.out
       have c1 := (k1.rowO (g := w.heap.size + 1) #[.int .u64 0, .int .u64 0, .int .u64 0, .int .u64 0, .int .u64 0, .int .u64 0, .int .u64 0, .int .u64 0] (by omega)).cell
       have l1 := k1.lt
       have r2 := k2.row; have l2 := k2.lt
       have cF := (k2.rowS #[.int .u64 (pl P 0), .int .u64 (pl P 1), .int .u64 (pl P 2), .int .u64 (pl P 3), .int .u64 (pl P 4), .int .u64 (pl P 5), .int .u64 (pl P 6), .int .u64 (pl P 7)]).cell
       have hb5 := bel_row k3 (g := w.heap.size + 1) (by omega) #[.int .u64 (pl P 0), .int .u64 (pl P 1), .int .u64 (pl P 2), .int .u64 (pl P 3), .int .u64 (pl P 4), .int .u64 (pl P 5), .int .u64 (pl P 6), .int .u64 (pl P 7)]
       rw [← k2.rw]
       clear k1 k2 k3 HM ho hR hP
       go_wp2_with fail
       exact bodyPost_ret (v := .tuple #[solV P, .int .i64 0]) (by simp [results, Tryz.results74, go_sem, cF]) rfl ⟨by rw [HR.out], hb5⟩
end Go.Proofs.YtkfimbonmnoglaaGreatDoor
end
