import Derived.Test.YtkfimbonmnoglaaGreatDoorRTexts30
import Derived.Deep.Cut
import Derived.Defers
import Derived.Recover
import Derived.Laws.Pointers
import Derived.Lib.ReplaceLaws
/-
  Given contracts of functions of the program, and laws for them, one behind the other.
-/
set_option linter.unusedVariables false
set_option linter.unusedSimpArgs false
set_option linter.unusedSectionVars false
section
namespace Go.Proofs.YtkfimbonmnoglaaGreatDoor
open Go.RowKit Go.Rel Go.Draw Go.Solid
set_option maxRecDepth 100000
def pcC (l : List UInt8) : Array Value := ((pcs l).map fun p => Value.string ⟨p.toArray⟩).toArray
theorem pcC_get {l : List UInt8} {i : Nat} {p : List UInt8} (h : (pcs l)[i]? = some p) : (pcC l)[i]? = some (.string ⟨p.toArray⟩) := by
 unfold pcC
 rw [List.getElem?_toArray, List.getElem?_map, h]; rfl
theorem pcs_few (l : List UInt8) : (pcs l).length ≤ l.length + 1 := by
 have h := Lib.countB_mul_le dotU (by decide) l.length ⟨l.toArray⟩ (Nat.le_refl _)
 rw [pcs_len]
 have h1 : dotU.size = 1 := rfl
 rw [h1] at h
 have h2 : (⟨l.toArray⟩ : ByteArray).size = l.length := rfl
 omega
theorem splitK_short (sep : List UInt8) : ∀ (k : Nat) (s : List UInt8), ∀ p ∈ Lib.splitK sep 0 k s, p.length ≤ s.length
 | 0, s, p, h => by
  have : p = s := by simpa [Lib.splitK] using h
  rw [this]; exact Nat.le_refl _
 | k + 1, s, p, h => by
  unfold Lib.splitK at h
  split at h
  ·have : p = s := by simpa using h
   rw [this]; exact Nat.le_refl _
  ·rcases List.mem_cons.1 h with h | h
   ·rw [h, List.length_take]; omega
   ·have := splitK_short sep k _ p h
    rw [List.length_drop] at this; omega
theorem pcs_short {l : List UInt8} (hl : l.length ≤ 200) {k : Nat} {p : List UInt8} (h : (pcs l)[k]? = some p) : p.length ≤ 1000 := by
 have := splitK_short [46] _ l p (List.mem_of_getElem? h)
 omega
theorem split_any (l : List UInt8) (hl : l.length ≤ 1000) (W : World) (hX : EnvX W) : Calls Tryz.prog 117 #[.string ⟨l.toArray⟩, .string ⟨#[46]⟩] W fun e w' => e = .returned (.slice (some ⟨W.heap.size, 0, none⟩) (pcs l).length (pcs l).length) ∧ w' = W.alloc (.cells (pcC l) 9) := by
 obtain ⟨m, hm⟩ := hX.1
 have h := Tryz.strings_Split ⟨l.toArray⟩ dotU m W (by show l.length < _; omega) hm (by decide)
 rw [← pcs_len, pcs_B, List.map_map] at h
 exact h
theorem pcs_le {l : List UInt8} {s : Sol} {i u : Nat} (hi8 : i < 8) (hu : u < 18446744073709551616) {p : List UInt8} (hp : (pcs l)[i]? = some p) (he : p = hexS u) (h : ∀ j q, j < i → (pcs l)[j]? = some q → q = hexS (plN s j)) :
  ∀ j q, j < i + 1 → (pcs l)[j]? = some q → q = hexS (plN (setP s i u) j) := fun j q hj hq => by
 rw [plN_setP s u (show j < 8 by omega) hu]
 by_cases e : j = i
 ·subst e
  rw [if_pos rfl, ← he]
  exact Option.some.inj (hq.symm.trans hp)
 ·rw [if_neg e]
  exact h j q (by omega) hq
set_option maxHeartbeats 16000000 in
theorem solidRead_n (l : List UInt8) (hl : l.length ≤ 200) (w : World) (hX : EnvX w) (hT : Tab w) : Calls Tryz.prog 48 #[.string ⟨l.toArray⟩] w fun e w' => e = .returned (.tuple #[solV (readM l).1, .int .i64 (readM l).2]) ∧ Below w.heap.size w w' := by
 have hmf : ∀ (fn : Fn) (first cap : Array Value) (w : World), (Instr.makeFunc fn first cap).run Tryz.prog w = .ok (.func fn first cap) w := fun _ _ _ _ => rfl
 have HS : Hid (∀ W, Below w.heap.size w W → Calls Tryz.prog 117 #[.string ⟨l.toArray⟩, .string ⟨#[46]⟩] W fun e w' => e = .returned (.slice (some ⟨W.heap.size, 0, none⟩) (pcs l).length (pcs l).length) ∧ w' = W.alloc (.cells (pcC l) 9)) := Lib.hid fun W hb => split_any l (by omega) W (hX.grow hb hX.size)
 have HP : Hid (∀ (k : Nat) (p : List UInt8), (pcs l)[k]? = some p → ∀ W, Below w.heap.size w W → Calls Tryz.prog 118 #[.string ⟨p.toArray⟩] W (PlP W p)) := Lib.hid fun k p hk W hb => plane_any p (pcs_short hl hk) W (hX.grow hb hX.size) (hT.grow hb)
 have HW : Hid (∀ (s : Sol) W, Below w.heap.size w W → Calls Tryz.prog 47 #[.agg #[.int .u64 (pl s 0), .int .u64 (pl s 1), .int .u64 (pl s 2), .int .u64 (pl s 3), .int .u64 (pl s 4), .int .u64 (pl s 5), .int .u64 (pl s 6), .int .u64 (pl s 7)]] W fun e w' => e = .returned (.string ⟨(wrS s).toArray⟩) ∧ Below W.heap.size W w') := Lib.hid fun s W hb => solidWrite_n s W ((hT.grow hb) 15 (by omega))
 have HZV := Lib.hid zero_solV
 have hN := pcs_few l
 obtain ⟨N, hNn⟩ : ∃ N, N = (pcs l).length := ⟨_, rfl⟩
 rw [← hNn] at HS hN
 have HN := Lib.hid hNn
 obtain ⟨B, hB⟩ : ∃ B : ByteArray, B = ⟨l.toArray⟩ := ⟨_, rfl⟩
 rw [← hB] at HS ⊢
 have HB := Lib.hid hB
 have hN201 : N ≤ 201 := by omega
 clear hT hX hNn hB hN
 go_enter_defers Tryz.func48, Tryz.ntmps48
 go_wp2_with fail
 refine (HS.out _ (by repeat (first | with_reducible exact bel_refl _ | with_reducible assumption | with_reducible refine bel_drewN ?_ _ | with_reducible refine bel_drew ?_ | with_reducible refine bel_alloc ?_ _ | with_reducible refine bel_row ?_ ?_ _ | with_reducible refine bel_set ?_ ?_ _ | refine bel_trans ?_ (by with_reducible assumption) | (simp; done) | (simp; omega)))).mono ?_
 rintro e w1 ⟨rfl, rfl⟩
 go_wp2_with fail
 obtain ⟨w2, hw2⟩ : ∃ w2, w2 = ((w.alloc (.cells #[.int .u64 0, .int .u64 0, .int .u64 0, .int .u64 0, .int .u64 0, .int .u64 0, .int .u64 0, .int .u64 0] 26)).alloc (.cells #[.int .i64 0] 27)).alloc (.cells (pcC l) 9) := ⟨_, rfl⟩
 have b0 : Blk w2 w.heap.size #[.int .u64 (pl (0 : Sol) 0), .int .u64 (pl (0 : Sol) 1), .int .u64 (pl (0 : Sol) 2), .int .u64 (pl (0 : Sol) 3), .int .u64 (pl (0 : Sol) 4), .int .u64 (pl (0 : Sol) 5), .int .u64 (pl (0 : Sol) 6), .int .u64 (pl (0 : Sol) 7)] 26 := by rw [hw2, zero_sols]; exact (by repeat (first | with_reducible assumption | (refine Blk.at _ _ ?_; (simp; done)) | with_reducible refine Blk.alloc ?_ _ | with_reducible refine Blk.drew ?_ | with_reducible refine Blk.rowS ?_ _ | with_reducible refine Blk.rowO ?_ _ (by simp)))
 have b1 : Blk w2 (w.heap.size + 1) #[.int .i64 0] 27 := by rw [hw2]; exact (by repeat (first | with_reducible assumption | (refine Blk.at _ _ ?_; (simp; done)) | with_reducible refine Blk.alloc ?_ _ | with_reducible refine Blk.drew ?_ | with_reducible refine Blk.rowS ?_ _ | with_reducible refine Blk.rowO ?_ _ (by simp)))
 have b2 : Blk w2 (w.heap.size + 1 + 1) (pcC l) 9 := by rw [hw2]; exact Blk.at _ _ (by simp)
 have hb2 : Below w.heap.size w w2 := by rw [hw2]; exact (by repeat (first | with_reducible exact bel_refl _ | with_reducible assumption | with_reducible refine bel_drewN ?_ _ | with_reducible refine bel_drew ?_ | with_reducible refine bel_alloc ?_ _ | with_reducible refine bel_row ?_ ?_ _ | with_reducible refine bel_set ?_ ?_ _ | refine bel_trans ?_ (by with_reducible assumption) | (simp; done) | (simp; omega)))
 rw [← hw2]
 have H2 := Lib.hid (And.intro b0 (And.intro b1 (And.intro b2 hb2)))
 clear hw2 b0 b1 b2 hb2
 go_loopw [10] (fun iv wx => ∃ (i : Nat) (s : Sol), i ≤ N ∧ i ≤ 8 ∧ iv = .int .i64 i ∧ Hid ((Blk wx w.heap.size #[.int .u64 (pl s 0), .int .u64 (pl s 1), .int .u64 (pl s 2), .int .u64 (pl s 3), .int .u64 (pl s 4), .int .u64 (pl s 5), .int .u64 (pl s 6), .int .u64 (pl s 7)] 26 ∧ Blk wx (w.heap.size + 1) #[.int .i64 0] 27 ∧ Blk wx (w.heap.size + 1 + 1) (pcC l) 9 ∧ Below w.heap.size w wx) ∧ (∀ j q, j < i → (pcs l)[j]? = some q → q = hexS (plN s j)) ∧ ∀ j, i ≤ j → j < 8 → plN s j = 0)) (fun iv _ => N - (intOf iv).toNat)
 case atStart => exact ⟨0, 0, Nat.zero_le _, Nat.zero_le _, rfl, Lib.hid ⟨H2.out, fun j q hj => absurd hj (by omega), fun j _ _ => plN_zero j⟩⟩
 case round =>
  obtain ⟨i, s, hi, hi8, rfl, HI⟩ := hrel
  by_cases hiN : i < N
  ·obtain ⟨p, hp⟩ : ∃ p, (pcs l)[i]? = some p := ⟨_, List.getElem?_eq_getElem (by rw [← HN.out]; exact hiN)⟩
   have cp : wr.cell? ⟨w.heap.size + 1 + 1, i, none⟩ = some (.string ⟨p.toArray⟩) := by rw [HI.out.1.2.2.1.cell]; exact pcC_get hp
   have lp := HI.out.1.2.2.1.lt
   obtain ⟨P, hP⟩ : ∃ P : ByteArray, P = ⟨p.toArray⟩ := ⟨_, rfl⟩
   have HPl := Lib.hid (HP.out i p hp)
   rw [← hP] at cp HPl
   have HPp := Lib.hid hp
   clear hp hP
   by_cases h8 : i < 8
   ·go_wp2_with fail
    refine (HPl.out _ HI.out.1.2.2.2).mono ?_
    rintro e w3 ⟨hb3, ⟨u, hu, he, rfl⟩ | ⟨hne, rfl⟩⟩
    ·have b0 := HI.out.1.1.grow hb3
     have b1 := HI.out.1.2.1.grow hb3
     have b2 := HI.out.1.2.2.1.grow hb3
     have hbw := bel_trans HI.out.1.2.2.2 hb3
     have c0 := b0.cell; have l0 := b0.lt; have f0 := b0.free i
     have hi8I : (i : Int) < 8 := by omega
     have hgs := gb_set (gb_refl w3 (some w.heap.size)) ⟨w.heap.size, i, none⟩ rfl (.int .u64 ((u : Nat) : Int))
     have B0 := b0.set i (.int .u64 ((u : Nat) : Int))
     rw [cells_setP s h8 hu] at B0
     have H3 := Lib.hid (And.intro (And.intro B0 (And.intro (b1.gb hgs (by simp)) (And.intro (b2.gb hgs (by simp; try omega)) (hbw.grown hgs hbw.size (fun k e => by cases e; omega))))) (And.intro (pcs_le h8 hu HPp.out he HI.out.2.1) (show ∀ j, i + 1 ≤ j → j < 8 → plN (setP s i u) j = 0 from fun j h1 h2 => by rw [plN_setP s u h2 hu, if_neg (by omega)]; exact HI.out.2.2 j (by omega) h2)))
     have c0i : w3.cell? ⟨w.heap.size, i, none⟩ = some (.int .u64 (pl s i)) := by rw [c0]; exact getZ s h8
     obtain ⟨s', hs'⟩ : ∃ s', s' = setP s i u := ⟨_, rfl⟩
     rw [← hs'] at H3
     clear b0 b1 b2 hbw c0 hgs B0 he hb3 hs' HI cp lp
     go_wp2_with fail
     exact ⟨⟨i + 1, s', by omega, by omega, by simp, H3⟩, by simp [intOf]; omega⟩
    ·have HF := Lib.hid (And.intro (HI.out.1.1.grow hb3) (And.intro (HI.out.1.2.1.grow hb3) (bel_trans HI.out.1.2.2.2 hb3)))
     have HM : Hid (readM l = (0, 4)) := Lib.hid (read_bad HPp.out hne)
     refine leaves_cons (f := 116) (args := #[.pointer (some ⟨w.heap.size, 0, none⟩), .pointer (some ⟨w.heap.size + 1, 0, none⟩)]) (by simp) (by simp [go_sem]) ?_
     refine (catch_hit HF.out.1 rfl HF.out.2.1 (by omega) w.heap.size (Nat.le_refl _) (by omega)).mono ?_
     rintro e u' w'' ⟨rfl, rfl, D0, D1, hb9⟩
     have d0 := D0.cell; have d1 := D1.cell
     exact ⟨.tuple #[.agg Z8b, .int .i64 4], by simp [results, Tryz.results48, go_sem, d0, d1], by rw [HM.out, HZV.out], HF.out.2.2.trans hb9⟩
   ·have HF := Lib.hid (And.intro HI.out.1.1 (And.intro HI.out.1.2.1 HI.out.1.2.2.2))
    have HM : Hid (readM l = (0, 4)) := Lib.hid (read_many (by rw [← HN.out]; omega))
    go_wp2_with fail
    refine leaves_cons (f := 116) (args := #[.pointer (some ⟨w.heap.size, 0, none⟩), .pointer (some ⟨w.heap.size + 1, 0, none⟩)]) (by simp) (by simp [go_sem]) ?_
    refine (catch_hit HF.out.1 rfl HF.out.2.1 (by omega) w.heap.size (Nat.le_refl _) (by omega)).mono ?_
    rintro e u' w'' ⟨rfl, rfl, D0, D1, hb9⟩
    have d0 := D0.cell; have d1 := D1.cell
    exact ⟨.tuple #[.agg Z8b, .int .i64 4], by simp [results, Tryz.results48, go_sem, d0, d1], by rw [HM.out, HZV.out], HF.out.2.2.trans hb9⟩
  ·obtain rfl : i = N := by omega
   have c0 := HI.out.1.1.cell; have l0 := HI.out.1.1.lt
   go_wp2_with fail
   refine (HW.out s _ HI.out.1.2.2.2).mono ?_
   rintro e w3 ⟨rfl, hb3⟩
   have b0 := HI.out.1.1.grow hb3
   have b1 := HI.out.1.2.1.grow hb3
   have hbw := bel_trans HI.out.1.2.2.2 hb3
   obtain ⟨C, hC⟩ : ∃ C : ByteArray, C = ⟨(wrS s).toArray⟩ := ⟨_, rfl⟩
   rw [← hC]
   have HF := Lib.hid (And.intro b0 (And.intro b1 hbw))
   clear hb3 c0 l0
   by_cases he : C = B
   ·have HM : Hid (readM l = (s, 0)) := Lib.hid (by
     have e : wrS s = l := bytes_inj (by rw [← hC, ← HB.out]; exact he)
     rw [← e]; exact readM_wr s)
    subst he
    clear hC
    have kk := b0.cell; have l0 := b0.lt; have r0 := b0.row
    have c1 := b1.cell; have l1 := b1.lt; have f1 := b1.free 0
    rw [← b0.rw]
    clear b0 b1 kk hbw
    go_wp2_with fail
    obtain ⟨W4, hW4⟩ : ∃ W4, W4 = (w3.setCell ⟨w.heap.size + 1, 0, none⟩ (.int .i64 0)).setRow w.heap.size #[.int .u64 (pl s 0), .int .u64 (pl s 1), .int .u64 (pl s 2), .int .u64 (pl s 3), .int .u64 (pl s 4), .int .u64 (pl s 5), .int .u64 (pl s 6), .int .u64 (pl s 7)] := ⟨_, rfl⟩
    have hgs := gb_set (gb_refl w3 (some (w.heap.size + 1))) ⟨w.heap.size + 1, 0, none⟩ rfl (.int .i64 0)
    have B0 : Blk W4 w.heap.size #[.int .u64 (pl s 0), .int .u64 (pl s 1), .int .u64 (pl s 2), .int .u64 (pl s 3), .int .u64 (pl s 4), .int .u64 (pl s 5), .int .u64 (pl s 6), .int .u64 (pl s 7)] 26 := by rw [hW4]; exact (HF.out.1.gb hgs (by simp)).rowS _
    have B1 : Blk W4 (w.heap.size + 1) #[.int .i64 0] 27 := by rw [hW4]; exact (HF.out.2.1.set 0 _).rowO _ (by omega)
    have hb4 : Below w.heap.size w W4 := by rw [hW4]; exact bel_row (HF.out.2.2.grown hgs HF.out.2.2.size (fun k e => by cases e; omega)) (Nat.le_refl _) _
    first | rw [← hW4] | skip
    have d0 := B0.cell; have d1 := B1.cell; have m0 := B0.lt
    refine leaves_cons (f := 116) (args := #[.pointer (some ⟨w.heap.size, 0, none⟩), .pointer (some ⟨w.heap.size + 1, 0, none⟩)]) (by simp) (by simp [go_sem]) ?_
    refine (catch_none _ _ _).mono ?_
    rintro e u' w'' ⟨rfl, rfl, rfl⟩
    exact ⟨.tuple #[.agg #[.int .u64 (pl s 0), .int .u64 (pl s 1), .int .u64 (pl s 2), .int .u64 (pl s 3), .int .u64 (pl s 4), .int .u64 (pl s 5), .int .u64 (pl s 6), .int .u64 (pl s 7)], .int .i64 0], by simp [results, Tryz.results48, go_sem, d0, d1], by rw [HM.out], hb4⟩
   ·have HM : Hid (readM l = (0, 4)) := Lib.hid (read_else (out := s) (fun j q hq => HI.out.2.1 j q (by have h1 := (List.getElem?_eq_some_iff.1 hq).1; rw [← HN.out] at h1; exact h1) hq) (fun j h1 h2 => HI.out.2.2 j (by rw [HN.out]; exact h1) h2) (fun e => he (by rw [hC, HB.out, e])))
    have htl := bytes_ne he
    clear hC b0 b1 hbw
    go_wp2_with fail
    refine leaves_cons (f := 116) (args := #[.pointer (some ⟨w.heap.size, 0, none⟩), .pointer (some ⟨w.heap.size + 1, 0, none⟩)]) (by simp) (by simp [go_sem]) ?_
    refine (catch_hit HF.out.1 rfl HF.out.2.1 (by omega) w.heap.size (Nat.le_refl _) (by omega)).mono ?_
    rintro e u' w'' ⟨rfl, rfl, D0, D1, hb9⟩
    have d0 := D0.cell; have d1 := D1.cell
    exact ⟨.tuple #[.agg Z8b, .int .i64 4], by simp [results, Tryz.results48, go_sem, d0, d1], by rw [HM.out, HZV.out], HF.out.2.2.trans hb9⟩
end Go.Proofs.YtkfimbonmnoglaaGreatDoor
end
section
namespace Go.Proofs.YtkfimbonmnoglaaGreatDoor
open Go.RowKit Go.Rel Go.Draw Go.Solid
set_option maxRecDepth 100000
theorem readM_two (l : List UInt8) : (readM l).2 = 0 ∧ wrS (readM l).1 = l ∨ (readM l).2 = 4 := by
 by_cases h : ∃ s, wrS s = l
 ·obtain ⟨s, rfl⟩ := h
  rw [readM_wr]
  exact .inl ⟨rfl, rfl⟩
 ·rw [readM_no (fun s e => h ⟨s, e⟩)]
  exact .inr rfl
set_option maxHeartbeats 8000000 in
theorem SolidTexts_walk (s : Sol) (B : ByteArray) (w : World) (hX : EnvX w) (hT : Tab w) (hC : ∀ W, Below w.heap.size w W → Calls Tryz.prog 25 #[] W fun e w' => e = .returned (.bool true) ∧ Below W.heap.size W w') :
  Calls Tryz.prog 6 #[solV s, .string B] w fun e w' => e = .returned (.bool true) ∧ Below w.heap.size w w' := by
 have HC := Lib.hid hC; clear hC
 by_cases hbig : 200 < B.size
 ·have d1 : decide ((200 : Int) < (B.size : Int)) = true := decide_eq_true (by omega)
  clear hbig hX hT
  go_enter Tryz.func6, Tryz.ntmps6
  go_wp2_with fail
  refine (HC.out _ (by repeat (first | with_reducible exact bel_refl _ | with_reducible assumption | with_reducible refine bel_drewN ?_ _ | with_reducible refine bel_drew ?_ | with_reducible refine bel_alloc ?_ _ | with_reducible refine bel_row ?_ ?_ _ | with_reducible refine bel_set ?_ ?_ _ | refine bel_trans ?_ (by with_reducible assumption) | (simp; done) | (simp; omega)))).mono ?_
  rintro e w4 ⟨rfl, hb4⟩
  have H4 := Lib.hid (bel_trans (show Below w.heap.size w (w.alloc (.cells #[.int .u64 (pl s 0), .int .u64 (pl s 1), .int .u64 (pl s 2), .int .u64 (pl s 3), .int .u64 (pl s 4), .int .u64 (pl s 5), .int .u64 (pl s 6), .int .u64 (pl s 7)] 26)) from (by repeat (first | with_reducible exact bel_refl _ | with_reducible assumption | with_reducible refine bel_drewN ?_ _ | with_reducible refine bel_drew ?_ | with_reducible refine bel_alloc ?_ _ | with_reducible refine bel_row ?_ ?_ _ | with_reducible refine bel_set ?_ ?_ _ | refine bel_trans ?_ (by with_reducible assumption) | (simp; done) | (simp; omega)))) hb4); clear hb4
  go_wp2_with fail
  exact bodyPost_ret (v := .bool true) (by simp [results, Tryz.results6, go_sem]) rfl ⟨rfl, H4.out⟩
 ·have d1 : decide ((200 : Int) < (B.size : Int)) = false := decide_eq_false (by omega)
  obtain ⟨l, hl⟩ : ∃ l : List UInt8, B = ⟨l.toArray⟩ := ⟨B.data.toList, by rcases B with ⟨⟨b⟩⟩; rfl⟩
  have hl200 : l.length ≤ 200 := by rw [hl] at hbig; exact Nat.le_of_not_lt hbig
  have hw200 : (wrS s).length ≤ 200 := by have := wrS_len s; omega
  obtain ⟨A, hA⟩ : ∃ A : ByteArray, A = ⟨(wrS s).toArray⟩ := ⟨_, rfl⟩
  obtain ⟨x, hx⟩ : ∃ x, x = (readM l).1 := ⟨_, rfl⟩
  obtain ⟨er, her⟩ : ∃ e, e = (readM l).2 := ⟨_, rfl⟩
  have HR : Hid (∀ W, Below w.heap.size w W → Calls Tryz.prog 48 #[.string B] W fun e w' => e = .returned (.tuple #[solV x, .int .i64 er]) ∧ Below W.heap.size W w') := Lib.hid fun W hb => by
   rw [hl, hx, her]; exact solidRead_n l hl200 W (hX.grow hb hX.size) (hT.grow hb)
  have HQ : Hid (∀ W, Calls Tryz.prog 49 #[.string B] W fun e w' => e = .returned (.tuple #[solV x, .int .i64 er]) ∧ Below W.heap.size W w') := Lib.hid fun W => by
   rw [hl, hx, her]; exact refRead_n l hl200 W
  have HB : Hid (∀ W, Below w.heap.size w W → Calls Tryz.prog 48 #[.string A] W fun e w' => e = .returned (.tuple #[solV s, .int .i64 0]) ∧ Below W.heap.size W w') := Lib.hid fun W hb => by
   have := solidRead_n (wrS s) hw200 W (hX.grow hb hX.size) (hT.grow hb)
   rw [readM_wr] at this
   rw [hA]; exact this
  have HW : Hid (∀ W, Below w.heap.size w W → Calls Tryz.prog 47 #[.agg #[.int .u64 (pl s 0), .int .u64 (pl s 1), .int .u64 (pl s 2), .int .u64 (pl s 3), .int .u64 (pl s 4), .int .u64 (pl s 5), .int .u64 (pl s 6), .int .u64 (pl s 7)]] W fun e w' => e = .returned (.string A) ∧ Below W.heap.size W w') := Lib.hid fun W hb => by
   rw [hA]; exact solidWrite_n s W ((hT.grow hb) 15 (by omega))
  have HV : Hid (∀ W, Calls Tryz.prog 50 #[.agg #[.int .u64 (pl s 0), .int .u64 (pl s 1), .int .u64 (pl s 2), .int .u64 (pl s 3), .int .u64 (pl s 4), .int .u64 (pl s 5), .int .u64 (pl s 6), .int .u64 (pl s 7)]] W fun e w' => e = .returned (.string A) ∧ Below W.heap.size W w') := Lib.hid fun W => by
   rw [hA]; exact refWrite_spec s W
  have HE : Hid (er = 0 ∧ (∀ W, Below w.heap.size w W → Calls Tryz.prog 47 #[.agg #[.int .u64 (pl x 0), .int .u64 (pl x 1), .int .u64 (pl x 2), .int .u64 (pl x 3), .int .u64 (pl x 4), .int .u64 (pl x 5), .int .u64 (pl x 6), .int .u64 (pl x 7)]] W fun e w' => e = .returned (.string B) ∧ Below W.heap.size W w') ∨ er = 4) := Lib.hid (by
   rcases readM_two l with ⟨h1, h2⟩ | h1
   ·refine .inl ⟨her.trans h1, fun W hb => ?_⟩
    have := solidWrite_n x W ((hT.grow hb) 15 (by omega))
    rw [hx, h2, ← hl] at this
    rw [hx]; exact this
   ·exact .inr (her.trans h1))
  clear hX hT hbig hl hl200 hw200 hA hx her
  have hsV : solV x = .agg #[.int .u64 (pl x 0), .int .u64 (pl x 1), .int .u64 (pl x 2), .int .u64 (pl x 3), .int .u64 (pl x 4), .int .u64 (pl x 5), .int .u64 (pl x 6), .int .u64 (pl x 7)] := rfl
  have hsS : solV s = .agg #[.int .u64 (pl s 0), .int .u64 (pl s 1), .int .u64 (pl s 2), .int .u64 (pl s 3), .int .u64 (pl s 4), .int .u64 (pl s 5), .int .u64 (pl s 6), .int .u64 (pl s 7)] := rfl
  rw [hsV] at HR HQ
  rw [hsS] at HB
  clear hsV hsS
  go_enter Tryz.func6, Tryz.ntmps6
  go_wp2_with fail
  refine (HW.out _ (by repeat (first | with_reducible exact bel_refl _ | with_reducible assumption | with_reducible refine bel_drewN ?_ _ | with_reducible refine bel_drew ?_ | with_reducible refine bel_alloc ?_ _ | with_reducible refine bel_row ?_ ?_ _ | with_reducible refine bel_set ?_ ?_ _ | refine bel_trans ?_ (by with_reducible assumption) | (simp; done) | (simp; omega)))).mono ?_
  rintro e w1 ⟨rfl, hb1⟩
  have bS : Blk w1 w.heap.size #[.int .u64 (pl s 0), .int .u64 (pl s 1), .int .u64 (pl s 2), .int .u64 (pl s 3), .int .u64 (pl s 4), .int .u64 (pl s 5), .int .u64 (pl s 6), .int .u64 (pl s 7)] 26 := (Blk.new w #[.int .u64 (pl s 0), .int .u64 (pl s 1), .int .u64 (pl s 2), .int .u64 (pl s 3), .int .u64 (pl s 4), .int .u64 (pl s 5), .int .u64 (pl s 6), .int .u64 (pl s 7)] 26).grow hb1
  have hbw1 : Below w.heap.size w w1 := bel_trans (bel_alloc (bel_refl w) (.cells #[.int .u64 (pl s 0), .int .u64 (pl s 1), .int .u64 (pl s 2), .int .u64 (pl s 3), .int .u64 (pl s 4), .int .u64 (pl s 5), .int .u64 (pl s 6), .int .u64 (pl s 7)] 26)) hb1
  have H1 := Lib.hid (And.intro bS hbw1); clear bS hbw1 hb1
  go_wp2_with fail
  refine (HR.out _ H1.out.2).mono ?_
  rintro e w2 ⟨rfl, hb2⟩
  have H2 := Lib.hid (And.intro (H1.out.1.grow hb2) (bel_trans H1.out.2 hb2)); clear hb2 H1
  go_wp2_with fail
  obtain ⟨W2, hW2⟩ : ∃ W2, W2 = w2.alloc (.cells #[.int .u64 (pl x 0), .int .u64 (pl x 1), .int .u64 (pl x 2), .int .u64 (pl x 3), .int .u64 (pl x 4), .int .u64 (pl x 5), .int .u64 (pl x 6), .int .u64 (pl x 7)] 26) := ⟨_, rfl⟩
  obtain ⟨g2, hg2⟩ : ∃ g, g = w2.heap.size := ⟨_, rfl⟩
  have K2 : Blk W2 w.heap.size #[.int .u64 (pl s 0), .int .u64 (pl s 1), .int .u64 (pl s 2), .int .u64 (pl s 3), .int .u64 (pl s 4), .int .u64 (pl s 5), .int .u64 (pl s 6), .int .u64 (pl s 7)] 26 ∧ Blk W2 g2 #[.int .u64 (pl x 0), .int .u64 (pl x 1), .int .u64 (pl x 2), .int .u64 (pl x 3), .int .u64 (pl x 4), .int .u64 (pl x 5), .int .u64 (pl x 6), .int .u64 (pl x 7)] 26 ∧ Below w.heap.size w W2 := by
   rw [hW2, hg2]; exact ⟨H2.out.1.alloc _, Blk.new _ _ _, bel_alloc H2.out.2 _⟩
  rw [← hW2, ← hg2]
  have H3 := Lib.hid K2; clear K2 hW2 hg2 H2
  refine (HQ.out _).mono ?_
  rintro e w3 ⟨rfl, hb3⟩
  have H4 := Lib.hid (And.intro (H3.out.1.grow hb3) (And.intro (H3.out.2.1.grow hb3) (bel_trans H3.out.2.2 hb3))); clear hb3 H3
  go_wp2_with fail
  obtain ⟨W3, hW3⟩ : ∃ W3, W3 = w3.alloc (.cells #[.int .u64 (pl x 0), .int .u64 (pl x 1), .int .u64 (pl x 2), .int .u64 (pl x 3), .int .u64 (pl x 4), .int .u64 (pl x 5), .int .u64 (pl x 6), .int .u64 (pl x 7)] 26) := ⟨_, rfl⟩
  obtain ⟨g3, hg3⟩ : ∃ g, g = w3.heap.size := ⟨_, rfl⟩
  have K3 : Blk W3 w.heap.size #[.int .u64 (pl s 0), .int .u64 (pl s 1), .int .u64 (pl s 2), .int .u64 (pl s 3), .int .u64 (pl s 4), .int .u64 (pl s 5), .int .u64 (pl s 6), .int .u64 (pl s 7)] 26 ∧ Blk W3 g2 #[.int .u64 (pl x 0), .int .u64 (pl x 1), .int .u64 (pl x 2), .int .u64 (pl x 3), .int .u64 (pl x 4), .int .u64 (pl x 5), .int .u64 (pl x 6), .int .u64 (pl x 7)] 26 ∧ Blk W3 g3 #[.int .u64 (pl x 0), .int .u64 (pl x 1), .int .u64 (pl x 2), .int .u64 (pl x 3), .int .u64 (pl x 4), .int .u64 (pl x 5), .int .u64 (pl x 6), .int .u64 (pl x 7)] 26 ∧ Below w.heap.size w W3 := by
   rw [hW3, hg3]; exact ⟨H4.out.1.alloc _, H4.out.2.1.alloc _, Blk.new _ _ _, bel_alloc H4.out.2.2 _⟩
  rw [← hW3, ← hg3]
  have H5 := Lib.hid K3; clear K3 hW3 hg3 H4
  refine (HB.out _ H5.out.2.2.2).mono ?_
  rintro e w4 ⟨rfl, hb4⟩
  have H6 := Lib.hid (And.intro (H5.out.1.grow hb4) (And.intro (H5.out.2.1.grow hb4) (And.intro (H5.out.2.2.1.grow hb4) (bel_trans H5.out.2.2.2 hb4)))); clear hb4 H5
  have cS := H6.out.1.alloc (.cells #[.int .u64 (pl s 0), .int .u64 (pl s 1), .int .u64 (pl s 2), .int .u64 (pl s 3), .int .u64 (pl s 4), .int .u64 (pl s 5), .int .u64 (pl s 6), .int .u64 (pl s 7)] 26)
  have q0 := cS.cell; have m0 := cS.lt
  clear cS
  go_wp2_with fail
  obtain ⟨W4, hW4⟩ : ∃ W4, W4 = w4.alloc (.cells #[.int .u64 (pl s 0), .int .u64 (pl s 1), .int .u64 (pl s 2), .int .u64 (pl s 3), .int .u64 (pl s 4), .int .u64 (pl s 5), .int .u64 (pl s 6), .int .u64 (pl s 7)] 26) := ⟨_, rfl⟩
  obtain ⟨g4, hg4⟩ : ∃ g, g = w4.heap.size := ⟨_, rfl⟩
  have K4 : Blk W4 w.heap.size #[.int .u64 (pl s 0), .int .u64 (pl s 1), .int .u64 (pl s 2), .int .u64 (pl s 3), .int .u64 (pl s 4), .int .u64 (pl s 5), .int .u64 (pl s 6), .int .u64 (pl s 7)] 26 ∧ Blk W4 g2 #[.int .u64 (pl x 0), .int .u64 (pl x 1), .int .u64 (pl x 2), .int .u64 (pl x 3), .int .u64 (pl x 4), .int .u64 (pl x 5), .int .u64 (pl x 6), .int .u64 (pl x 7)] 26 ∧ Blk W4 g3 #[.int .u64 (pl x 0), .int .u64 (pl x 1), .int .u64 (pl x 2), .int .u64 (pl x 3), .int .u64 (pl x 4), .int .u64 (pl x 5), .int .u64 (pl x 6), .int .u64 (pl x 7)] 26 ∧ Blk W4 g4 #[.int .u64 (pl s 0), .int .u64 (pl s 1), .int .u64 (pl s 2), .int .u64 (pl s 3), .int .u64 (pl s 4), .int .u64 (pl s 5), .int .u64 (pl s 6), .int .u64 (pl s 7)] 26 ∧ Below w.heap.size w W4 := by
   rw [hW4, hg4]; exact ⟨H6.out.1.alloc _, H6.out.2.1.alloc _, H6.out.2.2.1.alloc _, Blk.new _ _ _, bel_alloc H6.out.2.2.2 _⟩
  rw [← hW4, ← hg4]
  have H7 := Lib.hid K4; clear K4 hW4 hg4 H6 q0 m0
  refine (HV.out _).mono ?_
  rintro e w5 ⟨rfl, hb5⟩
  have k0 := H7.out.1.grow hb5
  have k2 := H7.out.2.1.grow hb5
  have k3 := H7.out.2.2.1.grow hb5
  have k4 := H7.out.2.2.2.1.grow hb5
  have H8 := Lib.hid (And.intro k2 (bel_trans H7.out.2.2.2.2 hb5))
  have c0 := k0.cell; have l0 := k0.lt
  have c2 := k2.cell; have l2 := k2.lt
  have c3 := k3.cell; have l3 := k3.lt
  have c4 := k4.cell; have l4 := k4.lt
  clear k0 k2 k3 k4 hb5 H7
  go_wp2_with fail
  refine (HC.out _ H8.out.2).mono ?_
  rintro e w6 ⟨rfl, hb6⟩
  have k2 := H8.out.1.grow hb6
  have H9 := Lib.hid (bel_trans H8.out.2 hb6)
  clear hb6 c0 l0 c2 l2 c3 l3 c4 l4 H8
  have c2 := k2.cell; have l2 := k2.lt
  clear k2
  rcases HE.out with ⟨rfl, hwx⟩ | rfl
  ·have HWX := Lib.hid hwx; clear hwx
   go_wp2_with fail
   refine (HWX.out _ H9.out).mono ?_
   rintro e w7 ⟨rfl, hb7⟩
   have H10 := Lib.hid (bel_trans H9.out hb7); clear hb7
   go_wp2_with fail
   exact bodyPost_ret (v := .bool true) (by simp [results, Tryz.results6, go_sem]) rfl ⟨rfl, H10.out⟩
  ·go_wp2_with fail
   exact bodyPost_ret (v := .bool true) (by simp [results, Tryz.results6, go_sem]) rfl ⟨rfl, H9.out⟩
end Go.Proofs.YtkfimbonmnoglaaGreatDoor
end
