import Derived.Test.YtkfimbonmnoglaaGreatDoorB12
import Derived.Deep.Cut
/-
  Given contracts of functions of the program, and laws for them, one behind the other.
-/
set_option linter.unusedVariables false
set_option linter.unusedSimpArgs false
set_option linter.unusedSectionVars false
section
namespace Go.Proofs.YtkfimbonmnoglaaGreatDoor
open Go.RowKit Go.Rel Go.Draw Go.Solid
set_option maxRecDepth 100000
/-- a list of solids as cells -/
def solA (l : List Sol) : Array Value := ((l.map solL).flatten).toArray
theorem solF_get (m : List Sol) : ∀ k, ((m.map solL).flatten)[k]? = (m[k / 8]?).map fun s => Value.int .u64 (pl s (k % 8)) := by
 induction m with
 | nil => intro k; simp
 | cons a m ih =>
  intro k
  rw [List.map_cons, List.flatten_cons]
  by_cases h : k < 8
  ·rw [List.getElem?_append_left (by show k < 8; exact h), Nat.div_eq_of_lt h, Nat.mod_eq_of_lt h]
   obtain rfl | rfl | rfl | rfl | rfl | rfl | rfl | rfl : k = 0 ∨ k = 1 ∨ k = 2 ∨ k = 3 ∨ k = 4 ∨ k = 5 ∨ k = 6 ∨ k = 7 := by omega
   all_goals rfl
  ·obtain ⟨j, rfl⟩ : ∃ j, k = j + 8 := ⟨k - 8, by omega⟩
   rw [List.getElem?_append_right (by show 8 ≤ j + 8; omega), show (solL a).length = 8 from rfl, Nat.add_sub_cancel, ih, Nat.add_div_right _ (by decide), Nat.add_mod_right]; rfl
theorem solA_get (m : List Sol) (k : Nat) : (solA m)[k]? = (m[k / 8]?).map fun s => Value.int .u64 (pl s (k % 8)) := by
 unfold solA
 rw [List.getElem?_toArray, solF_get]
theorem solA_size (m : List Sol) : (solA m).size = m.length * 8 := by
 unfold solA
 rw [List.size_toArray]
 induction m with
 | nil => rfl
 | cons a m ih => rw [List.map_cons, List.flatten_cons, List.length_append, ih]; show 8 + m.length * 8 = (m.length + 1) * 8; omega
theorem solA_one (m : List Sol) : (solA m).all (·.oneCell') = true := by
 rw [Array.all_eq_true_iff_forall_mem]
 intro x hx
 obtain ⟨k, hk⟩ := Array.mem_iff_getElem?.1 hx
 rw [solA_get] at hk
 cases h : m[k / 8]? with
 | none => rw [h] at hk; cases hk
 | some s => rw [h] at hk; cases hk; rfl
def imgP (s : Sol) (k : Nat) : List Sol := (List.range 24).map fun t => if t < k then imageS s t else 0#512
theorem imgP_len (s : Sol) (k : Nat) : (imgP s k).length = 24 := by unfold imgP; simp
theorem imgP_set (s : Sol) {k : Nat} (hk : k < 24) : (imgP s k).set k (imageS s k) = imgP s (k + 1) := by
 apply List.ext_getElem?
 intro i
 unfold imgP
 rw [List.getElem?_set, List.getElem?_map, List.getElem?_map, List.length_map, List.length_range]
 by_cases e : k = i
 ·subst e
  rw [if_pos rfl, if_pos hk, List.getElem?_range hk, Option.map_some, if_pos (by omega)]
 ·rw [if_neg e]
  by_cases h : i < 24
  ·rw [List.getElem?_range h, Option.map_some, Option.map_some]
   by_cases hi : i < k
   ·rw [if_pos hi, if_pos (by omega)]
   ·rw [if_neg hi, if_neg (by omega)]
  ·rw [List.getElem?_eq_none (by simpa using h)]; rfl
theorem imgP_end (s : Sol) : imgP s 24 = imgL s := by
 unfold imgP imgL
 exact List.map_congr_left fun t ht => by rw [if_pos (List.mem_range.1 ht)]
/-- a block with cells for a list of solids -/
theorem Blk.solC {W : World} {g : Nat} {m : List Sol} {ty : TypeId} (h : Blk W g (solA m) ty) {t : Nat} {s : Sol} (hs : m[t]? = some s) {z : Nat} (hz : z < 8) : W.cell? ⟨g, t * 8 + z, none⟩ = some (.int .u64 (pl s z)) := by
 rw [h.cell, solA_get, show (t * 8 + z) / 8 = t by omega, show (t * 8 + z) % 8 = z by omega, hs]; rfl
theorem solA_spl (m : List Sol) {t : Nat} (ht : t < m.length) (s : Sol) : spl (solA m) (t * 8) (solL s) = solA (m.set t s) := by
 unfold spl solA
 rw [flat_set (k := 8) solL (fun _ => rfl) s m t ht]
 simp
theorem wpList_sol_at {P : Program} {ops : Array Oper} {rest : List Oper} {o : Oper} {a : Act} {w : World} {Q : Exit → Act → World → Prop} (hgd : o.guard = none) (ty : TypeId) (x y : Operand) (ho : o.op = .store ty x y)
  (g t : Nat) (s : Sol) (hx : a.eval x = .pointer (some ⟨g, t * 8, none⟩)) (hy : a.eval y = solV s) (T : TypeId) (m : List Sol) (hg : Blk w g (solA m) T) (hi : (P.info? ty).map (·.size) = some 8) (ht : t < m.length)
  (h : wpList P ops Q rest (a.put o.dst undef) (w.setRow g (solA (m.set t s)))) : wpList P ops Q (o :: rest) a w := by
 refine wpList_store_at hgd ty x y ho g (t * 8) #[.int .u64 (pl s 0), .int .u64 (pl s 1), .int .u64 (pl s 2), .int .u64 (pl s 3), .int .u64 (pl s 4), .int .u64 (pl s 5), .int .u64 (pl s 6), .int .u64 (pl s 7)] hx hy T (solA m) hg hi ?_ ?_ ?_
 ·rw [solA_size]; show t * 8 + 8 ≤ _; omega
 ·show (solA [s]).all (·.oneCell') = true
  exact solA_one [s]
 ·rw [show (#[.int .u64 (pl s 0), .int .u64 (pl s 1), .int .u64 (pl s 2), .int .u64 (pl s 3), .int .u64 (pl s 4), .int .u64 (pl s 5), .int .u64 (pl s 6), .int .u64 (pl s 7)] : Array Value).toList = solL s from rfl, solA_spl m ht s]; exact h
end Go.Proofs.YtkfimbonmnoglaaGreatDoor
end
section
namespace Go.Proofs.YtkfimbonmnoglaaGreatDoor
open Go.RowKit Go.Rel Go.Draw Go.Solid
set_option maxRecDepth 100000
theorem und89 : Tryz.prog.underlying 89 = some (.array 24 26) := by kernel_rfl
theorem siz89 : (Tryz.prog.info? 89).map (·.size) = some 192 := by kernel_rfl
abbrev imgV (s : Sol) : Value := .agg (solA (imgL s))
theorem zeroA (s : Sol) : solA (imgP s 0) = Array.replicate 192 (.int .u64 0) := by
 have h : imgP s 0 = List.replicate 24 0#512 := by
  unfold imgP
  rw [List.eq_replicate_iff]
  exact ⟨by simp, fun b hb => by obtain ⟨t, _, rfl⟩ := List.mem_map.1 hb; rw [if_neg (by omega)]⟩
 apply Array.ext_getElem?
 intro k
 rw [solA_get, h, List.getElem?_replicate, Array.getElem?_replicate]
 by_cases e : k < 192
 ·rw [if_pos (by omega), if_pos e, Option.map_some, show (0#512 : Sol) = 0 from rfl, pl_zero]
 ·rw [if_neg (by omega), if_neg e]; rfl
set_option maxHeartbeats 4000000 in
theorem images_arr (s : Sol) (w : World) (hT : Tab w) : Calls Tryz.prog 100 #[solV s] w fun e w' => e = .returned (imgV s) ∧ Below w.heap.size w w' := by
 have HT := Lib.hid hT
 have HZ := Lib.hid (zeroA s)
 clear hT
 go_enter Tryz.func100, Tryz.ntmps100
 go_wp2_with fail
 generalize hw0 : (((w.alloc _).alloc _).alloc _) = W0
 have B0 : Blk W0 w.heap.size #[.int .u64 (pl s 0), .int .u64 (pl s 1), .int .u64 (pl s 2), .int .u64 (pl s 3), .int .u64 (pl s 4), .int .u64 (pl s 5), .int .u64 (pl s 6), .int .u64 (pl s 7)] 26 := by subst hw0; exact (by repeat (first | with_reducible assumption | (refine Blk.at _ _ ?_; (simp; done)) | with_reducible refine Blk.alloc ?_ _ | with_reducible refine Blk.drew ?_ | with_reducible refine Blk.rowS ?_ _ | with_reducible refine Blk.rowO ?_ _ (by simp)))
 have B1 : Blk W0 (w.heap.size + 1) (Array.replicate 192 (.int .u64 0)) 89 := by subst hw0; exact (by repeat (first | with_reducible assumption | (refine Blk.at _ _ ?_; (simp; done)) | with_reducible refine Blk.alloc ?_ _ | with_reducible refine Blk.drew ?_ | with_reducible refine Blk.rowS ?_ _ | with_reducible refine Blk.rowO ?_ _ (by simp)))
 have B2 : Blk W0 (w.heap.size + 1 + 1) (solA (imgP s 0)) 89 := by rw [HZ.out]; subst hw0; exact Blk.at _ _ (by simp)
 have hbel : Below w.heap.size w W0 := by subst hw0; exact (by repeat (first | with_reducible exact bel_refl _ | with_reducible assumption | with_reducible refine bel_drewN ?_ _ | with_reducible refine bel_drew ?_ | with_reducible refine bel_alloc ?_ _ | with_reducible refine bel_row ?_ ?_ _ | with_reducible refine bel_set ?_ ?_ _ | refine bel_trans ?_ (by with_reducible assumption) | (simp; done) | (simp; omega)))
 have HB := Lib.hid (And.intro B0 (And.intro B1 (And.intro B2 hbel))); clear B0 B1 B2 hbel hw0 HZ
 go_loopw [5] (fun iv wx => ∃ t : Nat, t ≤ 24 ∧ iv = .int .i64 t ∧ Hid (Blk wx w.heap.size #[.int .u64 (pl s 0), .int .u64 (pl s 1), .int .u64 (pl s 2), .int .u64 (pl s 3), .int .u64 (pl s 4), .int .u64 (pl s 5), .int .u64 (pl s 6), .int .u64 (pl s 7)] 26 ∧ Blk wx (w.heap.size + 1) (Array.replicate 192 (.int .u64 0)) 89 ∧ Blk wx (w.heap.size + 1 + 1) (solA (imgP s t)) 89 ∧ Below w.heap.size w wx)) (fun iv _ => 24 - (intOf iv).toNat)
 case atStart => exact ⟨0, by omega, rfl, HB⟩
 case round =>
  clear HB
  obtain ⟨t, ht, rfl, HI⟩ := hrel
  have c0 := HI.out.1.cell; have l0 := HI.out.1.lt
  by_cases hlt : t < 24
  ·have hd : decide ((t : Int) < 24) = true := decide_eq_true (by omega)
   have ht24 : (t : Int) < 24 := by omega
   have HS : Hid (∀ W, Tab W → Calls Tryz.prog 97 #[solV s, .int .i64 (t : Int)] W fun e w' => e = .returned (solV (spunS s t)) ∧ Below W.heap.size W w') := Lib.hid (fun W h => spun_spec s hlt W h)
   obtain ⟨P, hP⟩ : ∃ P, P = spunS s t := ⟨_, rfl⟩
   obtain ⟨X, hX⟩ : ∃ X, X = imageS s t := ⟨_, rfl⟩
   rw [← hP] at HS
   have HC : Hid (∀ W, Tab W → Calls Tryz.prog 141 #[solV P] W fun e w' => e = .returned (solV X) ∧ Below W.heap.size W w') := Lib.hid (fun W h => by rw [hX, hP]; exact cornered_spec _ W h)
   have HX := Lib.hid hX
   clear hP hX
   go_wp2_with fail
   refine (HS.out _ (HT.out.grow HI.out.2.2.2)).mono ?_
   rintro e w1 ⟨rfl, hb1⟩
   have hbw1 : Below w.heap.size w w1 := bel_trans HI.out.2.2.2 hb1
   have HB1 := Lib.hid (And.intro hbw1 hb1)
   clear hbw1 hb1 HS c0 l0
   go_wp2_with fail
   refine (HC.out _ (HT.out.grow HB1.out.1)).mono ?_
   rintro e w2 ⟨rfl, hb2⟩
   have hbw2 : Below w.heap.size w w2 := bel_trans HB1.out.1 hb2
   have hbr : Below wr.heap.size wr w2 := bel_trans HB1.out.2 hb2
   have D0 := HI.out.1.grow hbr
   have D1 := HI.out.2.1.grow hbr
   have D2 := HI.out.2.2.1.grow hbr
   have hbb := HI.out.2.2.2
   have l2 := D2.lt
   have f2 := D2.free
   have hP := imgP_len s t
   have cc := D2.cell
   have HD := Lib.hid (And.intro D0 (And.intro D1 (And.intro D2 hbw2)))
   clear hb2 hbr D0 D1 D2 hbw2 HB1 HC hbb
   go_wp2_with (refine wpList_sol_at rfl 26 (.tmp 13) (.tmp 12) rfl (w.heap.size + 1 + 1) t X rfl rfl 89 (imgP s t) HD.out.2.2.1 rfl (by rw [imgP_len]; exact hlt) ?_)
   go_roundw
   case rel =>
    refine ⟨t + 1, by omega, by go_num, Lib.hid ⟨HD.out.1.rowO _ (by omega), HD.out.2.1.rowO _ (by omega), ?_, bel_row HD.out.2.2.2 (by omega) _⟩⟩
    rw [← imgP_set s hlt, ← HX.out]
    exact HD.out.2.2.1.rowS _
   case measure => simp [intOf]; omega
  ·obtain rfl : t = 24 := by omega
   have hd : decide (((24 : Nat) : Int) < 24) = false := by decide
   have D2 := HI.out.2.2.1
   rw [imgP_end] at D2
   have D1 := HI.out.2.1
   have hb := bel_row HI.out.2.2.2 (g := w.heap.size + 1) (by omega) (solA (imgL s))
   have hF : Blk (wr.setRow (w.heap.size + 1) (solA (imgL s))) (w.heap.size + 1) (solA (imgL s)) 89 := D1.rowS _
   have hsz : (solA (imgL s)).size = 192 := by rw [solA_size]; unfold imgL; simp
   have HR := Lib.hid (And.intro D2 (And.intro D1 (And.intro hF hsz)))
   clear D1 D2 hF hsz HI c0 l0
   go_wp2_with (first | refine wpList_load_row rfl 89 (.tmp 3) rfl (w.heap.size + 1 + 1) rfl 89 _ (0, 0) _ HR.out.1 und89 rfl (by rw [siz89, HR.out.2.2.2]) ?_ | refine wpList_store_row rfl 89 (.tmp 2) (.tmp 15) rfl (w.heap.size + 1) _ rfl rfl 89 _ HR.out.2.1 (by rw [siz89, HR.out.2.2.2]) (by rw [HR.out.2.2.2]; rfl) (solA_one _) ?_)
   have hl := run_loadVar_row (P := Tryz.prog) _ (w.heap.size + 1) 89 89 _ (0, 0) _ HR.out.2.2.1 und89 rfl (by rw [siz89, HR.out.2.2.2])
   refine bodyPost_ret (v := imgV s) ?_ rfl ⟨rfl, hb⟩
   simp [results, Tryz.results100, Act.put, asAddr, hl]
end Go.Proofs.YtkfimbonmnoglaaGreatDoor
end
section
namespace Go.Proofs.YtkfimbonmnoglaaGreatDoor
open Go.RowKit Go.Rel Go.Draw Go.Solid
set_option maxRecDepth 100000
theorem sol8 {W : World} {g : Nat} {m : List Sol} {T : TypeId} (h : Blk W g (solA m) T) {t : Nat} {s : Sol} (hs : m[t]? = some s) :
  W.cell? ⟨g, t * 8, none⟩ = some (.int .u64 (pl s 0)) ∧ W.cell? ⟨g, t * 8 + 1, none⟩ = some (.int .u64 (pl s 1)) ∧ W.cell? ⟨g, t * 8 + 2, none⟩ = some (.int .u64 (pl s 2)) ∧ W.cell? ⟨g, t * 8 + 3, none⟩ = some (.int .u64 (pl s 3)) ∧ W.cell? ⟨g, t * 8 + 4, none⟩ = some (.int .u64 (pl s 4)) ∧ W.cell? ⟨g, t * 8 + 5, none⟩ = some (.int .u64 (pl s 5)) ∧ W.cell? ⟨g, t * 8 + 6, none⟩ = some (.int .u64 (pl s 6)) ∧ W.cell? ⟨g, t * 8 + 7, none⟩ = some (.int .u64 (pl s 7)) :=
 ⟨h.solC hs (z := 0) (by omega), h.solC hs (z := 1) (by omega), h.solC hs (z := 2) (by omega), h.solC hs (z := 3) (by omega), h.solC hs (z := 4) (by omega), h.solC hs (z := 5) (by omega), h.solC hs (z := 6) (by omega), h.solC hs (z := 7) (by omega)⟩
theorem cmpS_neg {a b : Sol} : cmpS a b < 0 ↔ rank a < rank b := by
 unfold cmpS
 by_cases h : rank a < rank b
 ·rw [if_pos h]; simp [h]
 ·rw [if_neg h]
  by_cases h2 : rank b < rank a
  ·rw [if_pos h2]; simp [h]
  ·rw [if_neg h2]; simp [h]
attribute [local irreducible] rank solA
set_option maxHeartbeats 1000000 in
theorem minFunc_spec {w : World} {g cap n : Nat} {l : List Sol} {T : TypeId} (hB : Blk w g (solA l) T) (hn : l.length = n) (hl : l ≠ []) (hcap : n ≤ cap) (hc2 : cap ≤ 1000000) :
  Calls Tryz.prog 101 #[.slice (some ⟨g, 0, none⟩) n cap, .func (.func 102) #[] #[]] w fun e w' => (∃ x, e = .returned (solV x) ∧ x ∈ l ∧ ∀ y ∈ l, rank x ≤ rank y) ∧ Below w.heap.size w w' := by
 have hn1 : 1 ≤ n := by
  rcases l with _ | ⟨a, l⟩
  ·exact absurd rfl hl
  ·rw [← hn, List.length_cons]; omega
 obtain ⟨s0, hs0⟩ : ∃ s, l[0]? = some s := ⟨l[0]'(by omega), by simp⟩
 obtain ⟨a0, a1, a2, a3, a4, a5, a6, a7⟩ := sol8 hB hs0
 simp only [Nat.zero_mul, Nat.zero_add] at a0 a1 a2 a3 a4 a5 a6 a7
 have lg := hB.lt
 have HB := Lib.hid (And.intro hB (And.intro hn hs0))
 clear hB hl hs0
 go_enter Tryz.func101, Tryz.ntmps101
 have hd1 : decide ((n : Int) < 1) = false := decide_eq_false (by omega)
 have hn0 : (0 : Int) < (n : Int) := by omega
 have hn0' : 0 < n := by omega
 go_wp2_with fail
 generalize hw0 : ((w.alloc _).alloc _) = W0
 have B0 : Blk W0 w.heap.size #[.int .u64 0, .int .u64 0, .int .u64 0, .int .u64 0, .int .u64 0, .int .u64 0, .int .u64 0, .int .u64 0] 26 := by subst hw0; exact (by repeat (first | with_reducible assumption | (refine Blk.at _ _ ?_; (simp; done)) | with_reducible refine Blk.alloc ?_ _ | with_reducible refine Blk.drew ?_ | with_reducible refine Blk.rowS ?_ _ | with_reducible refine Blk.rowO ?_ _ (by simp)))
 have B1 : Blk W0 (w.heap.size + 1) #[.int .u64 (pl s0 0), .int .u64 (pl s0 1), .int .u64 (pl s0 2), .int .u64 (pl s0 3), .int .u64 (pl s0 4), .int .u64 (pl s0 5), .int .u64 (pl s0 6), .int .u64 (pl s0 7)] 26 := by subst hw0; exact Blk.at _ _ (by simp)
 have hbel : Below w.heap.size w W0 := by subst hw0; exact (by repeat (first | with_reducible exact bel_refl _ | with_reducible assumption | with_reducible refine bel_drewN ?_ _ | with_reducible refine bel_drew ?_ | with_reducible refine bel_alloc ?_ _ | with_reducible refine bel_row ?_ ?_ _ | with_reducible refine bel_set ?_ ?_ _ | refine bel_trans ?_ (by with_reducible assumption) | (simp; done) | (simp; omega)))
 have HI0 : Hid (s0 ∈ l ∧ (∀ j y, j < 1 → l[j]? = some y → rank s0 ≤ rank y) ∧ Blk W0 w.heap.size #[.int .u64 0, .int .u64 0, .int .u64 0, .int .u64 0, .int .u64 0, .int .u64 0, .int .u64 0, .int .u64 0] 26 ∧ Blk W0 (w.heap.size + 1) #[.int .u64 (pl s0 0), .int .u64 (pl s0 1), .int .u64 (pl s0 2), .int .u64 (pl s0 3), .int .u64 (pl s0 4), .int .u64 (pl s0 5), .int .u64 (pl s0 6), .int .u64 (pl s0 7)] 26 ∧ Below w.heap.size w W0) := Lib.hid ⟨List.mem_of_getElem? HB.out.2.2, fun j y hj hy => by
  obtain rfl : j = 0 := by omega
  rw [HB.out.2.2] at hy; cases hy; exact Nat.le_refl _, B0, B1, hbel⟩
 clear B0 B1 hbel hw0 a0 a1 a2 a3 a4 a5 a6 a7 hd1 hn
 go_loopw [6] (fun iv wx => ∃ (i : Nat) (x : Sol), 1 ≤ i ∧ i ≤ n ∧ iv = .int .i64 i ∧ Hid (x ∈ l ∧ (∀ j y, j < i → l[j]? = some y → rank x ≤ rank y) ∧ Blk wx w.heap.size #[.int .u64 0, .int .u64 0, .int .u64 0, .int .u64 0, .int .u64 0, .int .u64 0, .int .u64 0, .int .u64 0] 26 ∧ Blk wx (w.heap.size + 1) #[.int .u64 (pl x 0), .int .u64 (pl x 1), .int .u64 (pl x 2), .int .u64 (pl x 3), .int .u64 (pl x 4), .int .u64 (pl x 5), .int .u64 (pl x 6), .int .u64 (pl x 7)] 26 ∧ Below w.heap.size w wx)) (fun iv _ => n - (intOf iv).toNat)
 case atStart => exact ⟨1, s0, by omega, hn1, rfl, HI0⟩
 case round =>
  clear HI0
  obtain ⟨i, x, hi1, hin, rfl, HI⟩ := hrel
  by_cases hlt : i < n
  ·have hd : decide ((i : Int) < (n : Int)) = true := decide_eq_true (by omega)
   have hi9 : (i : Int) < (n : Int) := by omega
   obtain ⟨y, hy⟩ : ∃ y, l[i]? = some y := ⟨l[i]'(by have := HB.out.2.1; omega), by simp⟩
   have HL : Hid (∀ W, Calls Tryz.prog 102 #[solV y, solV x] W fun e w' => e = .returned (.int .i64 (cmpS y x)) ∧ Below W.heap.size W w') := Lib.hid fun W => less_cmp y x W
   obtain ⟨c, hc⟩ : ∃ c, c = cmpS y x := ⟨_, rfl⟩
   rw [← hc] at HL
   have HC := Lib.hid hc
   have HY := Lib.hid hy
   have hbr := HI.out.2.2.2.2
   clear hc hy
   obtain ⟨wb, hwb⟩ : ∃ wb, wb = wr := ⟨_, rfl⟩
   have HD : Hid (Blk wb g (solA l) T ∧ Blk wb w.heap.size #[.int .u64 0, .int .u64 0, .int .u64 0, .int .u64 0, .int .u64 0, .int .u64 0, .int .u64 0, .int .u64 0] 26 ∧ Blk wb (w.heap.size + 1) #[.int .u64 (pl x 0), .int .u64 (pl x 1), .int .u64 (pl x 2), .int .u64 (pl x 3), .int .u64 (pl x 4), .int .u64 (pl x 5), .int .u64 (pl x 6), .int .u64 (pl x 7)] 26 ∧ Below w.heap.size w wb) := Lib.hid (by rw [hwb]; exact ⟨HB.out.1.grow hbr, HI.out.2.2.1, HI.out.2.2.2.1, hbr⟩)
   have HX := Lib.hid (And.intro HI.out.1 HI.out.2.1)
   have lgb := HD.out.1.lt
   clear hbr HI
   rw [← hwb]
   clear hwb
   go_wp2_with fail
   refine wp_region_val Grows (fun _ _ _ => True) [Is (.func (.func 102) #[] #[]), Is (.slice (some ⟨g, 0, none⟩) n cap), Is (.int .i64 (i : Int)), Is (.pointer (some ⟨g, i * 8, none⟩)), Is (solV y), Is (solV x), Is (.int .i64 c), Is (.bool (decide (c < 0)))] (by kernel_rfl) (by kernel_rfl) rfl Grows.refl (fun _ _ _ => Grows.trans) (stable_mem ⟨fun _ _ _ h _ => h, fun _ _ _ h _ => h, fun _ _ _ h _ => h, fun _ _ _ h _ => h, fun _ _ _ h _ => h, fun _ _ _ h _ => h, fun _ _ _ h _ => h, fun _ _ _ h _ => h, trivial⟩) wb (Below.drew (Below.refl _ _)) trivial ?_
   refine val_cons ?_ (fun v0 => ?_)
   ·intro L vs w1 hvs hat hb hI hF; try simp [factsI, Region.binds, Is] at hF
    have hc := (Grows.cells hb).1
    clear hI
    go_simp
    try simp [upd]
    try first | exact Grows.refl _ | exact trivial | exact ⟨Grows.refl _, trivial⟩
   refine val_cons ?_ (fun v1 => ?_)
   ·intro L vs w1 hvs hat hb hI hF; try simp [factsI, Region.binds, Is] at hF
    have hc := (Grows.cells hb).1
    clear hI
    go_simp
    try simp [upd]
    try first | exact Grows.refl _ | exact trivial | exact ⟨Grows.refl _, trivial⟩
   refine val_cons ?_ (fun v2 => ?_)
   ·intro L vs w1 hvs hat hb hI hF; try simp [factsI, Region.binds, Is] at hF
    have hc := (Grows.cells hb).1
    clear hI
    go_simp
    try simp [upd]
    try first | exact Grows.refl _ | exact trivial | exact ⟨Grows.refl _, trivial⟩
   refine val_cons ?_ (fun v3 => ?_)
   ·intro L vs w1 hvs hat hb hI hF; try simp [factsI, Region.binds, Is] at hF
    have hc := (Grows.cells hb).1
    clear hI
    go_simp
    try simp [upd]
    try first | exact Grows.refl _ | exact trivial | exact ⟨Grows.refl _, trivial⟩
   refine val_cons ?_ (fun v4 => ?_)
   ·intro L vs w1 hvs hat hb hI hF; try simp [factsI, Region.binds, Is] at hF
    have D := HD.out.1.grow (show Below _ _ _ from hb)
    obtain ⟨b0, b1, b2, b3, b4, b5, b6, b7⟩ := sol8 D HY.out
    have lD := D.lt
    clear D
    go_simp
    exact Grows.refl _
   refine val_cons ?_ (fun v5 => ?_)
   ·intro L vs w1 hvs hat hb hI hF; try simp [factsI, Region.binds, Is] at hF
    have D := HD.out.2.2.1.grow (show Below _ _ _ from hb)
    have cD := D.cell; have lD := D.lt
    clear D
    go_simp
    exact Grows.refl _
   refine val_cons ?_ (fun v6 => ?_)
   ·intro L vs w1 hvs hat hb hI hF; try simp [factsI, Region.binds, Is] at hF
    go_simp
    refine (HL.out _).mono ?_
    rintro e w2 ⟨rfl, hb2⟩
    exact ⟨rfl, hb2⟩
   refine val_cons ?_ (fun v7 => ?_)
   ·intro L vs w1 hvs hat hb hI hF; try simp [factsI, Region.binds, Is] at hF
    have hc := (Grows.cells hb).1
    clear hI
    go_simp
    try simp [upd]
    try first | exact Grows.refl _ | exact trivial | exact ⟨Grows.refl _, trivial⟩
   refine val_nil ?_
   intro vs w1 hvs hb hI hF
   simp [Is, Nat.forall_lt_succ_right] at hF
   simp only [Act.put, List.setIfInBounds_toArray, List.set_cons_succ, List.set_cons_zero, hF]
   clear hF
   have hb1 : Below wb.heap.size wb w1 := hb
   have D := HD.out.1.grow hb1
   have D0 := HD.out.2.1.grow hb1
   have D1 := HD.out.2.2.1.grow hb1
   have hbw := bel_trans HD.out.2.2.2 hb1
   have lD := D.lt
   have HE := Lib.hid (And.intro D0 (And.intro D1 hbw))
   have HDD := Lib.hid D
   clear hb hb1 D D0 hbw HD
   by_cases hneg : c < 0
   ·have hdc : decide (c < 0) = true := decide_eq_true hneg
    have HR : Hid (rank y < rank x) := Lib.hid (cmpS_neg.1 (by rw [← HC.out]; exact hneg))
    have lb1 := D1.lt; have rb1 := D1.row
    obtain ⟨b0, b1, b2, b3, b4, b5, b6, b7⟩ := sol8 (HDD.out.rowO (g := w.heap.size + 1) #[.int .u64 (pl x 0), .int .u64 (pl x 1), .int .u64 (pl x 2), .int .u64 (pl x 3), .int .u64 (pl x 4), .int .u64 (pl x 5), .int .u64 (pl x 6), .int .u64 (pl x 7)] (by omega)) HY.out
    rw [← D1.rw]
    clear D1
    go_wp2_with fail
    go_roundw
    case rel =>
     refine ⟨i + 1, y, by omega, by omega, by go_num, Lib.hid ⟨List.mem_of_getElem? HY.out, fun j z hj hz => ?_, HE.out.1.rowO _ (by omega), HE.out.2.1.rowS _, bel_row HE.out.2.2 (by omega) _⟩⟩
     by_cases hji : j = i
     ·subst hji; rw [HY.out] at hz; cases hz; exact Nat.le_refl _
     ·exact Nat.le_trans (Nat.le_of_lt HR.out) (HX.out.2 j z (by omega) hz)
    case measure => simp [intOf]; omega
   ·have HR : Hid (rank x ≤ rank y) := Lib.hid (Nat.le_of_not_lt fun h => hneg (by rw [HC.out]; exact cmpS_neg.2 h))
    clear D1
    go_wp2_with fail
    go_roundw
    case rel =>
     refine ⟨i + 1, x, by omega, by omega, by go_num, Lib.hid ⟨HX.out.1, fun j z hj hz => ?_, HE.out⟩⟩
     by_cases hji : j = i
     ·subst hji; rw [HY.out] at hz; cases hz; exact HR.out
     ·exact HX.out.2 j z (by omega) hz
    case measure => simp [intOf]; omega
  ·obtain rfl : i = n := by omega
   have hd : decide ((i : Int) < (i : Int)) = false := by simp
   have D0 := HI.out.2.2.1; have D1 := HI.out.2.2.2.1
   have c1 := D1.cell; have l1 := D1.lt
   have r0 := D0.row; have l0 := D0.lt
   have cF := (D0.rowS #[.int .u64 (pl x 0), .int .u64 (pl x 1), .int .u64 (pl x 2), .int .u64 (pl x 3), .int .u64 (pl x 4), .int .u64 (pl x 5), .int .u64 (pl x 6), .int .u64 (pl x 7)]).cell
   have hb := bel_row HI.out.2.2.2.2 (g := w.heap.size) (Nat.le_refl _) #[.int .u64 (pl x 0), .int .u64 (pl x 1), .int .u64 (pl x 2), .int .u64 (pl x 3), .int .u64 (pl x 4), .int .u64 (pl x 5), .int .u64 (pl x 6), .int .u64 (pl x 7)]
   rw [← D0.rw]
   clear D0 D1
   go_wp2_with fail
   refine bodyPost_ret (v := solV x) (by simp [results, Tryz.results101, go_sem, cF]) rfl ⟨⟨x, rfl, HI.out.1, fun y hy => ?_⟩, hb⟩
   obtain ⟨j, hj⟩ := List.getElem?_of_mem hy
   exact HI.out.2.1 j y (by have := (List.getElem?_eq_some_iff.1 hj).1; have := HB.out.2.1; omega) hj
theorem canon_min {s x : Sol} (hx : x ∈ imgL s) (h : ∀ y ∈ imgL s, rank x ≤ rank y) : x = canonS s := by
 unfold imgL at hx h
 obtain ⟨t, ht, e⟩ := List.mem_map.1 hx
 exact canon_of ⟨t, List.mem_range.1 ht, e⟩ fun u hu => h _ (List.mem_map.2 ⟨u, List.mem_range.2 hu, rfl⟩)
theorem imgL_len (s : Sol) : (imgL s).length = 24 := by unfold imgL; simp
end Go.Proofs.YtkfimbonmnoglaaGreatDoor
end
section
namespace Go.Proofs.YtkfimbonmnoglaaGreatDoor
open Go.RowKit Go.Rel Go.Draw Go.Solid
set_option maxRecDepth 100000
attribute [local irreducible] rank solA canonS imgL
set_option maxHeartbeats 1000000 in
theorem canon_spec (s : Sol) (w : World) (hT : Tab w) : Calls Tryz.prog 26 #[solV s] w fun e w' => e = .returned (solV (canonS s)) ∧ Below w.heap.size w w' := by
 have HIm : Hid (∀ W, Tab W → Calls Tryz.prog 100 #[solV s] W fun e w' => e = .returned (.agg (solA (imgL s))) ∧ Below W.heap.size W w') := Lib.hid fun W h => images_arr s W h
 have HT := Lib.hid hT
 have hlen : (imgL s).length = 24 := imgL_len s
 have hsz : (solA (imgL s)).size = 192 := by rw [solA_size, hlen]
 have HM : Hid (∀ W g, Blk W g (solA (imgL s)) 89 → Calls Tryz.prog 101 #[.slice (some ⟨g, 0, none⟩) 24 24, .func (.func 102) #[] #[]] W fun e w' => e = .returned (solV (canonS s)) ∧ Below W.heap.size W w') := Lib.hid fun W g hB => by
  refine (minFunc_spec hB hlen (fun e => by rw [e] at hlen; cases hlen) (Nat.le_refl _) (by omega)).mono ?_
  rintro e w' ⟨⟨x, rfl, hx, hmin⟩, hb⟩
  refine ⟨?_, hb⟩
  have : x = canonS s := canon_min hx hmin
  rw [this]
 obtain ⟨A, hA⟩ : ∃ A, A = solA (imgL s) := ⟨_, rfl⟩
 have hone : A.all (·.oneCell') = true := by rw [hA]; exact solA_one _
 rw [← hA] at HIm HM hsz
 obtain ⟨K, hK⟩ : ∃ K, K = canonS s := ⟨_, rfl⟩
 rw [← hK] at HM ⊢
 have HA := Lib.hid (And.intro hsz hone)
 clear hT hlen hsz hA hone hK
 go_enter Tryz.func26, Tryz.ntmps26
 go_wp2_with fail
 refine (HIm.out _ (HT.out.grow (by repeat (first | with_reducible exact bel_refl _ | with_reducible assumption | with_reducible refine bel_drewN ?_ _ | with_reducible refine bel_drew ?_ | with_reducible refine bel_alloc ?_ _ | with_reducible refine bel_row ?_ ?_ _ | with_reducible refine bel_set ?_ ?_ _ | refine bel_trans ?_ (by with_reducible assumption) | (simp; done) | (simp; omega))))).mono ?_
 rintro e w1 ⟨rfl, hb1⟩
 have hbw : Below w.heap.size w w1 := bel_trans (by repeat (first | with_reducible exact bel_refl _ | with_reducible assumption | with_reducible refine bel_drewN ?_ _ | with_reducible refine bel_drew ?_ | with_reducible refine bel_alloc ?_ _ | with_reducible refine bel_row ?_ ?_ _ | with_reducible refine bel_set ?_ ?_ _ | refine bel_trans ?_ (by with_reducible assumption) | (simp; done) | (simp; omega))) hb1
 have B1 : Blk w1 (w.heap.size + 1) #[.int .u64 0, .int .u64 0, .int .u64 0, .int .u64 0, .int .u64 0, .int .u64 0, .int .u64 0, .int .u64 0] 26 := Blk.grow (by repeat (first | with_reducible assumption | (refine Blk.at _ _ ?_; (simp; done)) | with_reducible refine Blk.alloc ?_ _ | with_reducible refine Blk.drew ?_ | with_reducible refine Blk.rowS ?_ _ | with_reducible refine Blk.rowO ?_ _ (by simp))) hb1
 have hz89 : Tryz.zeroCells89.size = 192 := by decide +kernel
 have HW := Lib.hid (And.intro B1 (And.intro hbw hz89))
 have l1 := B1.lt
 clear B1 hbw hb1 hz89
 go_wp2_with (refine wpList_store_row rfl 89 (.tmp 3) (.tmp 5) rfl w1.heap.size A rfl rfl 89 _ (Blk.new w1 _ _) (by rw [siz89, HA.out.1]) (by rw [HA.out.1]; exact HW.out.2.2) HA.out.2 ?_)
 refine (HM.out _ w1.heap.size ((Blk.new w1 _ _).rowS A)).mono ?_
 rintro e w2 ⟨rfl, hb2⟩
 have hbw : Below w.heap.size w w2 := bel_trans (bel_row (bel_alloc HW.out.2.1 _) (by omega) _) hb2
 have B1 : Blk w2 (w.heap.size + 1) #[.int .u64 0, .int .u64 0, .int .u64 0, .int .u64 0, .int .u64 0, .int .u64 0, .int .u64 0, .int .u64 0] 26 := ((HW.out.1.alloc _).rowO (g := w1.heap.size) A (by omega)).grow hb2
 have r1 := B1.row; have l1 := B1.lt
 have cF := (B1.rowS #[.int .u64 (pl K 0), .int .u64 (pl K 1), .int .u64 (pl K 2), .int .u64 (pl K 3), .int .u64 (pl K 4), .int .u64 (pl K 5), .int .u64 (pl K 6), .int .u64 (pl K 7)]).cell
 have hb5 := bel_row hbw (g := w.heap.size + 1) (by omega) #[.int .u64 (pl K 0), .int .u64 (pl K 1), .int .u64 (pl K 2), .int .u64 (pl K 3), .int .u64 (pl K 4), .int .u64 (pl K 5), .int .u64 (pl K 6), .int .u64 (pl K 7)]
 rw [← B1.rw]
 clear B1 hb2 hbw
 go_wp2_with fail
 exact bodyPost_ret (v := solV K) (by simp [results, Tryz.results26, go_sem, cF]) rfl ⟨rfl, hb5⟩
set_option maxHeartbeats 1000000 in
theorem same_spec (a b : Sol) (w : World) (hT : Tab w) : Calls Tryz.prog 28 #[solV a, solV b] w fun e w' => e = .returned (.bool (countS a == countS b && canonS a == canonS b)) ∧ Below w.heap.size w w' := by
 have HCa := Lib.hid fun W => count_spec a W
 have HCb := Lib.hid fun W => count_spec b W
 have HKa := Lib.hid fun W (h : Tab W) => canon_spec a W h
 have HKb := Lib.hid fun W (h : Tab W) => canon_spec b W h
 have HT := Lib.hid hT
 obtain ⟨n, hn⟩ : ∃ n, n = countS a := ⟨_, rfl⟩
 obtain ⟨m, hm⟩ : ∃ n, n = countS b := ⟨_, rfl⟩
 obtain ⟨K, hK⟩ : ∃ n, n = canonS a := ⟨_, rfl⟩
 obtain ⟨L, hL⟩ : ∃ n, n = canonS b := ⟨_, rfl⟩
 rw [← hn] at HCa; rw [← hm] at HCb; rw [← hK] at HKa; rw [← hL] at HKb
 rw [← hn, ← hm, ← hK, ← hL]
 obtain ⟨R, hR⟩ : ∃ R, R = (n == m && K == L) := ⟨_, rfl⟩
 rw [← hR]
 have HR := Lib.hid hR
 clear hn hm hK hL hT hR
 go_enter Tryz.func28, Tryz.ntmps28
 go_wp2_with fail
 generalize hw0 : ((w.alloc _).alloc _) = W0
 have B0 : Blk W0 w.heap.size #[.int .u64 (pl a 0), .int .u64 (pl a 1), .int .u64 (pl a 2), .int .u64 (pl a 3), .int .u64 (pl a 4), .int .u64 (pl a 5), .int .u64 (pl a 6), .int .u64 (pl a 7)] 26 := by subst hw0; exact (by repeat (first | with_reducible assumption | (refine Blk.at _ _ ?_; (simp; done)) | with_reducible refine Blk.alloc ?_ _ | with_reducible refine Blk.drew ?_ | with_reducible refine Blk.rowS ?_ _ | with_reducible refine Blk.rowO ?_ _ (by simp)))
 have B1 : Blk W0 (w.heap.size + 1) #[.int .u64 (pl b 0), .int .u64 (pl b 1), .int .u64 (pl b 2), .int .u64 (pl b 3), .int .u64 (pl b 4), .int .u64 (pl b 5), .int .u64 (pl b 6), .int .u64 (pl b 7)] 26 := by subst hw0; exact Blk.at _ _ (by simp)
 have hbel : Below w.heap.size w W0 := by subst hw0; exact (by repeat (first | with_reducible exact bel_refl _ | with_reducible assumption | with_reducible refine bel_drewN ?_ _ | with_reducible refine bel_drew ?_ | with_reducible refine bel_alloc ?_ _ | with_reducible refine bel_row ?_ ?_ _ | with_reducible refine bel_set ?_ ?_ _ | refine bel_trans ?_ (by with_reducible assumption) | (simp; done) | (simp; omega)))
 have HB := Lib.hid (And.intro B0 (And.intro B1 (And.intro hbel (HT.out.grow hbel))))
 clear B0 B1 hw0
 by_cases hnm : n = m
 ·subst hnm
  have hq : ((n : Int) == (n : Int)) = true := by rw [beq_iff_eq]
  refine wp_region_val Grows (fun _ _ _ => True) [Is (solV a), Is (.int .i64 (n : Int)), Is (solV b), Is (.int .i64 (n : Int)), Is (.bool true), Is (.bool true), Is (solV a), Is (solV K), Is (solV b), Is (solV L), Is (.bool (K == L)), Is (.bool (K == L)), Is (.bool (K == L))] (by kernel_rfl) (by kernel_rfl) rfl Grows.refl (fun _ _ _ => Grows.trans) (stable_mem ⟨fun _ _ _ h _ => h, fun _ _ _ h _ => h, fun _ _ _ h _ => h, fun _ _ _ h _ => h, fun _ _ _ h _ => h, fun _ _ _ h _ => h, fun _ _ _ h _ => h, fun _ _ _ h _ => h, fun _ _ _ h _ => h, fun _ _ _ h _ => h, fun _ _ _ h _ => h, fun _ _ _ h _ => h, fun _ _ _ h _ => h, trivial⟩) W0 (Below.drew (Below.refl _ _)) trivial ?_
  refine val_cons ?_ (fun v0 => ?_)
  ·intro L vs w1 hvs hat hb hI hF; try simp [factsI, Region.binds, Is] at hF
   have D := HB.out.1.grow (show Below _ _ _ from hb); have cD := D.cell; have lD := D.lt; clear D
   go_simp
   first | exact Grows.refl _ | exact ⟨Grows.refl _, trivial⟩
  refine val_cons ?_ (fun v1 => ?_)
  ·intro L vs w1 hvs hat hb hI hF; try simp [factsI, Region.binds, Is] at hF
   have hb0 := hb
   go_simp
   refine (HCa.out _).mono ?_
   rintro e w2 ⟨rfl, hb2⟩
   first | exact ⟨rfl, hb2⟩ | exact ⟨_, rfl, hb2, trivial, rfl⟩
  refine val_cons ?_ (fun v2 => ?_)
  ·intro L vs w1 hvs hat hb hI hF; try simp [factsI, Region.binds, Is] at hF
   have D := HB.out.2.1.grow (show Below _ _ _ from hb); have cD := D.cell; have lD := D.lt; clear D
   go_simp
   first | exact Grows.refl _ | exact ⟨Grows.refl _, trivial⟩
  refine val_cons ?_ (fun v3 => ?_)
  ·intro L vs w1 hvs hat hb hI hF; try simp [factsI, Region.binds, Is] at hF
   have hb0 := hb
   go_simp
   refine (HCb.out _).mono ?_
   rintro e w2 ⟨rfl, hb2⟩
   first | exact ⟨rfl, hb2⟩ | exact ⟨_, rfl, hb2, trivial, rfl⟩
  refine val_cons ?_ (fun v4 => ?_)
  ·intro L vs w1 hvs hat hb hI hF; try simp [factsI, Region.binds, Is] at hF
   have hc := (Grows.cells hb).1
   clear hI
   go_simp
   try simp [upd]
   try first | exact Grows.refl _ | exact trivial | exact ⟨Grows.refl _, trivial⟩
  refine val_cons ?_ (fun v5 => ?_)
  ·intro L vs w1 hvs hat hb hI hF; try simp [factsI, Region.binds, Is] at hF
   have hc := (Grows.cells hb).1
   clear hI
   go_simp
   try simp [upd]
   try first | exact Grows.refl _ | exact trivial | exact ⟨Grows.refl _, trivial⟩
  refine val_cons ?_ (fun v6 => ?_)
  ·intro L vs w1 hvs hat hb hI hF; try simp [factsI, Region.binds, Is] at hF
   have D := HB.out.1.grow (show Below _ _ _ from hb); have cD := D.cell; have lD := D.lt; clear D
   go_simp
   first | exact Grows.refl _ | exact ⟨Grows.refl _, trivial⟩
  refine val_cons ?_ (fun v7 => ?_)
  ·intro L vs w1 hvs hat hb hI hF; try simp [factsI, Region.binds, Is] at hF
   have hb0 := hb
   go_simp
   refine (HKa.out _ (HB.out.2.2.2.grow (show Below _ _ _ from hb0))).mono ?_
   rintro e w2 ⟨rfl, hb2⟩
   first | exact ⟨rfl, hb2⟩ | exact ⟨_, rfl, hb2, trivial, rfl⟩
  refine val_cons ?_ (fun v8 => ?_)
  ·intro L vs w1 hvs hat hb hI hF; try simp [factsI, Region.binds, Is] at hF
   have D := HB.out.2.1.grow (show Below _ _ _ from hb); have cD := D.cell; have lD := D.lt; clear D
   go_simp
   first | exact Grows.refl _ | exact ⟨Grows.refl _, trivial⟩
  refine val_cons ?_ (fun v9 => ?_)
  ·intro L vs w1 hvs hat hb hI hF; try simp [factsI, Region.binds, Is] at hF
   have hb0 := hb
   go_simp
   refine (HKb.out _ (HB.out.2.2.2.grow (show Below _ _ _ from hb0))).mono ?_
   rintro e w2 ⟨rfl, hb2⟩
   first | exact ⟨rfl, hb2⟩ | exact ⟨_, rfl, hb2, trivial, rfl⟩
  refine val_cons ?_ (fun v10 => ?_)
  ·intro L vs w1 hvs hat hb hI hF; try simp [factsI, Region.binds, Is] at hF
   have hc := (Grows.cells hb).1
   clear hI
   go_simp
   try simp [upd]
   try first | exact Grows.refl _ | exact trivial | exact ⟨Grows.refl _, trivial⟩
  refine val_cons ?_ (fun v11 => ?_)
  ·intro L vs w1 hvs hat hb hI hF; try simp [factsI, Region.binds, Is] at hF
   have hc := (Grows.cells hb).1
   clear hI
   go_simp
   try simp [upd]
   try first | exact Grows.refl _ | exact trivial | exact ⟨Grows.refl _, trivial⟩
  refine val_cons ?_ (fun v12 => ?_)
  ·intro L vs w1 hvs hat hb hI hF; try simp [factsI, Region.binds, Is] at hF
   have hc := (Grows.cells hb).1
   clear hI
   go_simp
   try simp [upd]
   try first | exact Grows.refl _ | exact trivial | exact ⟨Grows.refl _, trivial⟩
  refine val_nil ?_
  intro vs w1 hvs hb hI hF
  simp [Is, Nat.forall_lt_succ_right] at hF
  simp only [Act.put, List.setIfInBounds_toArray, List.set_cons_succ, List.set_cons_zero, hF]
  clear hF
  have hbw := bel_trans HB.out.2.2.1 hb
  go_wp2_with fail
  go_ret
  exact ⟨ret_bool (by rw [HR.out]; simp), hbw⟩
 ·have hq : ((n : Int) == (m : Int)) = false := by rw [beq_eq_false_iff_ne]; omega
  have hq2 : (n == m) = false := by rw [beq_eq_false_iff_ne]; exact hnm
  have HQ := Lib.hid hq
  have HR2 : Hid (R = false) := Lib.hid (by rw [HR.out, hq2]; rfl)
  clear hnm hq2 hq HR
  refine wp_region_val Grows (fun _ _ _ => True) [Is (solV a), Is (.int .i64 (n : Int)), Is (solV b), Is (.int .i64 (m : Int)), Is (.bool false), Is (.bool false), Is undef, Is undef, Is undef, Is undef, Is undef, Is (.bool false), Is (.bool false)] (by kernel_rfl) (by kernel_rfl) rfl Grows.refl (fun _ _ _ => Grows.trans) (stable_mem ⟨fun _ _ _ h _ => h, fun _ _ _ h _ => h, fun _ _ _ h _ => h, fun _ _ _ h _ => h, fun _ _ _ h _ => h, fun _ _ _ h _ => h, fun _ _ _ h _ => h, fun _ _ _ h _ => h, fun _ _ _ h _ => h, fun _ _ _ h _ => h, fun _ _ _ h _ => h, fun _ _ _ h _ => h, fun _ _ _ h _ => h, trivial⟩) W0 (Below.drew (Below.refl _ _)) trivial ?_
  refine val_cons ?_ (fun v0 => ?_)
  ·intro L vs w1 hvs hat hb hI hF; try simp [factsI, Region.binds, Is] at hF
   have D := HB.out.1.grow (show Below _ _ _ from hb); have cD := D.cell; have lD := D.lt; clear D
   go_simp
   first | exact Grows.refl _ | exact ⟨Grows.refl _, trivial⟩
  refine val_cons ?_ (fun v1 => ?_)
  ·intro L vs w1 hvs hat hb hI hF; try simp [factsI, Region.binds, Is] at hF
   have hb0 := hb
   go_simp
   refine (HCa.out _).mono ?_
   rintro e w2 ⟨rfl, hb2⟩
   first | exact ⟨rfl, hb2⟩ | exact ⟨_, rfl, hb2, trivial, rfl⟩
  refine val_cons ?_ (fun v2 => ?_)
  ·intro L vs w1 hvs hat hb hI hF; try simp [factsI, Region.binds, Is] at hF
   have D := HB.out.2.1.grow (show Below _ _ _ from hb); have cD := D.cell; have lD := D.lt; clear D
   go_simp
   first | exact Grows.refl _ | exact ⟨Grows.refl _, trivial⟩
  refine val_cons ?_ (fun v3 => ?_)
  ·intro L vs w1 hvs hat hb hI hF; try simp [factsI, Region.binds, Is] at hF
   have hb0 := hb
   go_simp
   refine (HCb.out _).mono ?_
   rintro e w2 ⟨rfl, hb2⟩
   first | exact ⟨rfl, hb2⟩ | exact ⟨_, rfl, hb2, trivial, rfl⟩
  refine val_cons ?_ (fun v4 => ?_)
  ·intro L vs w1 hvs hat hb hI hF; try simp [factsI, Region.binds, Is] at hF
   have hq := HQ.out
   go_simp
   first | exact Grows.refl _ | exact ⟨Grows.refl _, trivial⟩
  refine val_cons ?_ (fun v5 => ?_)
  ·intro L vs w1 hvs hat hb hI hF; try simp [factsI, Region.binds, Is] at hF
   have hc := (Grows.cells hb).1
   clear hI
   go_simp
   try simp [upd]
   try first | exact Grows.refl _ | exact trivial | exact ⟨Grows.refl _, trivial⟩
  refine val_cons ?_ (fun v6 => ?_)
  ·intro L vs w1 hvs hat hb hI hF; try simp [factsI, Region.binds, Is] at hF
   have hc := (Grows.cells hb).1
   clear hI
   go_simp
   try simp [upd]
   try first | exact Grows.refl _ | exact trivial | exact ⟨Grows.refl _, trivial⟩
  refine val_cons ?_ (fun v7 => ?_)
  ·intro L vs w1 hvs hat hb hI hF; try simp [factsI, Region.binds, Is] at hF
   have hc := (Grows.cells hb).1
   clear hI
   go_simp
   try simp [upd]
   try first | exact Grows.refl _ | exact trivial | exact ⟨Grows.refl _, trivial⟩
  refine val_cons ?_ (fun v8 => ?_)
  ·intro L vs w1 hvs hat hb hI hF; try simp [factsI, Region.binds, Is] at hF
   have hc := (Grows.cells hb).1
   clear hI
   go_simp
   try simp [upd]
   try first | exact Grows.refl _ | exact trivial | exact ⟨Grows.refl _, trivial⟩
  refine val_cons ?_ (fun v9 => ?_)
  ·intro L vs w1 hvs hat hb hI hF; try simp [factsI, Region.binds, Is] at hF
   have hc := (Grows.cells hb).1
   clear hI
   go_simp
   try simp [upd]
   try first | exact Grows.refl _ | exact trivial | exact ⟨Grows.refl _, trivial⟩
  refine val_cons ?_ (fun v10 => ?_)
  ·intro L vs w1 hvs hat hb hI hF; try simp [factsI, Region.binds, Is] at hF
   have hc := (Grows.cells hb).1
   clear hI
   go_simp
   try simp [upd]
   try first | exact Grows.refl _ | exact trivial | exact ⟨Grows.refl _, trivial⟩
  refine val_cons ?_ (fun v11 => ?_)
  ·intro L vs w1 hvs hat hb hI hF; try simp [factsI, Region.binds, Is] at hF
   have hc := (Grows.cells hb).1
   clear hI
   go_simp
   try simp [upd]
   try first | exact Grows.refl _ | exact trivial | exact ⟨Grows.refl _, trivial⟩
  refine val_cons ?_ (fun v12 => ?_)
  ·intro L vs w1 hvs hat hb hI hF; try simp [factsI, Region.binds, Is] at hF
   have hc := (Grows.cells hb).1
   clear hI
   go_simp
   try simp [upd]
   try first | exact Grows.refl _ | exact trivial | exact ⟨Grows.refl _, trivial⟩
  refine val_nil ?_
  intro vs w1 hvs hb hI hF
  simp [Is, Nat.forall_lt_succ_right] at hF
  simp only [Act.put, List.setIfInBounds_toArray, List.set_cons_succ, List.set_cons_zero, hF]
  clear hF
  have hbw := bel_trans HB.out.2.2.1 hb
  go_wp2_with fail
  go_ret
  exact ⟨ret_bool (by rw [HR2.out]), hbw⟩
end Go.Proofs.YtkfimbonmnoglaaGreatDoor
end
