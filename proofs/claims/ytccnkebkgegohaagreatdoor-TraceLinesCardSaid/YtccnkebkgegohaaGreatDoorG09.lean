import Derived.Test.YtccnkebkgegohaaGreatDoorG08
import Derived.RangeFuncNested
import Derived.RangeFuncBound
import Derived.RangeFuncCalls
import Derived.RangeFuncLeaves
import Derived.Shelf.Abstract
import Derived.Shelf.RegionOpen
import Derived.OwnWalkIn
import Derived.TacticsInMore
import Derived.LoopNIn
import Derived.LoopIn
import Derived.Maps.AppendAt
/-
  Given contracts of functions of the program, and laws for them, one behind the other.
-/
set_option linter.unusedVariables false
set_option linter.unusedSimpArgs false
set_option linter.unusedSectionVars false
section
namespace Go.Proofs.YtccnkebkgegohaaGreatDoor
open Go.RowKit Go.Rel
set_option maxRecDepth 100000
set_option maxHeartbeats 2000000 in
theorem IndexFunc159 (v : Value) (l : List Int) (c0 c1 : Value) (p : Int → Bool) (w : World) (h : SlI w v l)
  (hf : ∀ w', Below w.heap.size w w' → ∀ x ∈ l, Calls Tryz.prog 159 #[.int .i64 x, c0, c1] w' fun e w'' => e = .returned (.bool (p x)) ∧ Below w'.heap.size w' w'') :
  Calls Tryz.prog 160 #[v, .func (.func 159) #[] #[c0, c1]] w fun e w' => e = .returned (.int .i64 (idx p l)) ∧ Below w.heap.size w w' := by
 rcases h.cases with ⟨hl, a, c, rfl, hm⟩ | ⟨b, off, c, rfl, hc, hm, hpos, hcs⟩
 ·have hl' : l = [] := by simpa using hl
  subst hl'
  clear hl
  go_enter Tryz.func160, Tryz.ntmps160
  go_wp2
  refine wp_loop_rounds 1 ?_
  rw [rounds_succ]
  go_wp2
  go_ret
  exact ⟨rfl, Below.refl _ _⟩
 ·rw [List.length_map] at hc hpos ⊢
  have H := Lib.hid hcs; clear hcs h
  have HF := Lib.hid hf; clear hf
  generalize hn : l.length = n at hc hpos ⊢
  have HN := Lib.hid hn; clear hn
  go_enter Tryz.func160, Tryz.ntmps160
  go_wp2_with fail
  go_loopw [8] (fun i wr => ∃ k : Nat, k ≤ n ∧ i = .int .i64 k ∧ Hid (∀ (j : Nat) (y : Int), j < k → l[j]? = some y → p y = false) ∧ Below w.heap.size w wr) (fun i _ => n - (intOf i).toNat)
  case atStart => exact ⟨0, Nat.zero_le _, rfl, fun j y hj => by omega, Below.refl _ _⟩
  case round =>
   obtain ⟨k, hk, rfl, HP, hbel⟩ := hrel
   by_cases hlt : k < n
   ·have hx : l[k]? = some (l[k]'(by rw [HN.out]; exact hlt)) := by simp
    have c0 := int_cell (H.out.mono hbel H.out.1) hx
    have hmem := List.mem_of_getElem? hx
    generalize l[k]'(by rw [HN.out]; exact hlt) = x at hx c0 hmem
    have HX := Lib.hid hx; clear hx
    have HM := Lib.hid hmem; clear hmem
    have hsz := hbel.size
    go_wp2_with fail
    refine (HF.out _ hbel x HM.out).mono ?_
    rintro e w2 ⟨rfl, hb2⟩
    have hB : Below w.heap.size w w2 := bel_trans hbel hb2
    clear hb2
    cases hp : p x with
    | true =>
     go_wp2_with fail
     go_ret
     exact ⟨ret_int (idx_found HX.out hp HP.out).symm, hB⟩
    | false =>
     go_wp2_with fail
     go_roundw
     case rel => exact ⟨k + 1, by omega, by go_num, fun j y hj hy => (by
      rcases Nat.lt_or_eq_of_le (Nat.le_of_lt_succ hj) with h | h
      ·exact HP.out j y h hy
      ·subst h; rw [HX.out] at hy; cases hy; exact hp), hB⟩
     case measure => simp [intOf]; omega
   ·go_wp2_with fail
    go_ret
    exact ⟨ret_int (idx_none (fun j y hy => HP.out j y (by have := (List.getElem?_eq_some_iff.1 hy).1; rw [HN.out] at this; omega) hy)).symm, hbel⟩
set_option maxHeartbeats 2000000 in
theorem ContainsFunc159 (v : Value) (l : List Int) (c0 c1 : Value) (p : Int → Bool) (w : World) (h : SlI w v l)
  (hf : ∀ w', Below w.heap.size w w' → ∀ x ∈ l, Calls Tryz.prog 159 #[.int .i64 x, c0, c1] w' fun e w'' => e = .returned (.bool (p x)) ∧ Below w'.heap.size w' w'') :
  Calls Tryz.prog 158 #[v, .func (.func 159) #[] #[c0, c1]] w fun e w' => e = .returned (.bool (l.any p)) ∧ Below w.heap.size w w' := by
 have hge := idx_ge p l
 have hany : Hid (l.any p = decide (0 ≤ idx p l)) := by
  show _ = _
  rw [Bool.eq_iff_iff, decide_eq_true_eq, idx_nonneg]
 have hidx := Lib.hid (IndexFunc159 v l c0 c1 p w h hf)
 generalize idx p l = i at hge hany hidx
 clear hf h
 go_enter Tryz.func158, Tryz.ntmps158
 go_wp2_with fail
 refine hidx.out.mono ?_
 rintro e w1 ⟨rfl, hb⟩
 go_wp2_with fail
 go_ret
 refine ⟨?_, hb⟩
 rw [hany.out]; rfl
set_option maxHeartbeats 2000000 in
theorem IndexFunc149 (v : Value) (l : List Int) (c0 : Value) (p : Int → Bool) (w : World) (h : SlI w v l)
  (hf : ∀ w', Below w.heap.size w w' → ∀ x ∈ l, Calls Tryz.prog 149 #[.int .i64 x, c0] w' fun e w'' => e = .returned (.bool (p x)) ∧ Below w'.heap.size w' w'') :
  Calls Tryz.prog 160 #[v, .func (.func 149) #[] #[c0]] w fun e w' => e = .returned (.int .i64 (idx p l)) ∧ Below w.heap.size w w' := by
 rcases h.cases with ⟨hl, a, c, rfl, hm⟩ | ⟨b, off, c, rfl, hc, hm, hpos, hcs⟩
 ·have hl' : l = [] := by simpa using hl
  subst hl'
  clear hl
  go_enter Tryz.func160, Tryz.ntmps160
  go_wp2
  refine wp_loop_rounds 1 ?_
  rw [rounds_succ]
  go_wp2
  go_ret
  exact ⟨rfl, Below.refl _ _⟩
 ·rw [List.length_map] at hc hpos ⊢
  have H := Lib.hid hcs; clear hcs h
  have HF := Lib.hid hf; clear hf
  generalize hn : l.length = n at hc hpos ⊢
  have HN := Lib.hid hn; clear hn
  go_enter Tryz.func160, Tryz.ntmps160
  go_wp2_with fail
  go_loopw [8] (fun i wr => ∃ k : Nat, k ≤ n ∧ i = .int .i64 k ∧ Hid (∀ (j : Nat) (y : Int), j < k → l[j]? = some y → p y = false) ∧ Below w.heap.size w wr) (fun i _ => n - (intOf i).toNat)
  case atStart => exact ⟨0, Nat.zero_le _, rfl, fun j y hj => by omega, Below.refl _ _⟩
  case round =>
   obtain ⟨k, hk, rfl, HP, hbel⟩ := hrel
   by_cases hlt : k < n
   ·have hx : l[k]? = some (l[k]'(by rw [HN.out]; exact hlt)) := by simp
    have c0 := int_cell (H.out.mono hbel H.out.1) hx
    have hmem := List.mem_of_getElem? hx
    generalize l[k]'(by rw [HN.out]; exact hlt) = x at hx c0 hmem
    have HX := Lib.hid hx; clear hx
    have HM := Lib.hid hmem; clear hmem
    have hsz := hbel.size
    go_wp2_with fail
    refine (HF.out _ hbel x HM.out).mono ?_
    rintro e w2 ⟨rfl, hb2⟩
    have hB : Below w.heap.size w w2 := bel_trans hbel hb2
    clear hb2
    cases hp : p x with
    | true =>
     go_wp2_with fail
     go_ret
     exact ⟨ret_int (idx_found HX.out hp HP.out).symm, hB⟩
    | false =>
     go_wp2_with fail
     go_roundw
     case rel => exact ⟨k + 1, by omega, by go_num, fun j y hj hy => (by
      rcases Nat.lt_or_eq_of_le (Nat.le_of_lt_succ hj) with h | h
      ·exact HP.out j y h hy
      ·subst h; rw [HX.out] at hy; cases hy; exact hp), hB⟩
     case measure => simp [intOf]; omega
   ·go_wp2_with fail
    go_ret
    exact ⟨ret_int (idx_none (fun j y hy => HP.out j y (by have := (List.getElem?_eq_some_iff.1 hy).1; rw [HN.out] at this; omega) hy)).symm, hbel⟩
set_option maxHeartbeats 2000000 in
theorem IndexFunc114 (v : Value) (l : List Int) (c0 : Value) (p : Int → Bool) (w : World) (h : SlI w v l)
  (hf : ∀ w', Below w.heap.size w w' → ∀ x ∈ l, Calls Tryz.prog 114 #[.int .i64 x, c0] w' fun e w'' => e = .returned (.bool (p x)) ∧ Below w'.heap.size w' w'') :
  Calls Tryz.prog 160 #[v, .func (.func 114) #[] #[c0]] w fun e w' => e = .returned (.int .i64 (idx p l)) ∧ Below w.heap.size w w' := by
 rcases h.cases with ⟨hl, a, c, rfl, hm⟩ | ⟨b, off, c, rfl, hc, hm, hpos, hcs⟩
 ·have hl' : l = [] := by simpa using hl
  subst hl'
  clear hl
  go_enter Tryz.func160, Tryz.ntmps160
  go_wp2
  refine wp_loop_rounds 1 ?_
  rw [rounds_succ]
  go_wp2
  go_ret
  exact ⟨rfl, Below.refl _ _⟩
 ·rw [List.length_map] at hc hpos ⊢
  have H := Lib.hid hcs; clear hcs h
  have HF := Lib.hid hf; clear hf
  generalize hn : l.length = n at hc hpos ⊢
  have HN := Lib.hid hn; clear hn
  go_enter Tryz.func160, Tryz.ntmps160
  go_wp2_with fail
  go_loopw [8] (fun i wr => ∃ k : Nat, k ≤ n ∧ i = .int .i64 k ∧ Hid (∀ (j : Nat) (y : Int), j < k → l[j]? = some y → p y = false) ∧ Below w.heap.size w wr) (fun i _ => n - (intOf i).toNat)
  case atStart => exact ⟨0, Nat.zero_le _, rfl, fun j y hj => by omega, Below.refl _ _⟩
  case round =>
   obtain ⟨k, hk, rfl, HP, hbel⟩ := hrel
   by_cases hlt : k < n
   ·have hx : l[k]? = some (l[k]'(by rw [HN.out]; exact hlt)) := by simp
    have c0 := int_cell (H.out.mono hbel H.out.1) hx
    have hmem := List.mem_of_getElem? hx
    generalize l[k]'(by rw [HN.out]; exact hlt) = x at hx c0 hmem
    have HX := Lib.hid hx; clear hx
    have HM := Lib.hid hmem; clear hmem
    have hsz := hbel.size
    go_wp2_with fail
    refine (HF.out _ hbel x HM.out).mono ?_
    rintro e w2 ⟨rfl, hb2⟩
    have hB : Below w.heap.size w w2 := bel_trans hbel hb2
    clear hb2
    cases hp : p x with
    | true =>
     go_wp2_with fail
     go_ret
     exact ⟨ret_int (idx_found HX.out hp HP.out).symm, hB⟩
    | false =>
     go_wp2_with fail
     go_roundw
     case rel => exact ⟨k + 1, by omega, by go_num, fun j y hj hy => (by
      rcases Nat.lt_or_eq_of_le (Nat.le_of_lt_succ hj) with h | h
      ·exact HP.out j y h hy
      ·subst h; rw [HX.out] at hy; cases hy; exact hp), hB⟩
     case measure => simp [intOf]; omega
   ·go_wp2_with fail
    go_ret
    exact ⟨ret_int (idx_none (fun j y hy => HP.out j y (by have := (List.getElem?_eq_some_iff.1 hy).1; rw [HN.out] at this; omega) hy)).symm, hbel⟩
end Go.Proofs.YtccnkebkgegohaaGreatDoor
end
section
namespace Go.Proofs.YtccnkebkgegohaaGreatDoor
open Go.RowKit Go.Rel
set_option maxRecDepth 100000
theorem PastAt.opn {bp : Nat} {blank : Sol} {v av : Value} {l : List Sol} {acts : List Ac} {s : Stn} {W : World} (H : PastAt bp blank v av l acts s W) (hpos : 0 < acts.length) :
  ∃ g c, Blk W bp (pastC blank v av (.slice (some ⟨g, 0, none⟩) acts.length c) s.1 s.2) 113 ∧ acts.length ≤ c ∧ c ≤ 9223372036854775807 ∧ g < W.heap.size ∧ ∀ (j : Nat) (a : Ac), acts[j]? = some a → W.cell? ⟨g, j, none⟩ = some (deedV (made l a)) := by
 obtain ⟨dv, h1, h2⟩ := H.past
 rcases h2.2 with ⟨_, h0⟩ | ⟨g, cap, cur, rfl, _, hg, hnc, hcm, hcs, htake⟩
 ·omega
 ·refine ⟨g, cap, h1, hnc, by unfold maxLen at hcm; omega, (Array.getElem?_eq_some_iff.1 hg).1, fun j a hj => ?_⟩
  rw [cell_of_row W g j cur 122 (0, 0) hg]
  have hjl : j < acts.length := (List.getElem?_eq_some_iff.1 hj).1
  have : (deedCs l acts)[j]? = some (deedV (made l a)) := by simp [deedCs, hj]
  rw [← htake, List.getElem?_take] at this
  rw [if_pos (by omega)] at this
  simpa using this
/-- the cells of the acts -/
def cellsOf (l : List Sol) (acts : List Ac) : List Sol := acts.map (acCells l)
/-- whether two acts, by their indices, are not independent -/
def depN (cs : List Sol) (j i : Nat) : Bool := meetsB (cs.getD j 0) (cs.getD i 0)
def depI (cs : List Sol) (j i : Int) : Bool := depN cs j.toNat i.toNat
set_option maxHeartbeats 4000000 in
theorem free11 {bp : Nat} {blank : Sol} {v av : Value} {l : List Sol} {acts : List Ac} {s : Stn} (w : World) (HP : PastAt bp blank v av l acts s w) (bt bi : Nat) (hbt : w.cell? ⟨bt, 0, none⟩ = some (.pointer (some ⟨bp, 0, none⟩))) (j i : Nat) (hbi : w.cell? ⟨bi, 0, none⟩ = some (.int .i64 i)) (hj : j < acts.length) (hi : i < acts.length) :
  Calls Tryz.prog 159 #[.int .i64 j, .pointer (some ⟨bt, 0, none⟩), .pointer (some ⟨bi, 0, none⟩)] w fun e w' => e = .returned (.bool (depN (cellsOf l acts) j i)) ∧ Below w.heap.size w w' := by
 obtain ⟨g, c, hpast, hc, hm, hg, hd⟩ := HP.opn (by omega)
 have hj' : acts[j]? = some acts[j] := by simp [hj]
 have hi' : acts[i]? = some acts[i] := by simp [hi]
 have cj := hd j _ hj'
 have ci := hd i _ hi'
 have H := independent_spec (made l acts[j]) (made l acts[i])
 have hr : Hid (depN (cellsOf l acts) j i = meetsB (made l acts[j]).2.2 (made l acts[i]).2.2) := by
  show _ = _
  simp [depN, cellsOf, hj, hi, made]
 generalize meetsB (made l acts[j]).2.2 (made l acts[i]).2.2 = r at H hr
 generalize deedV (made l acts[j]) = dj at cj H
 generalize deedV (made l acts[i]) = di at ci H
 have HH := Lib.hid H; clear H
 clear hd hj' hi' HP
 generalize acts.length = n at *
 have cp := hpast.cell
 have lp := hpast.lt
 have lbt : bt < w.heap.size := block_lt_of_cell hbt
 have lbi : bi < w.heap.size := block_lt_of_cell hbi
 clear hpast
 go_enter Tryz.func159, Tryz.ntmps159
 go_wp2_with fail
 refine wp_region_grow 16 [Is (.pointer (some ⟨bp, 0, none⟩)), Is (.pointer (some ⟨bp, 0, none⟩)), Is (.pointer (some ⟨bp, 10, none⟩)), Is (.slice (some ⟨g, 0, none⟩) n c), Is (.int .i64 j), Is (.pointer (some ⟨g, j, none⟩)), Is dj, Is (.pointer (some ⟨bp, 0, none⟩)), Is (.pointer (some ⟨bp, 0, none⟩)), Is (.pointer (some ⟨bp, 10, none⟩)), Is (.slice (some ⟨g, 0, none⟩) n c), Is (.int .i64 i), Is (.pointer (some ⟨g, i, none⟩)), Is di, Is (.bool (!r)), Is (.bool r)] (by kernel_rfl) (by kernel_rfl) rfl ⟨fun _ _ _ h _ => h, fun _ _ _ h _ => h, fun _ _ _ h _ => h, fun _ _ _ h _ => h, fun _ _ _ h _ => h, fun _ _ _ h _ => h, fun _ _ _ h _ => h, fun _ _ _ h _ => h, fun _ _ _ h _ => h, fun _ _ _ h _ => h, fun _ _ _ h _ => h, fun _ _ _ h _ => h, fun _ _ _ h _ => h, fun _ _ _ h _ => h, fun _ _ _ h _ => h, fun _ _ _ h _ => h, trivial⟩ ?_
 simp only [List.take_succ_cons, List.take_zero, List.drop_succ_cons, List.drop_zero]
 iterate 14 (refine rel_cons ?_ (fun _ => ?_); · intro w1 hb hF; have hc := (Grows.cells hb).1; have hf := (Grows.cells hb).2; (try simp [facts, Is] at hF); go_simp; exact Grows.refl _)
 refine rel_cons ?_ (fun v14 => ?_)
 ·intro w1 hb hF; have hc := (Grows.cells hb).1; have hf := (Grows.cells hb).2; try simp [facts, Is] at hF
  go_simp
  refine (HH.out _).mono ?_
  rintro e w4 ⟨rfl, hb4⟩
  exact ⟨rfl, hb4⟩
 refine rel_cons ?_ (fun v15 => ?_)
 ·intro w1 hb hF; have hc := (Grows.cells hb).1; have hf := (Grows.cells hb).2; try simp [facts, Is] at hF
  go_simp
  exact Grows.refl _
 refine rel_nil ?_
 intro w1 hb hF
 simp [Is, Nat.forall_lt_succ_right] at hF
 simp only [Act.put, List.setIfInBounds_toArray, List.set_cons_succ, List.set_cons_zero, hF]
 clear hF
 go_wp2_with fail
 go_ret
 exact ⟨ret_bool hr.out.symm, hb⟩
end Go.Proofs.YtccnkebkgegohaaGreatDoor
end
section
namespace Go.Proofs.YtccnkebkgegohaaGreatDoor
open Go.RowKit Go.Rel
set_option maxRecDepth 100000
attribute [local go_sem] Oper.semAt_some
/-- the number of an act -/
abbrev Ix (N : Nat) := { x : Int // 0 ≤ x ∧ x < N }
/-- whether the act at place k of a row can be first -/
def freeAt (dep : Int → Int → Bool) (left : List Int) (k : Nat) : Bool := !((left.take k).any fun j => dep j (left.getD k 0))
/-- of the first k acts of a row those that can be first -/
def freeUpto (dep : Int → Int → Bool) (left : List Int) : Nat → List Int
 | 0 => []
 | k + 1 => if freeAt dep left k then freeUpto dep left k ++ [left.getD k 0] else freeUpto dep left k
theorem freeUpto_length (dep : Int → Int → Bool) (left : List Int) : ∀ k, (freeUpto dep left k).length ≤ k
 | 0 => Nat.le_refl _
 | k + 1 => by
  have := freeUpto_length dep left k
  unfold freeUpto
  split
  ·simp; omega
  ·omega
theorem PastAt.mono {bp : Nat} {blank : Sol} {v av : Value} {l : List Sol} {acts : List Ac} {s : Stn} {W W' : World} (H : PastAt bp blank v av l acts s W) (hb : Below W.heap.size W W') : PastAt bp blank v av l acts s W' := H.grow hb
theorem abides {β : Type} {B : Nat} {J : β → World → Prop} (hJ : AbidesFrom B J) {s : β} {W W' : World} (h : J s W) (hb : Below W.heap.size W W') : J s W' :=
 hJ s W W' none h ⟨hb.os, hb.tape, hb.output, hb.size, fun k hk _ => hb.block k hk⟩ (fun r e => by cases e)
theorem free11' {bp : Nat} {blank : Sol} {v av : Value} {l : List Sol} {acts : List Ac} {s : Stn} (w : World) (HP : PastAt bp blank v av l acts s w) (bt bi : Nat) (hbt : w.cell? ⟨bt, 0, none⟩ = some (.pointer (some ⟨bp, 0, none⟩))) (y x : Int) (hbi : w.cell? ⟨bi, 0, none⟩ = some (.int .i64 x)) (hy : 0 ≤ y ∧ y < acts.length) (hx : 0 ≤ x ∧ x < acts.length) :
  Calls Tryz.prog 159 #[.int .i64 y, .pointer (some ⟨bt, 0, none⟩), .pointer (some ⟨bi, 0, none⟩)] w fun e w' => e = .returned (.bool (depI (cellsOf l acts) y x)) ∧ Below w.heap.size w w' := by
 have e1 : ((y.toNat : Nat) : Int) = y := by omega
 have e2 : ((x.toNat : Nat) : Int) = x := by omega
 have := free11 w HP bt bi hbt y.toNat x.toNat (by rw [e2]; exact hbi) (by omega) (by omega)
 rw [e1] at this
 exact this
theorem Cells.take {w : World} {b off size : Nat} {ls : List (List Value)} (h : Cells w b off size ls) (k : Nat) : Cells w b off size (ls.take k) :=
 ⟨h.1, fun i j u hu => h.2 i j u (by
  rw [List.getElem?_take] at hu
  split at hu
  ·exact hu
  ·simp at hu)⟩
theorem freeUpto_yes {dep : Int → Int → Bool} {left : List Int} {k : Nat} {x : Int} (hx : left[k]? = some x) (h : ((left.take k).any fun j => dep j x) = false) : freeUpto dep left (k + 1) = freeUpto dep left k ++ [x] := by
 have e : left.getD k 0 = x := by simp [hx]
 rw [freeUpto, freeAt, e, h]; rfl
theorem freeUpto_no {dep : Int → Int → Bool} {left : List Int} {k : Nat} {x : Int} (hx : left[k]? = some x) (h : ((left.take k).any fun j => dep j x) = true) : freeUpto dep left (k + 1) = freeUpto dep left k := by
 have e : left.getD k 0 = x := by simp [hx]
 rw [freeUpto, freeAt, e, h]; rfl
set_option maxHeartbeats 4000000 in
theorem free1_in {bp : Nat} {blank : Sol} {v av : Value} {l : List Sol} {acts : List Ac} {s : Stn} (n : Nat) (hn : 1 ≤ n) (lp : Nat) (w0 : World) (HP : PastAt bp blank v av l acts s w0) (bl bt b off c : Nat) (left : List Int)
  (hbl : w0.cell? ⟨bl, 0, none⟩ = some (.slice (some ⟨b, off, none⟩) left.length c)) (hbt : w0.cell? ⟨bt, 0, none⟩ = some (.pointer (some ⟨bp, 0, none⟩))) (Hc : Cells w0 b off 1 (left.map intL)) (hc : left.length ≤ c) (hcm : c ≤ 9223372036854775807) (hleft : ∀ x ∈ left, 0 ≤ x ∧ x < acts.length)
  (J Jx : List (Ix acts.length) → World → Prop) (W : World) (hW : Below w0.heap.size w0 W) (hJ : AbidesFrom W.heap.size J)
  (hY : ∀ (pre : List (Ix acts.length)) (x : Ix acts.length) W1, J pre W1 → pre.length < left.length → YieldAt Fence.wide (n - 1) Tryz.prog lp #[.int .i64 x.1] W1 fun e W' =>
   (e = .returned (.bool true) ∧ J (pre ++ [x]) W' ∧ Below w0.heap.size W1 W') ∨ (e = .returned (.bool false) ∧ Jx (pre ++ [x]) W')) (h0 : J [] W) :
  CallsIn Fence.wide n Tryz.prog 157 #[.func (.yield lp) #[] #[], .pointer (some ⟨bl, 0, none⟩), .pointer (some ⟨bt, 0, none⟩)] W fun e W' => (∃ u, e = .returned u) ∧
   ((∃ xs : List (Ix acts.length), xs.map (·.1) = freeUpto (depI (cellsOf l acts)) left left.length ∧ J xs W') ∨ (∃ pre : List (Ix acts.length), (∃ k, k ≤ left.length ∧ pre.map (·.1) = freeUpto (depI (cellsOf l acts)) left k) ∧ Jx pre W')) := by
 have lbl : bl < w0.heap.size := block_lt_of_cell hbl
 have lbt : bt < w0.heap.size := block_lt_of_cell hbt
 refine callsIn_of_wp Tryz.func157 rfl trivial ?_ rfl
 simp only [Tryz.ntmps157, List.size_toArray, List.length_cons, List.length_nil, Nat.reduceAdd, Nat.reduceSub, Array.replicate_succ, Array.replicate_zero, List.push_toArray, List.append_toArray, List.nil_append, List.cons_append]
 have hbl' := (hW.cell (p := ⟨bl, 0, none⟩) lbl).trans hbl
 gi_wp2
 gi_loopw [8] (fun i wr => ∃ k : Nat, ∃ pre : List (Ix acts.length), k ≤ left.length ∧ i = .int .i64 k ∧ pre.map (·.1) = freeUpto (depI (cellsOf l acts)) left k ∧ J pre wr ∧ Below w0.heap.size w0 wr) (fun i _ => left.length - (intOf i).toNat)
 case atStart => exact ⟨0, [], Nat.zero_le _, rfl, rfl, h0, hW⟩
 case round =>
  obtain ⟨k, pre, hk, rfl, hpre, hJs, hbel⟩ := hrel
  by_cases hlt : k < left.length
  ·have hx : left[k]? = some (left[k]'hlt) := by simp [hlt]
   have c0 := int_cell (Hc.mono hbel Hc.1) hx
   have hbl1 := (hbel.cell (p := ⟨bl, 0, none⟩) lbl).trans hbl
   have hsz := hbel.size
   have lb := Hc.1
   have lbl1 : bl < wr.heap.size := by omega
   have lbt1 : bt < wr.heap.size := by omega
   generalize left[k]'hlt = x at hx c0
   have hxr := hleft x (List.mem_of_getElem? hx)
   have hB1 : Below w0.heap.size w0 (wr.alloc (.cells #[.int .i64 x] 3)) := bel_alloc hbel _
   have hsl : SlI (wr.alloc (.cells #[.int .i64 x] 3)) (.slice (some ⟨b, off, none⟩) k c) (left.take k) :=
    ⟨_, c, by rw [List.length_map, List.length_take]; congr 1; omega, by rw [List.length_map, List.length_take]; omega, hcm, .inr ⟨b, off, rfl, by rw [List.map_take]; exact (Hc.mono hB1 Hc.1).take k⟩⟩
   have hcon := ContainsFunc159 _ _ (.pointer (some ⟨bt, 0, none⟩)) (.pointer (some ⟨wr.heap.size, 0, none⟩)) (fun y => depI (cellsOf l acts) y x) _ hsl (fun w' hw' y hy => by
    have hB2 := bel_trans hB1 hw'
    refine free11' w' (HP.mono hB2) bt wr.heap.size ((hB2.cell (p := ⟨bt, 0, none⟩) lbt).trans hbt) y x ?_ (hleft y (List.mem_of_mem_take hy)) hxr
    refine ((hw'.cell (p := ⟨wr.heap.size, 0, none⟩) (by simp)).trans ?_)
    simp [go_sem])
   have HCON := Lib.hid hcon; clear hcon hsl
   generalize hr : ((left.take k).any fun y => depI (cellsOf l acts) y x) = r at HCON
   gi_wp2_with fail
   refine ⟨trivial, (callsIn_wide.2 HCON.out).mono ?_⟩
   rintro e w2 ⟨rfl, hb2⟩
   have hB2 : Below w0.heap.size w0 w2 := bel_trans hB1 hb2
   have hJ2 : J pre w2 := abides hJ (abides hJ hJs (bel_alloc (bel_refl wr) _)) hb2
   have hcell : w2.cell? ⟨wr.heap.size, 0, none⟩ = some (.int .i64 x) := by
    refine ((hb2.cell (p := ⟨wr.heap.size, 0, none⟩) (by simp)).trans ?_)
    simp [go_sem]
   clear HCON
   cases r with
   | true =>
    gi_wp2_with fail
    refine ⟨fun _ h => (by cases h), ?_⟩
    gi_wp2_with fail
    go_roundw
    case rel => exact ⟨k + 1, pre, by omega, by go_num, by rw [freeUpto_no hx hr]; exact hpre, hJ2, hB2⟩
    case measure => simp [intOf]; omega
   | false =>
    have hlen : pre.length < left.length := by
     have := congrArg List.length hpre
     rw [List.length_map] at this
     have h2 := freeUpto_length (depI (cellsOf l acts)) left k
     omega
    obtain ⟨fn, tmps, assign, body, hy, hR⟩ := hY pre ⟨x, hxr⟩ w2 hJ2 hlen
    dsimp only at hy
    gi_wp2_with fail
    refine hR.mono ?_
    have hnew : (pre ++ [(⟨x, hxr⟩ : Ix acts.length)]).map (·.1) = freeUpto (depI (cellsOf l acts)) left (k + 1) := by
     rw [freeUpto_yes hx hr, List.map_append, hpre]; rfl
    rintro e W3 (⟨rfl, hJ3, hk3⟩ | ⟨rfl, hJx3⟩)
    ·gi_wp2_with fail
     go_roundw
     case rel => exact ⟨k + 1, _, by omega, by go_num, hnew, hJ3, hB2.trans hk3⟩
     case measure => simp [intOf]; omega
    ·gi_wp2_with fail
     refine bodyPost_ret (results_none rfl _ _ _) rfl ?_
     exact ⟨⟨_, rfl⟩, .inr ⟨_, ⟨k + 1, by omega, hnew⟩, hJx3⟩⟩
  ·have hkn : k = left.length := by omega
   subst hkn
   gi_wp2
   go_end0
   exact ⟨⟨_, rfl⟩, .inl ⟨_, hpre, hJs⟩⟩
end Go.Proofs.YtccnkebkgegohaaGreatDoor
end
section
namespace Go.Proofs.YtccnkebkgegohaaGreatDoor
open Go.RowKit Go.Rel
set_option maxRecDepth 100000
attribute [local go_sem] Oper.semAt_some
set_option maxHeartbeats 1000000 in
theorem free_nil_in {N : Nat} (n : Nat) (lp : Nat) (bl : Nat) (pt : Value) (a : Option Addr) (c : Nat) (J : List (Ix N) → World → Prop) (W : World) (hbl : W.cell? ⟨bl, 0, none⟩ = some (.slice a 0 c)) (h0 : J [] W) :
  CallsIn Fence.wide n Tryz.prog 157 #[.func (.yield lp) #[] #[], .pointer (some ⟨bl, 0, none⟩), pt] W fun e W' => (∃ u, e = .returned u) ∧ J [] W' := by
 refine callsIn_of_wp Tryz.func157 rfl trivial ?_ rfl
 simp only [Tryz.ntmps157, List.size_toArray, List.length_cons, List.length_nil, Nat.reduceAdd, Nat.reduceSub, Array.replicate_succ, Array.replicate_zero, List.push_toArray, List.append_toArray, List.nil_append, List.cons_append]
 gi_wp2
 gi_loopw [8] (fun i wr => i = .int .i64 0 ∧ J [] wr) (fun _ _ => 0)
 case atStart => exact ⟨rfl, h0⟩
 case round =>
  obtain ⟨rfl, hJs⟩ := hrel
  gi_wp2
  go_end0
  exact ⟨⟨_, rfl⟩, hJs⟩
/-- what free hands back, in the world w0 -/
structure FreeAt (w0 : World) (bp : Nat) (blank : Sol) (v av : Value) (l : List Sol) (acts : List Ac) (s : Stn) (bl bt : Nat) (left : List Int) : Prop where
 past : PastAt bp blank v av l acts s w0
 cl : ∃ u, w0.cell? ⟨bl, 0, none⟩ = some u ∧ SlI w0 u left
 ct : w0.cell? ⟨bt, 0, none⟩ = some (.pointer (some ⟨bp, 0, none⟩))
 hleft : ∀ x ∈ left, 0 ≤ x ∧ x < acts.length
theorem FreeAt.stops {w0 : World} {bp : Nat} {blank : Sol} {v av : Value} {l : List Sol} {acts : List Ac} {s : Stn} {bl bt : Nat} {left : List Int} (H : FreeAt w0 bp blank v av l acts s bl bt left) (n : Nat) (hn : 1 ≤ n) :
  SeqStopsK Fence.wide n Tryz.prog 157 #[.pointer (some ⟨bl, 0, none⟩), .pointer (some ⟨bt, 0, none⟩)] (fun x : Ix acts.length => #[.int .i64 x.1]) (Below w0.heap.size)
   (fun xs => xs.map (·.1) = freeUpto (depI (cellsOf l acts)) left left.length) (fun pre => ∃ k, k ≤ left.length ∧ pre.map (·.1) = freeUpto (depI (cellsOf l acts)) left k) left.length w0 := by
 intro lp J Jx W hW hJ _ hY h0
 obtain ⟨u, hu, hsl⟩ := H.cl
 rcases hsl.cases with ⟨hl, a, c, rfl, hm⟩ | ⟨b, off, c, rfl, hc, hm, hpos, hcs⟩
 ·have hl' : left = [] := by simpa using hl
  subst hl'
  refine (free_nil_in n lp bl (.pointer (some ⟨bt, 0, none⟩)) a c J W ((hW.cell (p := ⟨bl, 0, none⟩) (block_lt_of_cell hu)).trans hu) h0).mono ?_
  rintro e W' ⟨he, hj⟩
  exact ⟨he, .inl ⟨[], rfl, hj⟩⟩
 ·rw [List.length_map] at hc hu
  exact free1_in n hn lp w0 H.past bl bt b off c left hu H.ct hcs hc hm H.hleft J Jx W hW hJ hY h0
set_option maxHeartbeats 1000000 in
theorem free_spec {bp : Nat} {blank : Sol} {v av : Value} {l : List Sol} {acts : List Ac} {s : Stn} (w : World) (HP : PastAt bp blank v av l acts s w) (u : Value) (left : List Int) (Hl : SlI w u left) (hleft : ∀ x ∈ left, 0 ≤ x ∧ x < acts.length) :
  Calls Tryz.prog 111 #[.pointer (some ⟨bp, 0, none⟩), u] w fun e w' => ∃ bl bt, e = .returned (.func (.func 157) #[] #[.pointer (some ⟨bl, 0, none⟩), .pointer (some ⟨bt, 0, none⟩)]) ∧ FreeAt w' bp blank v av l acts s bl bt left ∧ Below w.heap.size w w' := by
 obtain ⟨a, c, rfl, hc, hcm, hcells⟩ := Hl
 have Hl : SlI w (.slice a (left.map intL).length c) left := ⟨a, c, rfl, hc, hcm, hcells⟩
 have HH := Lib.hid (And.intro HP (And.intro Hl hleft)); clear HP Hl hleft hcells
 have hmf' := hmf
 go_enter Tryz.func111, Tryz.ntmps111
 go_wp2_with fail
 go_ret
 have hB : Below w.heap.size w ((w.alloc (.cells #[.pointer (some ⟨bp, 0, none⟩)] 101)).alloc (.cells #[.slice a (left.map intL).length c] 104)) := bel_by
 refine ⟨_, _, rfl, ⟨HH.out.1.grow ?_, ⟨.slice a (left.map intL).length c, ?_, HH.out.2.1.mono ?_⟩, ?_, HH.out.2.2⟩, ?_⟩
 ·simpa using hB
 ·simp [go_sem]
 ·simpa using hB
 ·simp [go_sem]
 ·simpa using hB
end Go.Proofs.YtccnkebkgegohaaGreatDoor
end
section
namespace Go.Proofs.YtccnkebkgegohaaGreatDoor
open Go.RowKit Go.Rel
set_option maxRecDepth 100000
attribute [local go_sem] Oper.semAt_some
set_option maxHeartbeats 2000000 in
theorem AppendSeq_in {w : World} {bp : Nat} {blank : Sol} {v av : Value} {l : List Sol} {acts : List Ac} {s : Stn} {bl bt : Nat} {left : List Int} (H : FreeAt w bp blank v av l acts s bl bt left) (hlen : left.length ≤ 1048576) :
  CallsIn Fence.wide 5 Tryz.prog 156 #[.slice none 0 0, .func (.func 157) #[] #[.pointer (some ⟨bl, 0, none⟩), .pointer (some ⟨bt, 0, none⟩)]] w fun e W' => ∃ u, e = .returned u ∧ OwnI W' w.heap.size u (freeUpto (depI (cellsOf l acts)) left left.length) ∧ Below w.heap.size w W' := by
 obtain ⟨i0, hi, hz0, hz1, hz2⟩ := info_parts info3
 have hst := H.stops 4 (by omega)
 clear H
 refine callsIn_of_wp_marks Tryz.func156 rfl trivial ?_ rfl
 simp only [Tryz.ntmps156, List.size_toArray, List.length_cons, List.length_nil, Nat.reduceAdd, Nat.reduceSub, Array.replicate_succ, Array.replicate_zero, List.push_toArray, List.append_toArray, List.nil_append, List.cons_append]
 gi_wp2_with fail
 have bO := Boxed.new w 66 (.slice none 0 0)
 have hB0 : Below w.heap.size w (w.alloc (.cells #[.slice none 0 0] 66)) := (Below.refl _ w).alloc (Nat.le_refl _) _
 refine wpIn_rangeFunc_ownG rfl (by omega) (gf := 157) (lb := #[.pointer (some ⟨bl, 0, none⟩), .pointer (some ⟨bt, 0, none⟩)]) rfl trivial (enters_of Tryz.func157 (by kernel_rfl) rfl)
  hst belowK_t (belowK_b (by simp)) hB0 (fun _ => rfl)
  (fun pre W => (∃ v, Boxed W w.heap.size 66 v ∧ W.ownsRow w.heap.size 3 1 v pre.length ((pre.map (·.1)).map (Value.int .i64)) ∧ True) ∧ Below w.heap.size w W)
  (fun _ _ _ => False)
  (OwnFrom.and (Own.from (holdsRow_own w.heap.size w.heap.size 66 3 1 (fun (pre : List (Ix acts.length)) => pre.length) (fun pre => (pre.map (·.1)).map (Value.int .i64)) (fun _ _ => True)) _) (ownFrom_below (Nat.le_refl _) (by simp)))
  (fun _ _ _ _ _ hs _ _ => hs)
  ⟨⟨_, bO, World.ownsRow_nil _ _ _ _, trivial⟩, hB0⟩
  (fun x => { tmps := #[.slice none 0 0, .func (.func 157) #[] #[.pointer (some ⟨bl, 0, none⟩), .pointer (some ⟨bt, 0, none⟩)], .pointer (some ⟨w.heap.size, 0, none⟩), undef, .slice none 0 0, .int .i64 x.1, .func (.func 157) #[] #[.pointer (some ⟨bl, 0, none⟩), .pointer (some ⟨bt, 0, none⟩)], .int .i64 x.1, undef, undef, undef, undef, undef], defers := [] }) ?assign ?body ?done ?stop
 case assign =>
  intro lp x W K hK
  gi_wp2_with fail
  exact hK
 case body =>
  rintro lp pre x W ⟨⟨u, hv, hrow, _⟩, hB⟩ hlt
  have hc := hv.cell
  gi_wp2_with (gi_at_builtin; refine wpListIn_append_own _ rfl _ _ 66 rfl w.heap.size 3 i0 (.int .i64 0) 1 8 Tryz.underlying66 hi hz0 hz1 hz2 rfl (by decide) _ _ _ rfl (hrow.alloc _) ⟨W.heap.size, 0, none⟩ 1 1 [.int .i64 x.1] rfl rfl (cell_one_new _ _ _) (by simp [Value.oneCell']) (by unfold maxLen; omega) (by omega) (by have := hB.size; simp; omega) ?_; intro v' w1 hown' hgrow _; obtain ⟨g', cap', rfl⟩ := ownsRow_succ hown'; obtain ⟨hv1, hv2, hr2, hk2, hb2⟩ := hv.appended (by decide) hrow hB.size (Nat.le_refl _) hown' hgrow; have hc1 := hv1.cell; have hf1 := hv1.frozen)
  exact ⟨hk2.from _, hb2, ⟨_, hv2, by simpa using hr2, trivial⟩, hB.trans hb2⟩
 case done =>
  rintro D ys W hD hS ⟨⟨u, hv, hrow, _⟩, hB⟩ hK
  have hc := hv.cell
  have hsz := hB.size
  gi_wp2_with fail
  refine ⟨by simp, .inl ⟨_, _, rfl, run_takeDeferred hK, ?_⟩⟩
  refine ⟨_, results_tmp rfl _ _ _, u, rfl, ?_, hB.trans (belowK_b (w := w) (Nat.le_refl _) W D _ _ (by simp at hD; omega) hK rfl rfl)⟩
  have hh := ownsRow_putObj hrow (.deferred none) hK rfl
  rw [hS] at hh
  unfold OwnI
  rw [← hS, List.length_map, hS]
  exact hh
 case stop =>
  rintro D c pre W _ _ h _
  exact h.elim
set_option maxHeartbeats 1000000 in
theorem Collect_spec {w : World} {bp : Nat} {blank : Sol} {v av : Value} {l : List Sol} {acts : List Ac} {s : Stn} {bl bt : Nat} {left : List Int} (H : FreeAt w bp blank v av l acts s bl bt left) (hlen : left.length ≤ 1048576) :
  Calls Tryz.prog 110 #[.func (.func 157) #[] #[.pointer (some ⟨bl, 0, none⟩), .pointer (some ⟨bt, 0, none⟩)]] w fun e W' => ∃ u, e = .returned u ∧ OwnI W' w.heap.size u (freeUpto (depI (cellsOf l acts)) left left.length) ∧ Below w.heap.size w W' := by
 have HA := Lib.hid (callsIn_wide.1 (AppendSeq_in H hlen))
 clear H
 go_enter Tryz.func110, Tryz.ntmps110
 go_wp2_with fail
 refine HA.out.mono ?_
 rintro e w1 ⟨u, rfl, hO, hB⟩
 have HO := Lib.hid hO; clear hO
 go_wp2_with fail
 go_ret
 exact ⟨_, rfl, HO.out, hB⟩
end Go.Proofs.YtccnkebkgegohaaGreatDoor
end
section
namespace Go.Proofs.YtccnkebkgegohaaGreatDoor
open Go.RowKit Go.Rel
set_option maxRecDepth 100000
def cmpI (a b : Int) : Int := if a < b then -1 else if b < a then 1 else 0
set_option maxHeartbeats 1000000 in
theorem nan202 (a : Int) (w : World) : Calls Tryz.prog 202 #[.int .u8 a] w fun e w' => e = .returned (.bool false) ∧ w' = w := by
 go_enter Tryz.func202, Tryz.ntmps202
 go_wp2_with fail
 go_ret
 exact ⟨ret_bool (by simp), rfl⟩
set_option maxHeartbeats 1000000 in
theorem cmp169 (a b : Int) (w : World) : Calls Tryz.prog 169 #[.int .u8 a, .int .u8 b] w fun e w' => e = .returned (.int .i64 (cmpI a b)) ∧ w' = w := by
 unfold cmpI
 by_cases h1 : a < b
 ·rw [if_pos h1]
  go_enter Tryz.func169, Tryz.ntmps169
  go_wp2_with fail
  refine (nan202 a _).mono ?_
  rintro e w1 ⟨rfl, rfl⟩
  go_wp2_with fail
  refine (nan202 b _).mono ?_
  rintro e w2 ⟨rfl, rfl⟩
  go_wp2_with fail
  go_ret
  exact ⟨rfl, rfl⟩
 ·rw [if_neg h1]
  by_cases h2 : b < a
  ·rw [if_pos h2]
   go_enter Tryz.func169, Tryz.ntmps169
   go_wp2_with fail
   refine (nan202 a _).mono ?_
   rintro e w1 ⟨rfl, rfl⟩
   go_wp2_with fail
   refine (nan202 b _).mono ?_
   rintro e w2 ⟨rfl, rfl⟩
   go_wp2_with fail
   go_ret
   exact ⟨rfl, rfl⟩
  ·rw [if_neg h2]
   go_enter Tryz.func169, Tryz.ntmps169
   go_wp2_with fail
   refine (nan202 a _).mono ?_
   rintro e w1 ⟨rfl, rfl⟩
   go_wp2_with fail
   refine (nan202 b _).mono ?_
   rintro e w2 ⟨rfl, rfl⟩
   go_wp2_with fail
   go_ret
   exact ⟨rfl, rfl⟩
set_option maxHeartbeats 1000000 in
theorem nan203 (a : Int) (w : World) : Calls Tryz.prog 203 #[.int .i64 a] w fun e w' => e = .returned (.bool false) ∧ w' = w := by
 go_enter Tryz.func203, Tryz.ntmps203
 go_wp2_with fail
 go_ret
 exact ⟨ret_bool (by simp), rfl⟩
set_option maxHeartbeats 1000000 in
theorem cmp170 (a b : Int) (w : World) : Calls Tryz.prog 170 #[.int .i64 a, .int .i64 b] w fun e w' => e = .returned (.int .i64 (cmpI a b)) ∧ w' = w := by
 unfold cmpI
 by_cases h1 : a < b
 ·rw [if_pos h1]
  go_enter Tryz.func170, Tryz.ntmps170
  go_wp2_with fail
  refine (nan203 a _).mono ?_
  rintro e w1 ⟨rfl, rfl⟩
  go_wp2_with fail
  refine (nan203 b _).mono ?_
  rintro e w2 ⟨rfl, rfl⟩
  go_wp2_with fail
  go_ret
  exact ⟨rfl, rfl⟩
 ·rw [if_neg h1]
  by_cases h2 : b < a
  ·rw [if_pos h2]
   go_enter Tryz.func170, Tryz.ntmps170
   go_wp2_with fail
   refine (nan203 a _).mono ?_
   rintro e w1 ⟨rfl, rfl⟩
   go_wp2_with fail
   refine (nan203 b _).mono ?_
   rintro e w2 ⟨rfl, rfl⟩
   go_wp2_with fail
   go_ret
   exact ⟨rfl, rfl⟩
  ·rw [if_neg h2]
   go_enter Tryz.func170, Tryz.ntmps170
   go_wp2_with fail
   refine (nan203 a _).mono ?_
   rintro e w1 ⟨rfl, rfl⟩
   go_wp2_with fail
   refine (nan203 b _).mono ?_
   rintro e w2 ⟨rfl, rfl⟩
   go_wp2_with fail
   go_ret
   exact ⟨rfl, rfl⟩
set_option maxHeartbeats 1000000 in
theorem nan223 (a : Int) (w : World) : Calls Tryz.prog 223 #[.int .u64 a] w fun e w' => e = .returned (.bool false) ∧ w' = w := by
 go_enter Tryz.func223, Tryz.ntmps223
 go_wp2_with fail
 go_ret
 exact ⟨ret_bool (by simp), rfl⟩
set_option maxHeartbeats 1000000 in
theorem cmp204 (a b : Int) (w : World) : Calls Tryz.prog 204 #[.int .u64 a, .int .u64 b] w fun e w' => e = .returned (.int .i64 (cmpI a b)) ∧ w' = w := by
 unfold cmpI
 by_cases h1 : a < b
 ·rw [if_pos h1]
  go_enter Tryz.func204, Tryz.ntmps204
  go_wp2_with fail
  refine (nan223 a _).mono ?_
  rintro e w1 ⟨rfl, rfl⟩
  go_wp2_with fail
  refine (nan223 b _).mono ?_
  rintro e w2 ⟨rfl, rfl⟩
  go_wp2_with fail
  go_ret
  exact ⟨rfl, rfl⟩
 ·rw [if_neg h1]
  by_cases h2 : b < a
  ·rw [if_pos h2]
   go_enter Tryz.func204, Tryz.ntmps204
   go_wp2_with fail
   refine (nan223 a _).mono ?_
   rintro e w1 ⟨rfl, rfl⟩
   go_wp2_with fail
   refine (nan223 b _).mono ?_
   rintro e w2 ⟨rfl, rfl⟩
   go_wp2_with fail
   go_ret
   exact ⟨rfl, rfl⟩
  ·rw [if_neg h2]
   go_enter Tryz.func204, Tryz.ntmps204
   go_wp2_with fail
   refine (nan223 a _).mono ?_
   rintro e w1 ⟨rfl, rfl⟩
   go_wp2_with fail
   refine (nan223 b _).mono ?_
   rintro e w2 ⟨rfl, rfl⟩
   go_wp2_with fail
   go_ret
   exact ⟨rfl, rfl⟩
/-- the first of two lists' comparisons that is not 0 -/
def cmpL : List Int → List Int → Int
 | a :: as', b :: bs => if cmpI a b = 0 then cmpL as' bs else cmpI a b
 | _, _ => 0
theorem cmpL_at {l m : List Int} (hl : l.length = m.length) : ∀ {k : Nat}, (∀ (j : Nat) (x y : Int), j < k → l[j]? = some x → m[j]? = some y → cmpI x y = 0) → cmpL l m = cmpL (l.drop k) (m.drop k) := by
 induction l generalizing m with
 | nil => intro k _; cases m with
  | nil => simp
  | cons b m => simp at hl
 | cons a l ih =>
  cases m with
  | nil => simp at hl
  | cons b m =>
   intro k h
   cases k with
   | zero => rfl
   | succ k =>
    have h0 := h 0 a b (by omega) rfl rfl
    simp only [List.drop_succ_cons]
    rw [cmpL, if_pos h0]
    exact ih (by simpa using hl) (fun j x y hj hx hy => h (j + 1) x y (by omega) (by simpa using hx) (by simpa using hy))
theorem cmpL_here {l m : List Int} {k : Nat} {x y : Int} (hx : l[k]? = some x) (hy : m[k]? = some y) : cmpL (l.drop k) (m.drop k) = if cmpI x y = 0 then cmpL (l.drop (k + 1)) (m.drop (k + 1)) else cmpI x y := by
 rw [List.drop_eq_getElem_cons (List.getElem?_eq_some_iff.1 hx).1, List.drop_eq_getElem_cons (List.getElem?_eq_some_iff.1 hy).1, (List.getElem?_eq_some_iff.1 hx).2, (List.getElem?_eq_some_iff.1 hy).2]; rfl
abbrev u64L (i : Int) : List Value := [.int .u64 i]
theorem u64_cell {w : World} {b off : Nat} {l : List Int} (h : Cells w b off 1 (l.map u64L)) {k : Nat} {x : Int} (hx : l[k]? = some x) : w.cell? ⟨b, off + k, none⟩ = some (.int .u64 x) := by
 have := h.2 k 0 (.int .u64 x) (by simp [hx])
 simpa using this
set_option maxHeartbeats 2000000 in
theorem CompareU (b off b' off' c c' n : Nat) (l m : List Int) (w : World) (h1 : Cells w b off 1 (l.map u64L)) (h2 : Cells w b' off' 1 (m.map u64L)) (hl : l.length = n) (hm : m.length = n) (hn : n ≤ 8) :
  Calls Tryz.prog 171 #[.slice (some ⟨b, off, none⟩) n c, .slice (some ⟨b', off', none⟩) n c'] w fun e w' => e = .returned (.int .i64 (cmpL l m)) ∧ w' = w := by
 have H1 := Lib.hid h1; have H2 := Lib.hid h2; clear h1 h2
 have HL := Lib.hid (And.intro hl hm); clear hl hm
 have lb := H1.out.1
 have lb' := H2.out.1
 go_enter Tryz.func171, Tryz.ntmps171
 go_wp2_with fail
 go_loopw [11] (fun i wr => ∃ k : Nat, k ≤ n ∧ i = .int .i64 k ∧ Hid (cmpL l m = cmpL (l.drop k) (m.drop k)) ∧ wr = w) (fun i _ => n - (intOf i).toNat)
 case atStart => exact ⟨0, Nat.zero_le _, rfl, Lib.hid (show cmpL l m = cmpL (l.drop 0) (m.drop 0) from rfl), rfl⟩
 case round =>
  obtain ⟨k, hk, rfl, HP, rfl⟩ := hrel
  by_cases hlt : k < n
  ·have hx : l[k]? = some (l[k]'(by rw [HL.out.1]; exact hlt)) := by simp
   have hy : m[k]? = some (m[k]'(by rw [HL.out.2]; exact hlt)) := by simp
   generalize l[k]'(by rw [HL.out.1]; exact hlt) = x at hx
   generalize m[k]'(by rw [HL.out.2]; exact hlt) = y at hy
   have c0 := u64_cell H1.out hx
   have c1 := u64_cell H2.out hy
   have HX := Lib.hid (cmpL_here hx hy); clear hx hy
   go_wp2_with fail
   refine (cmp204 x y _).mono ?_
   rintro e w2 ⟨rfl, rfl⟩
   generalize hr : cmpI x y = r at HX
   by_cases h0 : r = 0
   ·subst h0
    go_wp2_with fail
    go_roundw
    case rel => exact ⟨k + 1, by omega, by go_num, HP.out.trans (by simpa using HX.out), trivial⟩
    case measure => simp [intOf]; omega
   ·have hne : (r != 0) = true := by simpa using h0
    go_wp2_with fail
    go_ret
    exact ⟨ret_int (HP.out.trans (HX.out.trans (if_neg h0))).symm, rfl⟩
  ·have hkn : k = n := by omega
   subst hkn
   have hz : cmpL l m = 0 := by
    rw [HP.out, List.drop_of_length_le (by rw [HL.out.1]; exact Nat.le_refl _)]; rfl
   have HZ := Lib.hid hz; clear hz
   go_wp2_with fail
   go_ret
   exact ⟨ret_int HZ.out.symm, rfl⟩
end Go.Proofs.YtccnkebkgegohaaGreatDoor
end
