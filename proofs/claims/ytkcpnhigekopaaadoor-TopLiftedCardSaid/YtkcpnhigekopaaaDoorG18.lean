import Derived.Test.YtkcpnhigekopaaaDoorG17
import Derived.Sort.Grow
import Derived.Shelf.SlLaysF
import Derived.Test.YtkcpnhigekopaaaDoorProg
import Derived.Shelf.SlSortCmp.NoneTotal
/-
  Given contracts of functions of the program, and laws for them, one behind the other.
-/
set_option linter.unusedVariables false
set_option linter.unusedSimpArgs false
set_option linter.unusedSectionVars false
section
namespace Go.Proofs.YtkcpnhigekopaaaDoor
open Go.RowKit Go.Rel Go.Draw
set_option maxRecDepth 100000
/-! lists of lists that are the same (wpStill_yes) -/
def SlLL (w : World) (v : Value) (ls : List (List Int)) : Prop := ∃ us : List Value, Sl w 1 v (us.map fun x => [x]) ∧ us.length = ls.length ∧ ∀ (i : Nat) (u : Value) (l : List Int), us[i]? = some u → ls[i]? = some l → SlI w u l
theorem vals_open {w : World} {v : Value} {us : List Value} (h : Sl w 1 v (us.map fun x => [x])) : ∃ b cc, v = .slice b us.length cc ∧ us.length ≤ 9223372036854775807 ∧ ∀ (k : Nat) (x : Value), us[k]? = some x → ∃ ib io, b = some ⟨ib, io, none⟩ ∧ ib < w.heap.size ∧ w.cell? ⟨ib, io + k, none⟩ = some x := by
 rcases h.cases with ⟨hz, a, c, rfl, hc⟩ | ⟨ib, io, c, hv, hq1, hq2, _, hcs⟩
 ·have : us = [] := by simpa using hz
  subst this
  exact ⟨_, _, rfl, by simp, fun k x hx => by simp at hx⟩
 ·subst hv
  refine ⟨_, _, by rw [List.length_map], by simp at hq1 hq2; omega, fun k x hx => ⟨ib, io, rfl, hcs.1, ?_⟩⟩
  have := hcs.2 k 0 x (by simp [hx])
  simpa using this
theorem OwnLL.sll {W : World} {base : Nat} {v : Value} {ls : List (List Nat)} (h : OwnLL W base v ls) : SlLL W v (ls.map intsL) := by
 obtain ⟨us, h1, h2, h3⟩ := h
 refine ⟨us, h1.sl, by simpa using h2, fun i u l hu hl => ?_⟩
 rw [List.getElem?_map] at hl
 cases hq : ls[i]? with
 | none => rw [hq] at hl; cases hl
 | some q =>
  rw [hq] at hl
  simp only [Option.map_some, Option.some.injEq] at hl
  subst hl
  exact (h3 i u q hu hq).sl
theorem drop_atL {l : List (List Int)} {k : Nat} {x : List Int} (hx : l[k]? = some x) : l.drop k = x :: l.drop (k + 1) := by
 obtain ⟨h1, h2⟩ := List.getElem?_eq_some_iff.1 hx
 rw [← h2]; exact List.drop_eq_getElem_cons h1
theorem sameL_drop {l r : List (List Int)} {k : Nat} {x y : List Int} (hx : l[k]? = some x) (hy : r[k]? = some y) : (l.drop k == r.drop k) = (x == y && (l.drop (k + 1) == r.drop (k + 1))) := by
 rw [drop_atL hx, drop_atL hy]; rfl
end Go.Proofs.YtkcpnhigekopaaaDoor
end
section
namespace Go.Proofs.YtkcpnhigekopaaaDoor
open Go.RowKit Go.Rel Go.Draw
set_option maxRecDepth 100000
/-! lists of moves that are the same (wpStill_yes) -/
theorem mvs_open {w : World} {v : Value} {l : List MvI} (h : SlX w v l) : ∃ b cc, v = .slice b l.length cc ∧ l.length ≤ 9223372036854775807 ∧ ∀ (k : Nat) (x : MvI), l[k]? = some x → ∃ ib io, b = some ⟨ib, io, none⟩ ∧ ib < w.heap.size ∧ w.cell? ⟨ib, io + k * 3, none⟩ = some (.int .i64 x.1) ∧ w.cell? ⟨ib, io + k * 3 + 1, none⟩ = some (.int .i64 x.2.1) ∧ w.cell? ⟨ib, io + k * 3 + 2, none⟩ = some (.int .i64 x.2.2) := by
 rcases h.cases with ⟨hz, a, c, rfl, hc⟩ | ⟨ib, io, c, hv, hq1, hq2, _, hcs⟩
 ·have : l = [] := by simpa using hz
  subst this
  exact ⟨_, _, rfl, by simp, fun k x hx => by simp at hx⟩
 ·subst hv
  exact ⟨_, _, by rw [List.length_map], by simp at hq1 hq2; omega, fun k x hx => ⟨ib, io, rfl, hcs.1, mvI_cells hcs hx⟩⟩
theorem drop_atX {l : List MvI} {k : Nat} {x : MvI} (hx : l[k]? = some x) : l.drop k = x :: l.drop (k + 1) := by
 obtain ⟨h1, h2⟩ := List.getElem?_eq_some_iff.1 hx
 rw [← h2]; exact List.drop_eq_getElem_cons h1
theorem sameX_drop {l r : List MvI} {k : Nat} {x y : MvI} (hx : l[k]? = some x) (hy : r[k]? = some y) : (l.drop k == r.drop k) = (x == y && (l.drop (k + 1) == r.drop (k + 1))) := by
 rw [drop_atX hx, drop_atX hy]; rfl
end Go.Proofs.YtkcpnhigekopaaaDoor
end
section
namespace Go.Proofs.YtkcpnhigekopaaaDoor
open Go.RowKit Go.Rel Go.Draw
set_option maxRecDepth 100000
/-! comparing numbers -/
def cmpI (a b : Int) : Int := if a < b then -1 else if b < a then 1 else 0
set_option maxHeartbeats 4000000 in
theorem nan_spec (x : Int) (w : World) : Calls Tryd.prog 63 #[.int .i64 x] w fun e w' => e = .returned (.bool false) ∧ w' = w := by
 go_enter Tryd.func63, Tryd.ntmps63
 go_wp2_with fail
 go_ret
 exact ⟨ret_bool (by simp), rfl⟩
set_option maxHeartbeats 4000000 in
theorem cmp_spec (a b : Int) (w : World) : Calls Tryd.prog 55 #[.int .i64 a, .int .i64 b] w fun e w' => e = .returned (.int .i64 (cmpI a b)) ∧ w' = w := by
 have HA := Lib.hid (nan_spec a w)
 have HB := Lib.hid (nan_spec b w)
 obtain ⟨c, hc⟩ : ∃ c, c = cmpI a b := ⟨_, rfl⟩
 rw [← hc]
 have HC := Lib.hid hc; clear hc
 go_enter Tryd.func55, Tryd.ntmps55
 go_wp2_with fail
 refine HA.out.mono ?_
 rintro e w2 ⟨rfl, hw2⟩
 have hw3 := hw2.symm
 subst hw3
 clear hw2
 go_wp2_with fail
 refine HB.out.mono ?_
 rintro e w2 ⟨rfl, hw2⟩
 have hw3 := hw2.symm
 subst hw3
 clear hw2
 by_cases h1 : a < b
 ·go_wp2_with fail
  go_ret
  exact ⟨ret_int (by rw [HC.out]; unfold cmpI; rw [if_pos h1]), rfl⟩
 ·have h2 : ¬ (a < b) := h1
  by_cases h3 : b < a
  ·go_wp2_with fail
   go_ret
   exact ⟨ret_int (by rw [HC.out]; unfold cmpI; rw [if_neg (by omega), if_pos (by omega)]), rfl⟩
  ·go_wp2_with fail
   go_ret
   exact ⟨ret_int (by rw [HC.out]; unfold cmpI; rw [if_neg (by omega), if_neg (by omega)]), rfl⟩
def cmpLI : List Int → List Int → Int
 | [], [] => 0
 | [], _ :: _ => -1
 | _ :: _, [] => 1
 | a :: l, b :: r => if cmpI a b = 0 then cmpLI l r else cmpI a b
set_option maxHeartbeats 4000000 in
theorem cmpL_spec {w : World} {v u : Value} {l r : List Int} (h : SlI w v l) (hr : SlI w u r) : Calls Tryd.prog 57 #[v, u] w fun e w' => e = .returned (.int .i64 (cmpLI l r)) ∧ w' = w := by
 obtain ⟨b, cc, rfl, hmx, hH⟩ := ints_open h
 obtain ⟨b2, cc2, rfl, hmx2, hH2⟩ := ints_open hr
 have HH := Lib.hid (And.intro hH hH2)
 clear hH hH2 h hr
 go_enter Tryd.func57, Tryd.ntmps57
 go_wp2_with fail
 go_loopw [11] (fun iv wx => ∃ (k : Nat), k ≤ l.length ∧ iv = .int .i64 k ∧ Hid (cmpLI l r = cmpLI (l.drop k) (r.drop k)) ∧ wx = w) (fun iv _ => l.length - (intOf iv).toNat)
 case atStart => exact ⟨0, Nat.zero_le _, rfl, Lib.hid rfl, rfl⟩
 case round =>
  obtain ⟨k, hk, rfl, HI, hwr⟩ := hrel
  subst hwr
  by_cases hlt : k < l.length
  ·obtain ⟨x, hx⟩ : ∃ x, l[k]? = some x := ⟨_, List.getElem?_eq_getElem hlt⟩
   obtain ⟨ib, io, rfl, lib, hc⟩ := HH.out.1 k x hx
   have hck := hc k x hx
   have HX := Lib.hid (drop_at hx)
   clear hx hc
   by_cases h2 : k < r.length
   ·obtain ⟨y, hy⟩ : ∃ y, r[k]? = some y := ⟨_, List.getElem?_eq_getElem h2⟩
    obtain ⟨ib2, io2, rfl, lib2, hc2⟩ := HH.out.2 k y hy
    have hck2 := hc2 k y hy
    have HY := Lib.hid (drop_at hy)
    have HC := Lib.hid (cmp_spec x y wr)
    clear hy hc2
    go_wp2_with fail
    refine HC.out.mono ?_
    rintro e w2 ⟨rfl, hw2⟩
    have hw3 := hw2.symm
    subst hw3
    clear hw2
    obtain ⟨c, hc⟩ : ∃ c, c = cmpI x y := ⟨_, rfl⟩
    rw [← hc]
    have HCC := Lib.hid hc; clear hc
    by_cases h3 : c = 0
    ·subst h3
     go_wp2_with fail
     refine ⟨⟨k + 1, by omega, by simp, Lib.hid ?_, trivial⟩, by simp [intOf]; omega⟩
     rw [HI.out, HX.out, HY.out, cmpLI, if_pos HCC.out.symm]
    ·go_wp2_with fail
     go_ret
     refine ⟨ret_int ?_, rfl⟩
     rw [HI.out, HX.out, HY.out, cmpLI, if_neg (by rw [← HCC.out]; exact h3), HCC.out]
   ·have h3 : r.length ≤ k := by omega
    go_wp2_with fail
    go_ret
    refine ⟨ret_int ?_, rfl⟩
    rw [HI.out, HX.out, List.drop_eq_nil_of_le h3]; rfl
  ·obtain rfl : k = l.length := by omega
   by_cases h2 : l.length < r.length
   ·have HE := Lib.hid h2
    go_wp2_with fail
    go_ret
    refine ⟨ret_int ?_, rfl⟩
    rw [HI.out, List.drop_length, List.drop_eq_getElem_cons HE.out]; rfl
   ·have HE := Lib.hid h2
    go_wp2_with fail
    go_ret
    refine ⟨ret_int ?_, rfl⟩
    rw [HI.out, List.drop_length, List.drop_eq_nil_of_le (by have := HE.out; omega)]; rfl
end Go.Proofs.YtkcpnhigekopaaaDoor
end
section
namespace Go.Proofs.YtkcpnhigekopaaaDoor
open Go.RowKit Go.Rel Go.Draw
set_option maxRecDepth 100000
/-! the first that is not nought -/
def orI : List Int → Int
 | [] => 0
 | x :: l => if x = 0 then orI l else x
set_option maxHeartbeats 4000000 in
theorem or_spec {w : World} {v : Value} {l : List Int} (h : SlI w v l) : Calls Tryd.prog 54 #[v] w fun e w' => e = .returned (.int .i64 (orI l)) ∧ w' = w := by
 obtain ⟨b, cc, rfl, hmx, hH⟩ := ints_open h
 have HH := Lib.hid hH
 clear hH h
 go_enter Tryd.func54, Tryd.ntmps54
 go_wp2_with fail
 go_loopw [8] (fun iv wx => ∃ (k : Nat), k ≤ l.length ∧ iv = .int .i64 k ∧ Hid (orI l = orI (l.drop k)) ∧ wx = w) (fun iv _ => l.length - (intOf iv).toNat)
 case atStart => exact ⟨0, Nat.zero_le _, rfl, Lib.hid rfl, rfl⟩
 case round =>
  obtain ⟨k, hk, rfl, HI, hwr⟩ := hrel
  subst hwr
  by_cases hlt : k < l.length
  ·obtain ⟨x, hx⟩ : ∃ x, l[k]? = some x := ⟨_, List.getElem?_eq_getElem hlt⟩
   obtain ⟨ib, io, rfl, lib, hc⟩ := HH.out k x hx
   have hck := hc k x hx
   have HX := Lib.hid (drop_at hx)
   clear hx hc
   by_cases h3 : x = 0
   ·subst h3
    go_wp2_with fail
    refine ⟨⟨k + 1, by omega, by simp, Lib.hid ?_, trivial⟩, by simp [intOf]; omega⟩
    rw [HI.out, HX.out, orI, if_pos rfl]
   ·go_wp2_with fail
    go_ret
    refine ⟨ret_int ?_, rfl⟩
    rw [HI.out, HX.out, orI, if_neg h3]
  ·obtain rfl : k = l.length := by omega
   go_wp2_with fail
   go_ret
   refine ⟨ret_int ?_, rfl⟩
   rw [HI.out, List.drop_length]; rfl
end Go.Proofs.YtkcpnhigekopaaaDoor
end
section
namespace Go.Proofs.YtkcpnhigekopaaaDoor
open Go.RowKit Go.Rel Go.Draw
set_option maxRecDepth 100000
/-! whether a set holds one of those that are there -/
theorem drop_atU {l : List U} {k : Nat} {x : U} (hx : l[k]? = some x) : l.drop k = x :: l.drop (k + 1) := by
 obtain ⟨h1, h2⟩ := List.getElem?_eq_some_iff.1 hx
 rw [← h2]; exact List.drop_eq_getElem_cons h1
set_option maxHeartbeats 4000000 in
theorem paths2_spec (x : U) {W : World} {bs : Nat} {s : U} (B : Blk W bs #[.int .u64 (uI s)] 57) : Calls Tryd.prog 45 #[.int .u64 (uI x), .pointer (some ⟨bs, 0, none⟩)] W fun e w' => e = .returned (.bool (subB x s)) ∧ w' = W := by
 have cb := B.cell; have lb := B.lt
 have ea := bits_andNot_u x s
 have eb := beq_u0 (x &&& ~~~s)
 clear B
 go_enter Tryd.func45, Tryd.ntmps45
 go_wp2_with fail
 go_ret
 exact ⟨ret_bool (by unfold subB; rfl), rfl⟩
set_option maxHeartbeats 8000000 in
theorem index_sets {v : Value} {l : List U} {c0 : Value} {p : U → Bool} {w : World} (h : SlU w v l)
  (hf : ∀ x ∈ l, Calls Tryd.prog 45 #[.int .u64 (uI x), c0] w fun e w' => e = .returned (.bool (p x)) ∧ w' = w) :
  Calls Tryd.prog 58 #[v, .func (.func 45) #[] #[c0]] w fun e w' => w' = w ∧ ∃ i : Int, e = .returned (.int .i64 i) ∧ (0 ≤ i ↔ l.any p = true) := by
 obtain ⟨b, nn, cc, rfl, hnn, hmx, hH⟩ : ∃ b nn cc, v = .slice b nn cc ∧ nn = l.length ∧ l.length ≤ 9223372036854775807 ∧ ∀ (k : Nat) (x : U), l[k]? = some x → ∃ ib io, b = some ⟨ib, io, none⟩ ∧ ib < w.heap.size ∧ ∀ (j : Nat) (y : U), l[j]? = some y → w.cell? ⟨ib, io + j, none⟩ = some (.int .u64 (uI y)) := by
  rcases h.cases with ⟨hz, a, c, rfl, hc⟩ | ⟨ib, io, c, hv, hq1, hq2, _, hcs⟩
  ·have : l = [] := by simpa using hz
   subst this
   exact ⟨_, _, _, rfl, rfl, by simp, fun k x hx => by simp at hx⟩
  ·subst hv
   exact ⟨_, _, _, rfl, List.length_map _, by simp at hq1 hq2; omega, fun k x hx => ⟨ib, io, rfl, hcs.1, fun j y hy => u_cell hcs hy⟩⟩
 subst hnn
 have HH := Lib.hid (And.intro hH hf)
 clear hH h hf
 go_enter Tryd.func58, Tryd.ntmps58
 go_wp2_with fail
 go_loopw [8] (fun iv wx => ∃ (k : Nat), k ≤ l.length ∧ iv = .int .i64 k ∧ Hid (l.any p = (l.drop k).any p) ∧ wx = w) (fun iv _ => l.length - (intOf iv).toNat)
 case atStart => exact ⟨0, Nat.zero_le _, rfl, Lib.hid rfl, rfl⟩
 case round =>
  obtain ⟨k, hk, rfl, HI, hwr⟩ := hrel
  subst hwr
  by_cases hlt : k < l.length
  ·obtain ⟨x, hx⟩ : ∃ x, l[k]? = some x := ⟨_, List.getElem?_eq_getElem hlt⟩
   have hdrop : l.drop k = x :: l.drop (k + 1) := by
    obtain ⟨h1, h2⟩ := List.getElem?_eq_some_iff.1 hx
    rw [← h2]; exact List.drop_eq_getElem_cons h1
   obtain ⟨ib, io, rfl, lib, hc⟩ := HH.out.1 k x hx
   have hck := hc k x hx
   have HF := Lib.hid (HH.out.2 x (List.mem_of_getElem? hx))
   have HX := Lib.hid hdrop
   clear hdrop hx hc
   go_wp2_with fail
   refine HF.out.mono ?_
   rintro e w2 ⟨rfl, hw2⟩
   have hw3 := hw2.symm
   subst hw3
   clear hw2
   cases hp : p x
   ·have HP := Lib.hid hp; clear hp
    go_wp2_with fail
    refine ⟨⟨k + 1, by omega, by simp, Lib.hid ?_, trivial⟩, by simp [intOf]; omega⟩
    rw [HI.out, HX.out, List.any_cons, HP.out, Bool.false_or]
   ·have HP := Lib.hid hp; clear hp
    go_wp2_with fail
    go_ret
    refine ⟨rfl, _, rfl, ?_⟩
    rw [HI.out, HX.out, List.any_cons, HP.out]
    simp
  ·obtain rfl : k = l.length := by omega
   go_wp2_with fail
   go_ret
   refine ⟨rfl, _, rfl, ?_⟩
   rw [HI.out, List.drop_length]
   simp
set_option maxHeartbeats 8000000 in
theorem contains_sets {v : Value} {l : List U} {c0 : Value} {p : U → Bool} {w : World} (h : SlU w v l)
  (hf : ∀ x ∈ l, Calls Tryd.prog 45 #[.int .u64 (uI x), c0] w fun e w' => e = .returned (.bool (p x)) ∧ w' = w) :
  Calls Tryd.prog 44 #[v, .func (.func 45) #[] #[c0]] w fun e w' => e = .returned (.bool (l.any p)) ∧ w' = w := by
 have HI := Lib.hid (index_sets h hf)
 clear h hf
 go_enter Tryd.func44, Tryd.ntmps44
 go_wp2_with fail
 refine HI.out.mono ?_
 rintro e w2 ⟨hw, i, rfl, hi⟩
 have hw3 := hw.symm
 subst hw3
 have HX := Lib.hid hi
 clear hw hi
 go_wp2_with fail
 go_ret
 refine ⟨ret_bool ?_, rfl⟩
 rw [Bool.eq_iff_iff, decide_eq_true_eq]
 exact HX.out
end Go.Proofs.YtkcpnhigekopaaaDoor
end
section
namespace Go.Proofs.YtkcpnhigekopaaaDoor
open Go.RowKit Go.Rel Go.Draw
set_option maxRecDepth 100000
/-! whether a set is one with which a piece goes -/
set_option maxHeartbeats 4000000 in
theorem paths1_spec {W : World} {bp bm g mb p : Nat} {m : List Sol} {S : U} (Bp : Blk W bp #[.int .i64 (p : Int)] 3) (Bm : Blk W bm #[.pointer (some ⟨g, 0, none⟩)] 42) (hM : Mould W g mb m) (hm : m.length ≤ 12) (hT : Tab W) (hS : Sub S (allU m.length)) (hp : p < 64) : Calls Tryd.prog 41 #[.int .u64 (uI S), .pointer (some ⟨bp, 0, none⟩), .pointer (some ⟨bm, 0, none⟩)] W fun e w' => e = .returned (.bool (S.getLsbD p && firstM m S)) ∧ Ways w' mb m ∧ W.grownBy w' (some mb) := by
 have cp := Bp.cell; have lp := Bp.lt
 have cm := Bm.cell; have lm := Bm.lt
 have HF := Lib.hid (first_spec hM hm hT S hS)
 have HW := Lib.hid hM.ways
 have eb := bitAt1_u S p
 have em : min p 64 = p := Nat.min_eq_left (by omega)
 clear Bp Bm hM hT hS
 cases hb : S.getLsbD p
 ·rw [hb] at eb
  clear hb
  go_enter Tryd.func41, Tryd.ntmps41
  go_wp2_with fail
  go_ret
  exact ⟨rfl, HW.out, gb_refl _ _⟩
 ·rw [hb] at eb
  clear hb
  go_enter Tryd.func41, Tryd.ntmps41
  go_wp2_with fail
  refine HF.out.mono ?_
  rintro e w2 ⟨rfl, hw, hg⟩
  go_wp2_with fail
  go_ret
  exact ⟨ret_bool (by simp), hw, hg⟩
end Go.Proofs.YtkcpnhigekopaaaDoor
end
section
namespace Go.Proofs.YtkcpnhigekopaaaDoor
open Go.RowKit Go.Rel Go.Draw
set_option maxRecDepth 100000
/-! the order of sets, in the program's words -/
theorem cmpLI_nat : ∀ l r : List Nat, cmpLI (intsL l) (intsL r) = cmpN l r
 | [], [] => rfl
 | [], _ :: _ => rfl
 | _ :: _, [] => rfl
 | a :: l, b :: r => by
  have ih := cmpLI_nat l r
  show (if cmpI (a : Int) (b : Int) = 0 then cmpLI (intsL l) (intsL r) else cmpI (a : Int) (b : Int)) = _
  rw [ih]
  unfold cmpI
  rw [cmpN]
  by_cases h1 : a < b
  ·have h2 : (a : Int) < b := by omega
   simp [h1, h2]
  ·by_cases h3 : b < a
   ·have h2 : ¬ ((a : Int) < b) := by omega
    have h4 : (b : Int) < a := by omega
    simp [h1, h2, h3, h4]
   ·have h2 : ¬ ((a : Int) < b) := by omega
    have h4 : ¬ ((b : Int) < a) := by omega
    simp [h1, h2, h3, h4]
theorem cmpU_or (a b : U) : orI [cmpI (cardU a : Nat) (cardU b : Nat), cmpLI (intsL (listU a)) (intsL (listU b))] = cmpU a b := by
 rw [cmpLI_nat]
 unfold cmpU cardU cmpI
 by_cases h1 : (listU a).length < (listU b).length
 ·have h2 : ((listU a).length : Int) < (listU b).length := by omega
  rw [if_pos h2, if_pos h1]; rfl
 ·have h2 : ¬ (((listU a).length : Int) < (listU b).length) := by omega
  rw [if_neg h2, if_neg h1]
  by_cases h3 : (listU b).length < (listU a).length
  ·have h4 : ((listU b).length : Int) < (listU a).length := by omega
   rw [if_pos h4, if_pos h3]; rfl
  ·have h4 : ¬ (((listU b).length : Int) < (listU a).length) := by omega
   rw [if_neg h4, if_neg h3, orI, if_pos rfl, orI]
   split
   ·rename_i h; rw [h]; rfl
   ·rfl
end Go.Proofs.YtkcpnhigekopaaaDoor
end
section
namespace Go.Proofs.YtkcpnhigekopaaaDoor
open Go.RowKit Go.Rel Go.Draw
set_option maxRecDepth 100000
/-! comparing sets, of a count that is given -/
theorem sl_two {W : World} {b : Nat} {x y : Int} {t : TypeId} (h : Blk W b #[.int .i64 x, .int .i64 y] t) : SlI W (.slice (some ⟨b, 0, none⟩) 2 2) [x, y] := by
 refine ⟨_, 2, rfl, by simp, by simp, .inr ⟨b, 0, rfl, h.lt, fun i j u hu => ?_⟩⟩
 rw [h.cell]
 match i, j with
 | 0, 0 => simpa using hu
 | 1, 0 => simpa using hu
 | 0, j + 1 => simp at hu
 | 1, j + 1 => simp at hu
 | i + 2, _ => simp at hu
set_option maxHeartbeats 4000000 in
theorem compare_of {w : World} {a b : U} (hT : Tab w) (HO : ∀ (s : U) (W : World), Calls Tryd.prog 56 #[.int .u64 (uI s)] W fun e w' => e = .returned (.int .i64 (cardU s : Nat)) ∧ w' = W) : Calls Tryd.prog 43 #[.int .u64 (uI a), .int .u64 (uI b)] w fun e w' => e = .returned (.int .i64 (cmpU a b)) ∧ Below w.heap.size w w' := by
 have HH := Lib.hid (And.intro HO hT)
 clear HO hT
 go_enter Tryd.func43, Tryd.ntmps43
 go_wp2_with fail
 refine (HH.out.1 a w).mono ?_
 rintro e w2 ⟨rfl, hw2⟩
 have hw3 := hw2.symm
 subst hw3
 clear hw2
 go_wp2_with fail
 refine (HH.out.1 b w).mono ?_
 rintro e w3 ⟨rfl, hw2⟩
 have hw3 := hw2.symm
 subst hw3
 clear hw2
 go_wp2_with fail
 refine (cmp_spec _ _ w).mono ?_
 rintro e w4 ⟨rfl, hw2⟩
 have hw3 := hw2.symm
 subst hw3
 clear hw2
 go_wp2_with fail
 refine (list_spec a w HH.out.2).mono ?_
 rintro e w5 ⟨u5, rfl, h5, hb5⟩
 have H5 := Lib.hid (And.intro h5 hb5); clear h5 hb5
 go_wp2_with fail
 refine (list_spec b w5 (HH.out.2.grow H5.out.2)).mono ?_
 rintro e w6 ⟨u6, rfl, h6, hb6⟩
 have H6 := Lib.hid (And.intro h6 (And.intro hb6 (own_bel H5.out.1 hb6))); clear h6 hb6
 go_wp2_with fail
 refine (cmpL_spec (OwnI.sl H6.out.2.2) (OwnI.sl H6.out.1)).mono ?_
 rintro e w7 ⟨rfl, hw2⟩
 have hw3 := hw2.symm
 subst hw3
 clear hw2
 go_wp2_with fail
 refine (or_spec (sl_two (Blk.new _ _ _))).mono ?_
 rintro e w8 ⟨rfl, hw2⟩
 have hw3 := hw2.symm
 subst hw3
 clear hw2
 go_wp2_with fail
 go_ret
 exact ⟨ret_int (cmpU_or a b), bel_trans H5.out.2 (bel_trans H6.out.2.1 (bel_alloc (bel_refl _) _))⟩
end Go.Proofs.YtkcpnhigekopaaaDoor
end
section
namespace Go.Proofs.YtkcpnhigekopaaaDoor
open Go.RowKit Go.Rel Go.Draw
set_option maxRecDepth 100000
/-! list and compare, and how many draws there were -/
/-- new blocks alone, and no draw is taken back -/
def Dw (w w' : World) : Prop := Below w.heap.size w w' ∧ w.drawn ≤ w'.drawn
theorem Dw.refl (w : World) : Dw w w := ⟨Below.refl _ _, Nat.le_refl _⟩
theorem Dw.trans {a b c : World} (h : Dw a b) (k : Dw b c) : Dw a c := ⟨bel_trans h.1 k.1, Nat.le_trans h.2 k.2⟩
theorem Dw.alloc {a b : World} (h : Dw a b) (o : Obj) : Dw a (b.alloc o) := ⟨bel_alloc h.1 _, h.2⟩
theorem Dw.grow {w w' : World} (h : Dw w w') : ∃ q os, w' = Go.Sort.grow (w.drewN q) os := by
 refine ⟨w'.drawn - w.drawn, w'.heap.extract w.heap.size w'.heap.size, ?_⟩
 obtain ⟨hb, hd⟩ := h
 have e1 := hb.os; have e2 := hb.tape; have e3 := hb.output; have e4 := hb.size; have e5 := hb.block
 have hh : w.heap ++ w'.heap.extract w.heap.size w'.heap.size = w'.heap := by
  apply Array.ext_getElem?
  intro k
  rw [Array.getElem?_append]
  split
  ·rename_i hk; exact (e5 k hk).symm
  ·rename_i hk
   rw [Array.getElem?_extract]
   split
   ·rw [show w.heap.size + (k - w.heap.size) = k by omega]
   ·rw [Array.getElem?_eq_none (by omega)]
 obtain ⟨h1, t1, d1, o1, u1⟩ := w
 obtain ⟨h2, t2, d2, o2, u2⟩ := w'
 simp only at e1 e2 e3 hd hh
 subst e1 e2 e3
 simp only [Go.Sort.grow, World.drewN, hh, World.mk.injEq, true_and, and_true]
 omega
set_option maxHeartbeats 2000000 in
theorem list_dspec (s : U) (w : World) (hT : Tab w) : Calls Tryd.prog 22 #[.int .u64 (uI s)] w fun e w' => ∃ u, e = .returned u ∧ OwnI w' w.heap.size u (intsL (listU s)) ∧ Dw w w' := by
 obtain ⟨i0, hi, hz0, hz1, hz2⟩ := info_parts infoInt
 have HI0 := Lib.hid (And.intro hi (And.intro hz0 (And.intro hz1 hz2))); clear hi hz0 hz1 hz2
 have HT := Lib.hid hT; clear hT
 obtain ⟨L, hL⟩ : ∃ L, L = listU s := ⟨_, rfl⟩
 rw [← hL]
 have HL := Lib.hid hL
 have HLL : Hid (L.length ≤ 64) := Lib.hid (by rw [hL]; exact cardU_le s)
 clear hL
 go_enter Tryd.func22, Tryd.ntmps22
 go_wp2_with fail
 go_loopw [0, 3] (fun sv u wr => ∃ (q : U) (pre : List Nat), sv = .int .u64 (uI q) ∧ Hid (pre ++ listU q = L) ∧ Hid (OwnI wr w.heap.size u (intsL pre)) ∧ Below w.heap.size w wr ∧ Hid (w.drawn ≤ wr.drawn)) (fun sv _ _ => cardU (BitVec.ofInt 64 (intOf sv)))
 case atStart => exact ⟨s, [], rfl, Lib.hid (by rw [HL.out]; rfl), Lib.hid (show OwnI w w.heap.size (.slice none 0 0) (intsL []) from World.ownsRow_nil _ _ _ _), Below.refl _ _, Lib.hid (Nat.le_refl _)⟩
 case round =>
  obtain ⟨q, pre, rfl, HP, hO, hbel, HD⟩ := hrel
  have hsz := hbel.size
  by_cases hq : q = 0
  ·have e0 : (uI q != 0) = false := by rw [bne_u0, hq]; rfl
   have HQ := Lib.hid hq; clear hq
   go_wp2_with fail
   go_ret
   refine ⟨_, rfl, ?_, hbel, HD.out⟩
   have := HP.out
   rw [HQ.out, listU_zero, List.append_nil] at this
   rw [← this]
   exact hO.out
  ·have e0 : (uI q != 0) = true := by rw [bne_u0]; simpa using hq
   have ed := drop_u q
   have HQ := Lib.hid hq; clear hq
   go_wp2_with fail
   refine (tz_spec q HQ.out _ (HT.out.grow hbel)).mono ?_
   rintro e w1 ⟨rfl, hw1⟩
   have hw2 := hw1.symm
   subst hw2
   clear hw1
   have hpl : pre.length + cardU q ≤ 64 := by
    have := congrArg List.length HP.out
    have h2 := HLL.out
    rw [List.length_append] at this
    unfold cardU; omega
   have hx := hO.out
   unfold OwnI at hx
   rw [intsL_length] at hx
   have HX := Lib.hid hx; clear hx
   go_wp2_with (first
    | (at_builtin; refine wpList_append_ownD rfl _ _ 34 rfl w.heap.size 3 i0 (.int .i64 0) 1 8 Tryd.underlying34 HI0.out.1 HI0.out.2.1 HI0.out.2.2.1 HI0.out.2.2.2 rfl (by decide) _ _ _ rfl (HX.out.alloc _) ⟨wr.heap.size, 0, none⟩ 1 1 [.int .i64 (lowU q : Nat)] rfl rfl (cell_one_new _ _ _) (fun x hx => by simp at hx; subst hx; rfl) (by unfold maxLen; omega) (by omega) (by simp; omega) (by decide) ?_; intro v' w3 hown' hgrow3 hdr3))
   go_roundw
   case rel => exact ⟨q &&& (q - 1), pre ++ [lowU q], rfl, Lib.hid (by rw [List.append_assoc]; show pre ++ (lowU q :: listU (q &&& (q - 1))) = L; rw [← listU_cons q HQ.out]; exact HP.out), Lib.hid (by unfold OwnI; rw [intsL_length, List.length_append]; unfold intsL at *; rw [List.map_append, List.map_append]; exact hown'), (bel_alloc hbel _).grown hgrow3 (by simp; omega) (fun j hj => (HX.out.lt j hj).1), Lib.hid (Nat.le_trans HD.out hdr3)⟩
   case measure =>
    show cardU (BitVec.ofInt 64 (uI (q &&& (q - 1)))) < cardU (BitVec.ofInt 64 (uI q))
    rw [ofInt_uI, ofInt_uI]
    have := cardU_drop q HQ.out
    omega
end Go.Proofs.YtkcpnhigekopaaaDoor
end
section
namespace Go.Proofs.YtkcpnhigekopaaaDoor
open Go.RowKit Go.Rel Go.Draw
set_option maxRecDepth 100000
/-! comparing sets of at most twelve pieces -/
theorem add_u (a b : U) : IntKind.u64.wrap (uI a + uI b) = uI (a + b) := by
 have h : uI a + uI b = ((a.toNat + b.toNat : Nat) : Int) := by unfold uI; rw [Int.natCast_add]
 rw [h, wrap_toNat]
 unfold uI
 rw [BitVec.toNat_add]
theorem upopA (q : U) : IntKind.u64.wrap (bits .and .u64 (uI q / 2) 6148914691236517205 + bits .and .u64 (uI q) 6148914691236517205) = uI (popA q) := by
 have h1 := shr_u q 1
 have e : (6148914691236517205 : Int) = uI 0x5555555555555555#64 := by unfold uI; rfl
 rw [show ((2 ^ 1 : Nat) : Int) = 2 from rfl] at h1
 rw [e, h1, bits_and_u, bits_and_u, add_u]; rfl
theorem upopB (q : U) : IntKind.u64.wrap (bits .and .u64 (uI q / 4) 3689348814741910323 + bits .and .u64 (uI q) 3689348814741910323) = uI (popB q) := by
 have h1 := shr_u q 2
 have e : (3689348814741910323 : Int) = uI 0x3333333333333333#64 := by unfold uI; rfl
 rw [show ((2 ^ 2 : Nat) : Int) = 4 from rfl] at h1
 rw [e, h1, bits_and_u, bits_and_u, add_u]; rfl
theorem upopC (q : U) : bits .and .u64 (IntKind.u64.wrap (uI q / 16 + uI q)) 1085102592571150095 = uI (popC q) := by
 have h1 := shr_u q 4
 have e : (1085102592571150095 : Int) = uI 0x0f0f0f0f0f0f0f0f#64 := by unfold uI; rfl
 rw [show ((2 ^ 4 : Nat) : Int) = 16 from rfl] at h1
 rw [e, h1, add_u, bits_and_u]; rfl
theorem upopD (q : U) : IntKind.u64.wrap (uI q + uI q / 256) = uI (popD q) := by
 have h1 := shr_u q 8
 rw [show ((2 ^ 8 : Nat) : Int) = 256 from rfl] at h1
 rw [h1, add_u]; rfl
theorem upopE (q : U) : IntKind.u64.wrap (uI q + uI q / 65536) = uI (popE q) := by
 have h1 := shr_u q 16
 rw [show ((2 ^ 16 : Nat) : Int) = 65536 from rfl] at h1
 rw [h1, add_u]; rfl
theorem upopF (q : U) : IntKind.u64.wrap (uI q + uI q / 4294967296) = uI (popF q) := by
 have h1 := shr_u q 32
 rw [show ((2 ^ 32 : Nat) : Int) = 4294967296 from rfl] at h1
 rw [h1, add_u]; rfl
theorem ofInt_wrap64 (q : U) : BitVec.ofInt 64 (wrap64 (uI q)) = q := by
 apply BitVec.eq_of_toNat_eq
 rw [BitVec.toNat_ofInt]
 unfold wrap64 uI
 have := q.isLt
 omega
theorem upopL (q : U) : bits .and .i64 (wrap64 (uI q)) 127 = ((q &&& 127#64).toNat : Int) := by
 show IntKind.i64.wrap ((BitVec.ofInt 64 (wrap64 (uI q)) &&& BitVec.ofInt 64 127).toNat : Int) = _
 rw [ofInt_wrap64]
 have h1 : (q &&& 127#64).toNat < 128 := by
  rw [BitVec.toNat_and]
  exact Nat.lt_of_le_of_lt Nat.and_le_right (by decide)
 have e : BitVec.ofInt 64 127 = 127#64 := by decide
 rw [e]
 generalize (q &&& 127#64).toNat = x at h1
 exact IntWalk.i64_in _ (by omega)
set_option maxHeartbeats 4000000 in
theorem ones64_core (p : U) (w : World) : Calls Tryd.prog 65 #[.int .u64 (uI p)] w fun e w' => e = .returned (.int .i64 ((popU p).toNat : Int)) ∧ w' = w := by
 have e1 := upopA p
 have e2 := upopB (popA p)
 have e3 := upopC (popB (popA p))
 have e4 := upopD (popC (popB (popA p)))
 have e5 := upopE (popD (popC (popB (popA p))))
 have e6 := upopF (popE (popD (popC (popB (popA p)))))
 have e7 := upopL (popF (popE (popD (popC (popB (popA p))))))
 go_enter Tryd.func65, Tryd.ntmps65
 go_wp2_with fail
 go_ret
 exact ⟨ret_int (by unfold popU; rw [BitVec.toNat_and]; rfl), rfl⟩
set_option maxHeartbeats 4000000 in
theorem ones_spec {n : Nat} {p : U} (hn : n ≤ 12) (hp : Sub p (allU n)) (w : World) : Calls Tryd.prog 56 #[.int .u64 (uI p)] w fun e w' => e = .returned (.int .i64 (cardU p : Nat)) ∧ w' = w := by
 have h1 : (popU p).toNat = cardU p := by
  rw [pop_card hn hp, BitVec.toNat_ofNat, Nat.mod_eq_of_lt]
  have := cardU_le p
  omega
 have H := Lib.hid (ones64_core p w)
 have HE := Lib.hid h1
 clear hp hn h1
 go_enter Tryd.func56, Tryd.ntmps56
 go_wp2_with fail
 refine H.out.mono ?_
 rintro e w' ⟨rfl, rfl⟩
 go_wp2_with fail
 go_ret
 exact ⟨ret_int (by rw [HE.out]), rfl⟩
set_option maxHeartbeats 4000000 in
theorem compare_dspec {w : World} {n : Nat} {a b : U} (hn : n ≤ 12) (ha : Sub a (allU n)) (hb : Sub b (allU n)) (hT : Tab w) : Calls Tryd.prog 43 #[.int .u64 (uI a), .int .u64 (uI b)] w fun e w' => e = .returned (.int .i64 (cmpU a b)) ∧ Dw w w' := by
 have HH := Lib.hid (And.intro (And.intro (ones_spec hn ha) (ones_spec hn hb)) hT)
 clear ha hb hT
 go_enter Tryd.func43, Tryd.ntmps43
 go_wp2_with fail
 refine (HH.out.1.1 w).mono ?_
 rintro e w2 ⟨rfl, hw2⟩
 have hw3 := hw2.symm
 subst hw3
 clear hw2
 go_wp2_with fail
 refine (HH.out.1.2 w).mono ?_
 rintro e w3 ⟨rfl, hw2⟩
 have hw3 := hw2.symm
 subst hw3
 clear hw2
 go_wp2_with fail
 refine (cmp_spec _ _ w).mono ?_
 rintro e w4 ⟨rfl, hw2⟩
 have hw3 := hw2.symm
 subst hw3
 clear hw2
 go_wp2_with fail
 refine (list_dspec a w HH.out.2).mono ?_
 rintro e w5 ⟨u5, rfl, h5, hb5⟩
 have H5 := Lib.hid (And.intro h5 hb5); clear h5 hb5
 go_wp2_with fail
 refine (list_dspec b w5 (HH.out.2.grow H5.out.2.1)).mono ?_
 rintro e w6 ⟨u6, rfl, h6, hb6⟩
 have H6 := Lib.hid (And.intro h6 (And.intro hb6 (own_bel H5.out.1 hb6.1))); clear h6 hb6
 go_wp2_with fail
 refine (cmpL_spec (OwnI.sl H6.out.2.2) (OwnI.sl H6.out.1)).mono ?_
 rintro e w7 ⟨rfl, hw2⟩
 have hw3 := hw2.symm
 subst hw3
 clear hw2
 go_wp2_with fail
 refine (or_spec (sl_two (Blk.new _ _ _))).mono ?_
 rintro e w8 ⟨rfl, hw2⟩
 have hw3 := hw2.symm
 subst hw3
 clear hw2
 go_wp2_with fail
 go_ret
 exact ⟨ret_int (cmpU_or a b), H5.out.2.trans (H6.out.2.1.trans ((Dw.refl _).alloc _))⟩
end Go.Proofs.YtkcpnhigekopaaaDoor
end
section
namespace Go.Proofs.YtkcpnhigekopaaaDoor
open Go Go.Shelf Go.RowKit
/-! slices.SortFunc at sets: the shelf's contract laid at its function -/
def sortU_ren : Go.Shelf.Ren := ⟨fun | 6 => 51 | 15 => 62 | 14 => 61 | 28 => 78 | 29 => 79 | 20 => 70 | 21 => 71 | 22 => 72 | 23 => 73 | 24 => 74 | 25 => 75 | 26 => 76 | 27 => 77 | 46 => 84 | 47 => 85 | 48 => 86 | 49 => 87 | 50 => 88 | 57 => 94 | n => n, fun | 22 => 67 | 24 => 57 | 25 => 93 | 3 => 3 | 39 => 57 | 0 => 0 | 53 => 102 | 55 => 27 | 4 => 4 | 46 => 126 | 45 => 125 | 50 => 130 | 5 => 5 | 9 => 9 | 66 => 134 | 70 => 138 | 76 => 142 | 77 => 143 | n => n, fun | n => n⟩
theorem sortU_lay : Go.Proofs.SlLaysF.n6 Tryd.prog sortU_ren := {
 mixed := by kernel_rfl
 f6 := ⟨Tryd.f51.name, by decide, Tryd.func51.trans (congrArg some (by kernel_rfl))⟩
 f14 := ⟨Tryd.f61.name, by decide, Tryd.func61.trans (congrArg some (by kernel_rfl))⟩
 f15 := Tryd.func62.trans (congrArg some (by kernel_rfl))
 f20 := ⟨Tryd.f70.name, by decide, Tryd.func70.trans (congrArg some (by kernel_rfl))⟩
 f21 := ⟨Tryd.f71.name, by decide, Tryd.func71.trans (congrArg some (by kernel_rfl))⟩
 f22 := ⟨Tryd.f72.name, by decide, Tryd.func72.trans (congrArg some (by kernel_rfl))⟩
 f23 := ⟨Tryd.f73.name, by decide, Tryd.func73.trans (congrArg some (by kernel_rfl))⟩
 f24 := ⟨Tryd.f74.name, by decide, Tryd.func74.trans (congrArg some (by kernel_rfl))⟩
 f25 := ⟨Tryd.f75.name, by decide, Tryd.func75.trans (congrArg some (by kernel_rfl))⟩
 f26 := ⟨Tryd.f76.name, by decide, Tryd.func76.trans (congrArg some (by kernel_rfl))⟩
 f27 := ⟨Tryd.f77.name, by decide, Tryd.func77.trans (congrArg some (by kernel_rfl))⟩
 f28 := Tryd.func78.trans (congrArg some (by kernel_rfl))
 f29 := Tryd.func79.trans (congrArg some (by kernel_rfl))
 f46 := ⟨Tryd.f84.name, by decide, Tryd.func84.trans (congrArg some (by kernel_rfl))⟩
 f47 := Tryd.func85.trans (congrArg some (by kernel_rfl))
 f48 := Tryd.func86.trans (congrArg some (by kernel_rfl))
 f49 := ⟨Tryd.f87.name, by decide, Tryd.func87.trans (congrArg some (by kernel_rfl))⟩
 f50 := ⟨Tryd.f88.name, by decide, Tryd.func88.trans (congrArg some (by kernel_rfl))⟩
 f57 := ⟨Tryd.f94.name, by decide, Tryd.func94.trans (congrArg some (by kernel_rfl))⟩
 t0 := Tryd.underlying0
 a0 := Tryd.isAgg0
 z0 := Tryd.sizeOf0
 v0 := Tryd.zeroValue0
 t3 := Tryd.underlying3
 a3 := Tryd.isAgg3
 z3 := Tryd.sizeOf3
 v3 := Tryd.zeroValue3
 t4 := Tryd.underlying4
 a4 := Tryd.isAgg4
 z4 := Tryd.sizeOf4
 v4 := Tryd.zeroValue4
 t5 := Tryd.underlying5
 a5 := Tryd.isAgg5
 z5 := Tryd.sizeOf5
 v5 := Tryd.zeroValue5
 t9 := Tryd.underlying9
 a9 := Tryd.isAgg9
 z9 := Tryd.sizeOf9
 v9 := Tryd.zeroValue9
 t22 := Tryd.underlying67
 a22 := Tryd.isAgg67
 z22 := Tryd.sizeOf67
 v22 := Tryd.zeroValue67
 a24 := Tryd.isAgg57
 z24 := Tryd.sizeOf57
 t25 := Tryd.underlying93
 a25 := Tryd.isAgg93
 z25 := Tryd.sizeOf93
 v25 := Tryd.zeroValue93
 t39 := Tryd.underlying57
 a39 := Tryd.isAgg57
 z39 := Tryd.sizeOf57
 v39 := Tryd.zeroValue57
 t45 := Tryd.underlying125
 a45 := Tryd.isAgg125
 z45 := Tryd.sizeOf125
 v45 := Tryd.zeroValue125
 t46 := Tryd.underlying126
 a46 := Tryd.isAgg126
 z46 := Tryd.sizeOf126
 v46 := Tryd.zeroValue126
 t50 := Tryd.underlying130
 a50 := Tryd.isAgg130
 z50 := Tryd.sizeOf130
 v50 := Tryd.zeroValue130
 t53 := Tryd.underlying102
 a53 := Tryd.isAgg102
 z53 := Tryd.sizeOf102
 v53 := Tryd.zeroValue102
 t55 := Tryd.underlying27
 a55 := Tryd.isAgg27
 z55 := Tryd.sizeOf27
 v55 := Tryd.zeroValue27
 t66 := Tryd.underlying134
 a66 := Tryd.isAgg134
 z66 := Tryd.sizeOf134
 v66 := Tryd.zeroValue134
 t70 := Tryd.underlying138
 a70 := Tryd.isAgg138
 z70 := Tryd.sizeOf138
 v70 := Tryd.zeroValue138
 t76 := Tryd.underlying142
 a76 := Tryd.isAgg142
 z76 := Tryd.sizeOf142
 v76 := Tryd.zeroValue142
 t77 := Tryd.underlying143
 a77 := Tryd.isAgg143
 z77 := Tryd.sizeOf143
 v77 := Tryd.zeroValue143 }
end Go.Proofs.YtkcpnhigekopaaaDoor
end
section
namespace Go.Proofs.YtkcpnhigekopaaaDoor
open Go.RowKit Go.Rel Go.Draw Go.Sort Go.Shelf
set_option maxRecDepth 100000
/-! SortFunc over compare, on a list of sets of our own -/
abbrev SU (n : Nat) := { s : U // Sub s (allU n) }
instance (n : Nat) : Inhabited (SU n) := ⟨⟨0, sub_zero _⟩⟩
def encS {n : Nat} (s : SU n) : Value := .int .u64 (uI s.1)
def cmpS {n : Nat} (a b : SU n) : Int := cmpU a.1 b.1
theorem swo_s (n : Nat) : SWO (ltOf (cmpS (n := n))) where
 irrefl x := by
  unfold ltOf cmpS
  rw [cmpU_refl]; rfl
 trans x y z h1 h2 := by
  unfold ltOf cmpS at *
  have h1 := of_decide_eq_true h1
  have h2 := of_decide_eq_true h2
  refine decide_eq_true (Int.lt_of_not_ge fun h => ?_)
  have a1 := cmpU_anti x.1 z.1
  have a2 := cmpU_anti z.1 y.1
  have a3 := cmpU_trans (a := z.1) (b := x.1) (c := y.1) (by omega) (by omega)
  omega
 ntrans x y z h1 h2 := by
  unfold ltOf cmpS at *
  have h1 := of_decide_eq_false h1
  have h2 := of_decide_eq_false h2
  refine decide_eq_false fun h => ?_
  have a1 := cmpU_anti x.1 y.1
  have a2 := cmpU_anti y.1 z.1
  have a3 := cmpU_anti x.1 z.1
  have a4 := cmpU_trans (a := z.1) (b := y.1) (c := x.1) (by omega) (by omega)
  omega
theorem grow_belS {B : Nat} {w W : World} (h : Go.RowKit.Below B w W) (hB : B ≤ W.heap.size) (os : Array Obj) : Go.RowKit.Below B w (Go.Sort.grow W os) :=
 ⟨h.os, h.tape, h.output, Nat.le_trans h.size (by simp [Go.Sort.grow]), fun k hk => by
  show (W.heap ++ os)[k]? = _
  rw [Array.getElem?_append_left (by omega)]
  exact h.block k hk⟩
theorem sortW_below {n : Nat} {W : World} {base g : Nat} (hb : base ≤ g) (hg : g < W.heap.size) (q : Nat) (d : Array (SU n)) (os : Array Obj) : Go.RowKit.Below base W (sortWorld encS W g 0 q d os) := by
 have hB : Go.RowKit.Below base W (putRow encS (Go.Sort.ahead W q) g 0 d) := ⟨rfl, rfl, rfl, by simp [putRow, mapBlock, Go.Sort.ahead], fun k hk => by
  show (W.heap.modify g _)[k]? = _
  rw [Array.getElem?_modify, if_neg (by omega)]⟩
 have hsz : (putRow encS (Go.Sort.ahead W q) g 0 d).heap.size = W.heap.size := by simp [putRow, mapBlock, Go.Sort.ahead]
 exact grow_belS hB (by rw [hsz]; omega) os
theorem sortW_blk {n : Nat} {W : World} {g : Nat} {cur : Array Value} (hg : Blk W g cur 57) (q : Nat) (d : Array (SU n)) (os : Array Obj) : Blk (sortWorld encS W g 0 q d os) g (putCells encS 0 d cur) 57 := by
 have hsz : (putRow encS (Go.Sort.ahead W q) g 0 d).heap.size = W.heap.size := by simp [putRow, mapBlock, Go.Sort.ahead]
 have hlt := hg.lt
 unfold Blk at hg ⊢
 show ((putRow encS (Go.Sort.ahead W q) g 0 d).heap ++ os)[g]? = _
 rw [Array.getElem?_append_left (by rw [hsz]; exact hlt)]
 show ((Go.Sort.ahead W q).heap.modify g (onCells (putCells encS 0 d)))[g]? = _
 rw [Array.getElem?_modify, if_pos rfl]
 show Option.map _ W.heap[g]? = _
 rw [hg]; rfl
theorem put_takeS {n : Nat} (d : Array (SU n)) (cur : Array Value) (h : d.size ≤ cur.size) : (putCells encS 0 d cur).toList.take d.size = d.toList.map encS := by
 apply List.ext_getElem?
 intro t
 by_cases ht : t < d.size
 ·rw [List.getElem?_take_of_lt ht, Array.getElem?_toList, List.getElem?_map, Array.getElem?_toList]
  unfold putCells
  rw [Array.getElem?_mapIdx, Array.getElem?_eq_getElem (by omega : t < cur.size), Option.map_some, if_pos ⟨Nat.zero_le _, by omega⟩, Array.getElem?_eq_getElem ht]
  simp [getElem!_pos d t ht]
 ·rw [List.getElem?_eq_none (by rw [List.length_take]; omega), List.getElem?_eq_none (by simp; omega)]
theorem map_encS {n : Nat} (l : List (SU n)) : l.map encS = (l.map (·.1)).map fun s => Value.int .u64 (uI s) := by rw [List.map_map]; rfl
set_option maxHeartbeats 4000000 in
theorem sortU_spec {W : World} {base n : Nat} {v : Value} {l : List (SU n)} (hn : n ≤ 12) (h : OwnU W base v (l.map (·.1))) (hT : Tab W) (htab : 0 < base) (hlen : l.length ≤ 1048576) :
  Calls Tryd.prog 51 #[v, .func (.func 43) #[] #[]] W fun e w' => e = .returned (.tuple #[]) ∧ OwnU w' base v (sortU (l.map (·.1))) ∧ Go.RowKit.Below base W w' := by
 by_cases hl : l = []
 ·subst hl
  obtain ⟨p, c, rfl, _⟩ := own_shape' h
  have hcon := AnyF.slices_SortFunc_none (P := Tryd.prog) (ρ := sortU_ren) { sortU_lay with } p c (.func (.func 43) #[] #[]) W
  change Calls Tryd.prog 51 _ _ _ at hcon
  refine hcon.mono fun e w' ⟨he, hw⟩ => ⟨he, ?_, ?_⟩
  ·rw [hw]; exact h
  ·rw [hw]; exact Go.RowKit.Below.refl _ _
 ·have hl0 : 0 < l.length := List.length_pos_iff.2 hl
  obtain ⟨hxl, h | ⟨g, cap, cur, rfl, hb, hg, hnc, hcm, hcs, htake⟩⟩ := h
  ·rw [List.length_map] at h; omega
  ·rw [List.length_map] at hnc
   have hB : Blk W g cur 57 := hg
   have hlt := hB.lt
   have hsz : l.length ≤ cur.size := by rw [hcs]; omega
   rw [List.length_map, Nat.mul_one] at htake
   have eg : ∀ args w, (callFunc 43 args).run Tryd.prog w = .ok (.enter 43 args) w := enters_of Tryd.func43 (by kernel_rfl) rfl
   have hcon := Any.slices_SortFunc sortU_lay encS (fun x => rfl) cmpS (swo_s n) 43 #[] g 0 cap l.toArray W eg
    (fun q os dk _ x y => (compare_dspec hn x.2 y.2 (hT.mono (sortW_below hb hlt q dk os) htab)).mono fun e w' ⟨he, hd⟩ => ⟨he, hd.grow⟩)
    (fun j hj => ⟨by
     rw [Nat.zero_add, hB.cell]
     have hj' : j < l.length := by simpa using hj
     have := congrArg (fun z : List Value => z[j]?) htake
     rw [List.getElem?_take_of_lt hj', Array.getElem?_toList, List.getElem?_map, List.getElem?_map, List.getElem?_eq_getElem hj'] at this
     rw [this, getElem!_pos l.toArray j hj]; simp [encS], hB.free _⟩) hlt (by simp; omega)
   change Calls Tryd.prog 51 _ _ _ at hcon
   rw [List.length_map]
   refine hcon.mono fun e w' ⟨he, d', q, os, hp, hs, hw⟩ => ⟨he, ?_, ?_⟩
   ·have hpl : d'.size = l.length := by simpa using hp.1
    have hper : (d'.toList.map (·.1)).Perm (l.map (·.1)) := by
     have := hp.2.2
     have e1 : d'.toList.take l.length = d'.toList := List.take_of_length_le (by simp [hpl])
     have : d'.toList.Perm l := by simpa [hpl, e1] using this
     exact this.map _
    have hso : SortedU (d'.toList.map (·.1)) := by
     unfold SortedU
     rw [List.pairwise_map, List.pairwise_iff_getElem]
     intro i j hi hj hij
     have h1 := hs i j (Nat.zero_le _) hij (by simpa [hpl] using hj)
     unfold ltOf cmpS at h1
     have h2 := of_decide_eq_false h1
     rw [getElem!_pos d' j (by simpa using hj), getElem!_pos d' i (by simpa using hi)] at h2
     have h3 := cmpU_anti d'[j].1 d'[i].1
     simp only [Array.getElem_toList]
     rw [h3]; omega
    rw [← sortU_of hper hso, hw]
    refine ⟨by simp [hpl], .inr ⟨g, cap, putCells encS 0 d' cur, by simp [hpl], hb, sortW_blk hB q d' os, by simp [hpl]; exact hnc, hcm, by simp [putCells, hcs], ?_⟩⟩
    rw [← map_encS, List.length_map, Array.length_toList, Nat.mul_one]
    exact put_takeS d' cur (by rw [hpl]; exact hsz)
   ·rw [hw]; exact sortW_below hb hlt q d' os
end Go.Proofs.YtkcpnhigekopaaaDoor
end
