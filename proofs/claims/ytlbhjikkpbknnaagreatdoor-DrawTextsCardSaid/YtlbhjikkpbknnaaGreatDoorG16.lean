import Derived.Test.YtlbhjikkpbknnaaGreatDoorG15
import Derived.Sort.Grow
import Derived.Shelf.SlLaysF
import Derived.Test.YtlbhjikkpbknnaaGreatDoorProg
/-
  Given contracts of functions of the program, and laws for them, one behind the other.
-/
set_option linter.unusedVariables false
set_option linter.unusedSimpArgs false
set_option linter.unusedSectionVars false
section
namespace Go.Proofs.YtlbhjikkpbknnaaGreatDoor
open Go.RowKit Go.Rel Go.Draw
set_option maxRecDepth 100000
/-! lists of moves that are the same (wpStill_yes) -/
theorem mvs_open {w : World} {v : Value} {l : List MvI} (h : SlX w v l) : ∃ b cc, v = .slice b l.length cc ∧ l.length ≤ 9223372036854775807 ∧ ∀ (k : Nat) (x : MvI), l[k]? = some x → ∃ ib io, b = some ⟨ib, io, none⟩ ∧ ib < w.heap.size ∧ w.cell? ⟨ib, io + k * 3, none⟩ = some (.int .i64 x.1) ∧ w.cell? ⟨ib, io + k * 3 + 1, none⟩ = some (.int .i64 x.2.1) ∧ w.cell? ⟨ib, io + k * 3 + 2, none⟩ = some (.int .i64 x.2.2) := by
 rcases h.cases with ⟨hz, a, c, rfl, hc⟩ | ⟨ib, io, c, hv, hq1, hq2, _, hcs⟩
 ·have : l = [] := by simpa using hz
  subst this
  exact ⟨_, _, rfl, by simp, fun k x hx => by simp at hx⟩
 ·subst hv
  exact ⟨_, _, by rw [List.length_map], by simp at hq1 hq2; omega, fun k x hx => ⟨ib, io, rfl, hcs.1, mvI_cells hcs hx⟩⟩
theorem drop_atX {l : List MvI} {k : Nat} {x : MvI} (hx : l[k]? = some x) : l.drop k = x :: l.drop (k + 1) := by
 obtain ⟨h1, h2⟩ := List.getElem?_eq_some_iff.1 hx
 rw [← h2]; exact List.drop_eq_getElem_cons h1
theorem sameX_drop {l r : List MvI} {k : Nat} {x y : MvI} (hx : l[k]? = some x) (hy : r[k]? = some y) : (l.drop k == r.drop k) = (x == y && (l.drop (k + 1) == r.drop (k + 1))) := by
 rw [drop_atX hx, drop_atX hy]; rfl
set_option maxHeartbeats 4000000 in
theorem SameMoves_spec {w : World} {v u : Value} {l r : List MvI} (h : SlX w v l) (hr : SlX w u r) : Calls Tryz.prog 44 #[v, u] w fun e w' => e = .returned (.bool (l == r)) ∧ Below w.heap.size w w' := by
 obtain ⟨b, cc, rfl, hmx, hH⟩ := mvs_open h
 obtain ⟨b2, cc2, rfl, hmx2, hH2⟩ := mvs_open hr
 have HH := Lib.hid (And.intro hH hH2)
 clear hH hH2 h hr
 by_cases hlen : l.length = r.length
 ·obtain ⟨n, hn⟩ : ∃ n, n = r.length := ⟨_, rfl⟩
  rw [hlen, ← hn]
  have HL := Lib.hid (And.intro hlen hn)
  rw [hlen, ← hn] at hmx
  clear hlen hn hmx2
  go_enter Tryz.func44, Tryz.ntmps44
  go_wp2_with fail
  go_loopw [5] (fun iv wx => ∃ (k : Nat), k ≤ n ∧ iv = .int .i64 k ∧ Hid ((l == r) = (l.drop k == r.drop k)) ∧ Below w.heap.size w wx) (fun iv _ => n - (intOf iv).toNat)
  case atStart => exact ⟨0, Nat.zero_le _, rfl, Lib.hid rfl, Below.refl _ _⟩
  case round =>
   obtain ⟨k, hk, rfl, HI, hbel⟩ := hrel
   by_cases hlt : k < n
   ·obtain ⟨x, hx⟩ : ∃ x, l[k]? = some x := ⟨_, List.getElem?_eq_getElem (by have := HL.out; omega)⟩
    obtain ⟨y, hy⟩ : ∃ y, r[k]? = some y := ⟨_, List.getElem?_eq_getElem (by have := HL.out; omega)⟩
    obtain ⟨ib, io, rfl, lib, hc1, hc2, hc3⟩ := HH.out.1 k x hx
    obtain ⟨ib2, io2, rfl, lib2, hd1, hd2, hd3⟩ := HH.out.2 k y hy
    have HX := Lib.hid (sameX_drop hx hy)
    have c1 := ((bcell hbel).1 ib _ lib).trans hc1
    have c2 := ((bcell hbel).1 ib _ lib).trans hc2
    have c3 := ((bcell hbel).1 ib _ lib).trans hc3
    have d1 := ((bcell hbel).1 ib2 _ lib2).trans hd1
    have d2 := ((bcell hbel).1 ib2 _ lib2).trans hd2
    have d3 := ((bcell hbel).1 ib2 _ lib2).trans hd3
    obtain ⟨xa, xb, xc⟩ := x
    obtain ⟨ya, yb, yc⟩ := y
    have hsz := hbel.size
    have lb := Nat.lt_of_lt_of_le lib hsz
    have lb2 := Nat.lt_of_lt_of_le lib2 hsz
    clear hx hy hc1 hc2 hc3 hd1 hd2 hd3
    go_wp2_with fail
    refine Go.Rel.region_still_tail 8 (by kernel_rfl) (by kernel_rfl) ?_
    simp only [List.take_succ_cons, List.take_zero, List.drop_succ_cons, List.drop_zero]
    iterate 8 (with_reducible refine wpStill_yes (by kernel_rfl) (fun K hK => ?_); go_simp; refine hK _ ?_; clear hK K)
    refine wpStill_nil ?_
    clear c1 c2 c3 d1 d2 d3 lib lib2 lb lb2 hsz
    by_cases he : xa = ya ∧ xb = yb ∧ xc = yc
    ·obtain ⟨rfl, rfl, rfl⟩ := he
     go_wp2_with fail
     refine ⟨⟨k + 1, by omega, by simp, Lib.hid ?_, bel_drew hbel⟩, by simp [intOf]; omega⟩
     rw [HI.out, HX.out]; simp
    ·have HE := Lib.hid he
     clear he
     go_wp2_with fail
     all_goals first | exact absurd ⟨by assumption, by assumption, by assumption⟩ HE.out | skip
     all_goals go_ret
     all_goals
      refine ⟨ret_bool ?_, bel_drew hbel⟩
      have h9 := HE.out
      rw [HI.out, HX.out, beq_eq_false_iff_ne.2 (fun e => h9 (by simpa using e))]; rfl
   ·obtain rfl : k = n := by omega
    go_wp2_with fail
    go_ret
    refine ⟨ret_bool ?_, hbel⟩
    rw [HI.out, List.drop_eq_nil_of_le (by have := HL.out; omega), List.drop_eq_nil_of_le (by have := HL.out; omega)]; rfl
 ·have hl2 : ¬ ((l.length : Int) = r.length) := fun e => hlen (Int.ofNat.inj e)
  have HL := Lib.hid hlen
  clear hlen
  go_enter Tryz.func44, Tryz.ntmps44
  go_wp2_with fail
  go_ret
  refine ⟨ret_bool ?_, Below.refl _ _⟩
  symm
  rw [beq_eq_false_iff_ne]
  intro e; exact HL.out (by rw [e])
end Go.Proofs.YtlbhjikkpbknnaaGreatDoor
end
section
namespace Go.Proofs.YtlbhjikkpbknnaaGreatDoor
open Go.RowKit Go.Rel Go.Draw
set_option maxRecDepth 100000
/-! the laws' own: few, short -/
set_option maxHeartbeats 4000000 in
theorem few_spec {w : World} {v : Value} {l : List Sol} (most : Int) (H : SlS w v l) : Calls Tryz.prog 10 #[v, .int .i64 most] w fun e w' => e = .returned (.bool (decide ((l.length : Int) ≤ most) || (decide (12 < l.length) && decide (l.length ≤ 15)))) ∧ w' = w := by
 obtain ⟨a, n, c, rfl, hn, hm, -⟩ := H.out
 clear H
 subst hn
 by_cases h1 : (l.length : Int) ≤ most
 ·go_enter Tryz.func10, Tryz.ntmps10
  go_wp2_with fail
  go_ret
  exact ⟨ret_bool (by simp [h1]), rfl⟩
 ·have d1 : decide ((l.length : Int) ≤ most) = false := by simpa using h1
  by_cases h2 : 12 < l.length
  ·have d2 : decide (12 < l.length) = true := by simpa using h2
   go_enter Tryz.func10, Tryz.ntmps10
   go_wp2_with fail
   go_ret
   exact ⟨ret_bool (by simp [d1, h2]; omega), rfl⟩
  ·have d2 : decide (12 < l.length) = false := by simpa using h2
   go_enter Tryz.func10, Tryz.ntmps10
   go_wp2_with fail
   go_ret
   exact ⟨ret_bool (by simp [d1, h2]), rfl⟩
set_option maxHeartbeats 4000000 in
theorem short_spec {w : World} {v : Value} {l : List (List Int)} (h : SlLL w v l) : Calls Tryz.prog 11 #[v] w fun e w' => e = .returned (.bool (l.all fun q => decide (q.length ≤ 20))) ∧ w' = w := by
 obtain ⟨us, h1, hu1, hs1⟩ := h
 obtain ⟨b, cc, rfl, hmx, hH⟩ := vals_open h1
 have HH := Lib.hid (And.intro hH (And.intro hs1 hu1))
 clear hH h1 hs1 hu1
 go_enter Tryz.func11, Tryz.ntmps11
 go_wp2_with fail
 go_loopw [3] (fun iv wx => ∃ (k : Nat), k ≤ us.length ∧ iv = .int .i64 k ∧ Hid ((l.all fun q => decide (q.length ≤ 20)) = ((l.drop k).all fun q => decide (q.length ≤ 20))) ∧ wx = w) (fun iv _ => us.length - (intOf iv).toNat)
 case atStart => exact ⟨0, Nat.zero_le _, rfl, Lib.hid rfl, rfl⟩
 case round =>
  obtain ⟨k, hk, rfl, HI, hwr⟩ := hrel
  subst hwr
  by_cases hlt : k < us.length
  ·obtain ⟨x, hx⟩ : ∃ x, us[k]? = some x := ⟨_, List.getElem?_eq_getElem hlt⟩
   obtain ⟨lx, hlx⟩ : ∃ q, l[k]? = some q := ⟨_, List.getElem?_eq_getElem (by have := HH.out.2.2; omega)⟩
   obtain ⟨ib, io, rfl, lib, hc⟩ := HH.out.1 k x hx
   obtain ⟨px, cx, hvx, _, _⟩ := ints_open (HH.out.2.1 k x lx hx hlx)
   rw [hvx] at hc
   have HX := Lib.hid (drop_atL hlx)
   clear hx hlx hvx
   by_cases hq : 20 < lx.length
   ·have q1 : (20 : Int) < lx.length := by omega
    have HQ := Lib.hid hq
    go_wp2_with fail
    go_ret
    refine ⟨ret_bool ?_, rfl⟩
    rw [HI.out, HX.out, List.all_cons, decide_eq_false (by have := HQ.out; omega)]; rfl
   ·have q1 : ¬ ((20 : Int) < lx.length) := by omega
    have q2 : (lx.length : Int) ≤ 20 := by omega
    have HQ := Lib.hid hq
    go_wp2_with fail
    refine ⟨⟨k + 1, by omega, by simp, Lib.hid ?_, trivial⟩, by simp [intOf]; omega⟩
    rw [HI.out, HX.out, List.all_cons, decide_eq_true (by have := HQ.out; omega), Bool.true_and]
  ·obtain rfl : k = us.length := by omega
   go_wp2_with fail
   go_ret
   refine ⟨ret_bool ?_, rfl⟩
   rw [HI.out, List.drop_eq_nil_of_le (by have := HH.out.2.2; omega)]; rfl
end Go.Proofs.YtlbhjikkpbknnaaGreatDoor
end
section
namespace Go.Proofs.YtlbhjikkpbknnaaGreatDoor
open Go.RowKit Go.Rel Go.Draw
set_option maxRecDepth 100000
/-! comparing numbers -/
def cmpI (a b : Int) : Int := if a < b then -1 else if b < a then 1 else 0
set_option maxHeartbeats 4000000 in
theorem nan_spec (x : Int) (w : World) : Calls Tryz.prog 155 #[.int .i64 x] w fun e w' => e = .returned (.bool false) ∧ w' = w := by
 go_enter Tryz.func155, Tryz.ntmps155
 go_wp2_with fail
 go_ret
 exact ⟨ret_bool (by simp), rfl⟩
set_option maxHeartbeats 4000000 in
theorem cmp_spec (a b : Int) (w : World) : Calls Tryz.prog 138 #[.int .i64 a, .int .i64 b] w fun e w' => e = .returned (.int .i64 (cmpI a b)) ∧ w' = w := by
 have HA := Lib.hid (nan_spec a w)
 have HB := Lib.hid (nan_spec b w)
 obtain ⟨c, hc⟩ : ∃ c, c = cmpI a b := ⟨_, rfl⟩
 rw [← hc]
 have HC := Lib.hid hc; clear hc
 go_enter Tryz.func138, Tryz.ntmps138
 go_wp2_with fail
 refine HA.out.mono ?_
 rintro e w2 ⟨rfl, hw2⟩
 have hw3 := hw2.symm
 subst hw3
 clear hw2
 go_wp2_with fail
 refine HB.out.mono ?_
 rintro e w2 ⟨rfl, hw2⟩
 have hw3 := hw2.symm
 subst hw3
 clear hw2
 by_cases h1 : a < b
 ·go_wp2_with fail
  go_ret
  exact ⟨ret_int (by rw [HC.out]; unfold cmpI; rw [if_pos h1]), rfl⟩
 ·have h2 : ¬ (a < b) := h1
  by_cases h3 : b < a
  ·go_wp2_with fail
   go_ret
   exact ⟨ret_int (by rw [HC.out]; unfold cmpI; rw [if_neg (by omega), if_pos (by omega)]), rfl⟩
  ·go_wp2_with fail
   go_ret
   exact ⟨ret_int (by rw [HC.out]; unfold cmpI; rw [if_neg (by omega), if_neg (by omega)]), rfl⟩
def cmpLI : List Int → List Int → Int
 | [], [] => 0
 | [], _ :: _ => -1
 | _ :: _, [] => 1
 | a :: l, b :: r => if cmpI a b = 0 then cmpLI l r else cmpI a b
set_option maxHeartbeats 4000000 in
theorem cmpL_spec {w : World} {v u : Value} {l r : List Int} (h : SlI w v l) (hr : SlI w u r) : Calls Tryz.prog 140 #[v, u] w fun e w' => e = .returned (.int .i64 (cmpLI l r)) ∧ w' = w := by
 obtain ⟨b, cc, rfl, hmx, hH⟩ := ints_open h
 obtain ⟨b2, cc2, rfl, hmx2, hH2⟩ := ints_open hr
 have HH := Lib.hid (And.intro hH hH2)
 clear hH hH2 h hr
 go_enter Tryz.func140, Tryz.ntmps140
 go_wp2_with fail
 go_loopw [11] (fun iv wx => ∃ (k : Nat), k ≤ l.length ∧ iv = .int .i64 k ∧ Hid (cmpLI l r = cmpLI (l.drop k) (r.drop k)) ∧ wx = w) (fun iv _ => l.length - (intOf iv).toNat)
 case atStart => exact ⟨0, Nat.zero_le _, rfl, Lib.hid rfl, rfl⟩
 case round =>
  obtain ⟨k, hk, rfl, HI, hwr⟩ := hrel
  subst hwr
  by_cases hlt : k < l.length
  ·obtain ⟨x, hx⟩ : ∃ x, l[k]? = some x := ⟨_, List.getElem?_eq_getElem hlt⟩
   obtain ⟨ib, io, rfl, lib, hc⟩ := HH.out.1 k x hx
   have hck := hc k x hx
   have HX := Lib.hid (drop_at hx)
   clear hx hc
   by_cases h2 : k < r.length
   ·obtain ⟨y, hy⟩ : ∃ y, r[k]? = some y := ⟨_, List.getElem?_eq_getElem h2⟩
    obtain ⟨ib2, io2, rfl, lib2, hc2⟩ := HH.out.2 k y hy
    have hck2 := hc2 k y hy
    have HY := Lib.hid (drop_at hy)
    have HC := Lib.hid (cmp_spec x y wr)
    clear hy hc2
    go_wp2_with fail
    refine HC.out.mono ?_
    rintro e w2 ⟨rfl, hw2⟩
    have hw3 := hw2.symm
    subst hw3
    clear hw2
    obtain ⟨c, hc⟩ : ∃ c, c = cmpI x y := ⟨_, rfl⟩
    rw [← hc]
    have HCC := Lib.hid hc; clear hc
    by_cases h3 : c = 0
    ·subst h3
     go_wp2_with fail
     refine ⟨⟨k + 1, by omega, by simp, Lib.hid ?_, trivial⟩, by simp [intOf]; omega⟩
     rw [HI.out, HX.out, HY.out, cmpLI, if_pos HCC.out.symm]
    ·go_wp2_with fail
     go_ret
     refine ⟨ret_int ?_, rfl⟩
     rw [HI.out, HX.out, HY.out, cmpLI, if_neg (by rw [← HCC.out]; exact h3), HCC.out]
   ·have h3 : r.length ≤ k := by omega
    go_wp2_with fail
    go_ret
    refine ⟨ret_int ?_, rfl⟩
    rw [HI.out, HX.out, List.drop_eq_nil_of_le h3]; rfl
  ·obtain rfl : k = l.length := by omega
   by_cases h2 : l.length < r.length
   ·have HE := Lib.hid h2
    go_wp2_with fail
    go_ret
    refine ⟨ret_int ?_, rfl⟩
    rw [HI.out, List.drop_length, List.drop_eq_getElem_cons HE.out]; rfl
   ·have HE := Lib.hid h2
    go_wp2_with fail
    go_ret
    refine ⟨ret_int ?_, rfl⟩
    rw [HI.out, List.drop_length, List.drop_eq_nil_of_le (by have := HE.out; omega)]; rfl
end Go.Proofs.YtlbhjikkpbknnaaGreatDoor
end
section
namespace Go.Proofs.YtlbhjikkpbknnaaGreatDoor
open Go.RowKit Go.Rel Go.Draw
set_option maxRecDepth 100000
/-! the first that is not nought -/
def orI : List Int → Int
 | [] => 0
 | x :: l => if x = 0 then orI l else x
set_option maxHeartbeats 4000000 in
theorem or_spec {w : World} {v : Value} {l : List Int} (h : SlI w v l) : Calls Tryz.prog 137 #[v] w fun e w' => e = .returned (.int .i64 (orI l)) ∧ w' = w := by
 obtain ⟨b, cc, rfl, hmx, hH⟩ := ints_open h
 have HH := Lib.hid hH
 clear hH h
 go_enter Tryz.func137, Tryz.ntmps137
 go_wp2_with fail
 go_loopw [8] (fun iv wx => ∃ (k : Nat), k ≤ l.length ∧ iv = .int .i64 k ∧ Hid (orI l = orI (l.drop k)) ∧ wx = w) (fun iv _ => l.length - (intOf iv).toNat)
 case atStart => exact ⟨0, Nat.zero_le _, rfl, Lib.hid rfl, rfl⟩
 case round =>
  obtain ⟨k, hk, rfl, HI, hwr⟩ := hrel
  subst hwr
  by_cases hlt : k < l.length
  ·obtain ⟨x, hx⟩ : ∃ x, l[k]? = some x := ⟨_, List.getElem?_eq_getElem hlt⟩
   obtain ⟨ib, io, rfl, lib, hc⟩ := HH.out k x hx
   have hck := hc k x hx
   have HX := Lib.hid (drop_at hx)
   clear hx hc
   by_cases h3 : x = 0
   ·subst h3
    go_wp2_with fail
    refine ⟨⟨k + 1, by omega, by simp, Lib.hid ?_, trivial⟩, by simp [intOf]; omega⟩
    rw [HI.out, HX.out, orI, if_pos rfl]
   ·go_wp2_with fail
    go_ret
    refine ⟨ret_int ?_, rfl⟩
    rw [HI.out, HX.out, orI, if_neg h3]
  ·obtain rfl : k = l.length := by omega
   go_wp2_with fail
   go_ret
   refine ⟨ret_int ?_, rfl⟩
   rw [HI.out, List.drop_length]; rfl
end Go.Proofs.YtlbhjikkpbknnaaGreatDoor
end
section
namespace Go.Proofs.YtlbhjikkpbknnaaGreatDoor
open Go.RowKit Go.Rel Go.Draw
set_option maxRecDepth 100000
/-! whether a set holds one of those that are there -/
theorem drop_atU {l : List U} {k : Nat} {x : U} (hx : l[k]? = some x) : l.drop k = x :: l.drop (k + 1) := by
 obtain ⟨h1, h2⟩ := List.getElem?_eq_some_iff.1 hx
 rw [← h2]; exact List.drop_eq_getElem_cons h1
set_option maxHeartbeats 4000000 in
theorem paths2_spec (x : U) {W : World} {bs : Nat} {s : U} (B : Blk W bs #[.int .u64 (uI s)] 81) : Calls Tryz.prog 132 #[.int .u64 (uI x), .pointer (some ⟨bs, 0, none⟩)] W fun e w' => e = .returned (.bool (subB x s)) ∧ w' = W := by
 have cb := B.cell; have lb := B.lt
 have ea := bits_andNot_u x s
 have eb := beq_u0 (x &&& ~~~s)
 clear B
 go_enter Tryz.func132, Tryz.ntmps132
 go_wp2_with fail
 go_ret
 exact ⟨ret_bool (by unfold subB; rfl), rfl⟩
set_option maxHeartbeats 8000000 in
theorem index_sets {v : Value} {l : List U} {c0 : Value} {p : U → Bool} {w : World} (h : SlU w v l)
  (hf : ∀ x ∈ l, Calls Tryz.prog 132 #[.int .u64 (uI x), c0] w fun e w' => e = .returned (.bool (p x)) ∧ w' = w) :
  Calls Tryz.prog 151 #[v, .func (.func 132) #[] #[c0]] w fun e w' => w' = w ∧ ∃ i : Int, e = .returned (.int .i64 i) ∧ (0 ≤ i ↔ l.any p = true) := by
 obtain ⟨b, nn, cc, rfl, hnn, hmx, hH⟩ : ∃ b nn cc, v = .slice b nn cc ∧ nn = l.length ∧ l.length ≤ 9223372036854775807 ∧ ∀ (k : Nat) (x : U), l[k]? = some x → ∃ ib io, b = some ⟨ib, io, none⟩ ∧ ib < w.heap.size ∧ ∀ (j : Nat) (y : U), l[j]? = some y → w.cell? ⟨ib, io + j, none⟩ = some (.int .u64 (uI y)) := by
  rcases h.cases with ⟨hz, a, c, rfl, hc⟩ | ⟨ib, io, c, hv, hq1, hq2, _, hcs⟩
  ·have : l = [] := by simpa using hz
   subst this
   exact ⟨_, _, _, rfl, rfl, by simp, fun k x hx => by simp at hx⟩
  ·subst hv
   exact ⟨_, _, _, rfl, List.length_map _, by simp at hq1 hq2; omega, fun k x hx => ⟨ib, io, rfl, hcs.1, fun j y hy => u_cell hcs hy⟩⟩
 subst hnn
 have HH := Lib.hid (And.intro hH hf)
 clear hH h hf
 go_enter Tryz.func151, Tryz.ntmps151
 go_wp2_with fail
 go_loopw [8] (fun iv wx => ∃ (k : Nat), k ≤ l.length ∧ iv = .int .i64 k ∧ Hid (l.any p = (l.drop k).any p) ∧ wx = w) (fun iv _ => l.length - (intOf iv).toNat)
 case atStart => exact ⟨0, Nat.zero_le _, rfl, Lib.hid rfl, rfl⟩
 case round =>
  obtain ⟨k, hk, rfl, HI, hwr⟩ := hrel
  subst hwr
  by_cases hlt : k < l.length
  ·obtain ⟨x, hx⟩ : ∃ x, l[k]? = some x := ⟨_, List.getElem?_eq_getElem hlt⟩
   have hdrop : l.drop k = x :: l.drop (k + 1) := by
    obtain ⟨h1, h2⟩ := List.getElem?_eq_some_iff.1 hx
    rw [← h2]; exact List.drop_eq_getElem_cons h1
   obtain ⟨ib, io, rfl, lib, hc⟩ := HH.out.1 k x hx
   have hck := hc k x hx
   have HF := Lib.hid (HH.out.2 x (List.mem_of_getElem? hx))
   have HX := Lib.hid hdrop
   clear hdrop hx hc
   go_wp2_with fail
   refine HF.out.mono ?_
   rintro e w2 ⟨rfl, hw2⟩
   have hw3 := hw2.symm
   subst hw3
   clear hw2
   cases hp : p x
   ·have HP := Lib.hid hp; clear hp
    go_wp2_with fail
    refine ⟨⟨k + 1, by omega, by simp, Lib.hid ?_, trivial⟩, by simp [intOf]; omega⟩
    rw [HI.out, HX.out, List.any_cons, HP.out, Bool.false_or]
   ·have HP := Lib.hid hp; clear hp
    go_wp2_with fail
    go_ret
    refine ⟨rfl, _, rfl, ?_⟩
    rw [HI.out, HX.out, List.any_cons, HP.out]
    simp
  ·obtain rfl : k = l.length := by omega
   go_wp2_with fail
   go_ret
   refine ⟨rfl, _, rfl, ?_⟩
   rw [HI.out, List.drop_length]
   simp
set_option maxHeartbeats 8000000 in
theorem contains_sets {v : Value} {l : List U} {c0 : Value} {p : U → Bool} {w : World} (h : SlU w v l)
  (hf : ∀ x ∈ l, Calls Tryz.prog 132 #[.int .u64 (uI x), c0] w fun e w' => e = .returned (.bool (p x)) ∧ w' = w) :
  Calls Tryz.prog 131 #[v, .func (.func 132) #[] #[c0]] w fun e w' => e = .returned (.bool (l.any p)) ∧ w' = w := by
 have HI := Lib.hid (index_sets h hf)
 clear h hf
 go_enter Tryz.func131, Tryz.ntmps131
 go_wp2_with fail
 refine HI.out.mono ?_
 rintro e w2 ⟨hw, i, rfl, hi⟩
 have hw3 := hw.symm
 subst hw3
 have HX := Lib.hid hi
 clear hw hi
 go_wp2_with fail
 go_ret
 refine ⟨ret_bool ?_, rfl⟩
 rw [Bool.eq_iff_iff, decide_eq_true_eq]
 exact HX.out
end Go.Proofs.YtlbhjikkpbknnaaGreatDoor
end
section
namespace Go.Proofs.YtlbhjikkpbknnaaGreatDoor
open Go.RowKit Go.Rel Go.Draw
set_option maxRecDepth 100000
/-! whether a set is one with which a piece goes -/
set_option maxHeartbeats 4000000 in
theorem paths1_spec {W : World} {bp bm g mb p : Nat} {m : List Sol} {S : U} (Bp : Blk W bp #[.int .i64 (p : Int)] 3) (Bm : Blk W bm #[.pointer (some ⟨g, 0, none⟩)] 80) (hM : Mould W g mb m) (hm : m.length ≤ 12) (hT : Tab W) (hS : Sub S (allU m.length)) (hp : p < 64) : Calls Tryz.prog 130 #[.int .u64 (uI S), .pointer (some ⟨bp, 0, none⟩), .pointer (some ⟨bm, 0, none⟩)] W fun e w' => e = .returned (.bool (S.getLsbD p && firstM m S)) ∧ Ways w' mb m ∧ W.grownBy w' (some mb) := by
 have cp := Bp.cell; have lp := Bp.lt
 have cm := Bm.cell; have lm := Bm.lt
 have HF := Lib.hid (first_spec hM hm hT S hS)
 have HW := Lib.hid hM.ways
 have eb := bitAt1_u S p
 have em : min p 64 = p := Nat.min_eq_left (by omega)
 clear Bp Bm hM hT hS
 cases hb : S.getLsbD p
 ·rw [hb] at eb
  clear hb
  go_enter Tryz.func130, Tryz.ntmps130
  go_wp2_with fail
  go_ret
  exact ⟨rfl, HW.out, gb_refl _ _⟩
 ·rw [hb] at eb
  clear hb
  go_enter Tryz.func130, Tryz.ntmps130
  go_wp2_with fail
  refine HF.out.mono ?_
  rintro e w2 ⟨rfl, hw, hg⟩
  go_wp2_with fail
  go_ret
  exact ⟨ret_bool (by simp), hw, hg⟩
end Go.Proofs.YtlbhjikkpbknnaaGreatDoor
end
section
namespace Go.Proofs.YtlbhjikkpbknnaaGreatDoor
open Go.RowKit Go.Rel Go.Draw
set_option maxRecDepth 100000
/-! the order of sets, in the program's words -/
theorem cmpLI_nat : ∀ l r : List Nat, cmpLI (intsL l) (intsL r) = cmpN l r
 | [], [] => rfl
 | [], _ :: _ => rfl
 | _ :: _, [] => rfl
 | a :: l, b :: r => by
  have ih := cmpLI_nat l r
  show (if cmpI (a : Int) (b : Int) = 0 then cmpLI (intsL l) (intsL r) else cmpI (a : Int) (b : Int)) = _
  rw [ih]
  unfold cmpI
  rw [cmpN]
  by_cases h1 : a < b
  ·have h2 : (a : Int) < b := by omega
   simp [h1, h2]
  ·by_cases h3 : b < a
   ·have h2 : ¬ ((a : Int) < b) := by omega
    have h4 : (b : Int) < a := by omega
    simp [h1, h2, h3, h4]
   ·have h2 : ¬ ((a : Int) < b) := by omega
    have h4 : ¬ ((b : Int) < a) := by omega
    simp [h1, h2, h3, h4]
theorem cmpU_or (a b : U) : orI [cmpI (cardU a : Nat) (cardU b : Nat), cmpLI (intsL (listU a)) (intsL (listU b))] = cmpU a b := by
 rw [cmpLI_nat]
 unfold cmpU cardU cmpI
 by_cases h1 : (listU a).length < (listU b).length
 ·have h2 : ((listU a).length : Int) < (listU b).length := by omega
  rw [if_pos h2, if_pos h1]; rfl
 ·have h2 : ¬ (((listU a).length : Int) < (listU b).length) := by omega
  rw [if_neg h2, if_neg h1]
  by_cases h3 : (listU b).length < (listU a).length
  ·have h4 : ((listU b).length : Int) < (listU a).length := by omega
   rw [if_pos h4, if_pos h3]; rfl
  ·have h4 : ¬ (((listU b).length : Int) < (listU a).length) := by omega
   rw [if_neg h4, if_neg h3, orI, if_pos rfl, orI]
   split
   ·rename_i h; rw [h]; rfl
   ·rfl
end Go.Proofs.YtlbhjikkpbknnaaGreatDoor
end
section
namespace Go.Proofs.YtlbhjikkpbknnaaGreatDoor
open Go.RowKit Go.Rel Go.Draw
set_option maxRecDepth 100000
/-! comparing sets, of a count that is given -/
theorem sl_two {W : World} {b : Nat} {x y : Int} {t : TypeId} (h : Blk W b #[.int .i64 x, .int .i64 y] t) : SlI W (.slice (some ⟨b, 0, none⟩) 2 2) [x, y] := by
 refine ⟨_, 2, rfl, by simp, by simp, .inr ⟨b, 0, rfl, h.lt, fun i j u hu => ?_⟩⟩
 rw [h.cell]
 match i, j with
 | 0, 0 => simpa using hu
 | 1, 0 => simpa using hu
 | 0, j + 1 => simp at hu
 | 1, j + 1 => simp at hu
 | i + 2, _ => simp at hu
set_option maxHeartbeats 4000000 in
theorem compare_of {w : World} {a b : U} (hT : Tab w) (HO : ∀ (s : U) (W : World), Calls Tryz.prog 139 #[.int .u64 (uI s)] W fun e w' => e = .returned (.int .i64 (cardU s : Nat)) ∧ w' = W) : Calls Tryz.prog 102 #[.int .u64 (uI a), .int .u64 (uI b)] w fun e w' => e = .returned (.int .i64 (cmpU a b)) ∧ Below w.heap.size w w' := by
 have HH := Lib.hid (And.intro HO hT)
 clear HO hT
 go_enter Tryz.func102, Tryz.ntmps102
 go_wp2_with fail
 refine (HH.out.1 a w).mono ?_
 rintro e w2 ⟨rfl, hw2⟩
 have hw3 := hw2.symm
 subst hw3
 clear hw2
 go_wp2_with fail
 refine (HH.out.1 b w).mono ?_
 rintro e w3 ⟨rfl, hw2⟩
 have hw3 := hw2.symm
 subst hw3
 clear hw2
 go_wp2_with fail
 refine (cmp_spec _ _ w).mono ?_
 rintro e w4 ⟨rfl, hw2⟩
 have hw3 := hw2.symm
 subst hw3
 clear hw2
 go_wp2_with fail
 refine (list_spec a w HH.out.2).mono ?_
 rintro e w5 ⟨u5, rfl, h5, hb5⟩
 have H5 := Lib.hid (And.intro h5 hb5); clear h5 hb5
 go_wp2_with fail
 refine (list_spec b w5 (HH.out.2.grow H5.out.2)).mono ?_
 rintro e w6 ⟨u6, rfl, h6, hb6⟩
 have H6 := Lib.hid (And.intro h6 (And.intro hb6 (own_bel H5.out.1 hb6))); clear h6 hb6
 go_wp2_with fail
 refine (cmpL_spec (OwnI.sl H6.out.2.2) (OwnI.sl H6.out.1)).mono ?_
 rintro e w7 ⟨rfl, hw2⟩
 have hw3 := hw2.symm
 subst hw3
 clear hw2
 go_wp2_with fail
 refine (or_spec (sl_two (Blk.new _ _ _))).mono ?_
 rintro e w8 ⟨rfl, hw2⟩
 have hw3 := hw2.symm
 subst hw3
 clear hw2
 go_wp2_with fail
 go_ret
 exact ⟨ret_int (cmpU_or a b), bel_trans H5.out.2 (bel_trans H6.out.2.1 (bel_alloc (bel_refl _) _))⟩
end Go.Proofs.YtlbhjikkpbknnaaGreatDoor
end
section
namespace Go.Proofs.YtlbhjikkpbknnaaGreatDoor
open Go.RowKit Go.Rel Go.Draw
set_option maxRecDepth 100000
/-! list and compare, and how many draws there were -/
/-- new blocks alone, and no draw is taken back -/
def Dw (w w' : World) : Prop := Below w.heap.size w w' ∧ w.drawn ≤ w'.drawn
theorem Dw.refl (w : World) : Dw w w := ⟨Below.refl _ _, Nat.le_refl _⟩
theorem Dw.trans {a b c : World} (h : Dw a b) (k : Dw b c) : Dw a c := ⟨bel_trans h.1 k.1, Nat.le_trans h.2 k.2⟩
theorem Dw.alloc {a b : World} (h : Dw a b) (o : Obj) : Dw a (b.alloc o) := ⟨bel_alloc h.1 _, h.2⟩
theorem Dw.grow {w w' : World} (h : Dw w w') : ∃ q os, w' = Go.Sort.grow (w.drewN q) os := by
 refine ⟨w'.drawn - w.drawn, w'.heap.extract w.heap.size w'.heap.size, ?_⟩
 obtain ⟨hb, hd⟩ := h
 have e1 := hb.os; have e2 := hb.tape; have e3 := hb.output; have e4 := hb.size; have e5 := hb.block
 have hh : w.heap ++ w'.heap.extract w.heap.size w'.heap.size = w'.heap := by
  apply Array.ext_getElem?
  intro k
  rw [Array.getElem?_append]
  split
  ·rename_i hk; exact (e5 k hk).symm
  ·rename_i hk
   rw [Array.getElem?_extract]
   split
   ·rw [show w.heap.size + (k - w.heap.size) = k by omega]
   ·rw [Array.getElem?_eq_none (by omega)]
 obtain ⟨h1, t1, d1, o1, u1⟩ := w
 obtain ⟨h2, t2, d2, o2, u2⟩ := w'
 simp only at e1 e2 e3 hd hh
 subst e1 e2 e3
 simp only [Go.Sort.grow, World.drewN, hh, World.mk.injEq, true_and, and_true]
 omega
set_option maxHeartbeats 2000000 in
theorem list_dspec (s : U) (w : World) (hT : Tab w) : Calls Tryz.prog 70 #[.int .u64 (uI s)] w fun e w' => ∃ u, e = .returned u ∧ OwnI w' w.heap.size u (intsL (listU s)) ∧ Dw w w' := by
 obtain ⟨i0, hi, hz0, hz1, hz2⟩ := info_parts infoInt
 have HI0 := Lib.hid (And.intro hi (And.intro hz0 (And.intro hz1 hz2))); clear hi hz0 hz1 hz2
 have HT := Lib.hid hT; clear hT
 obtain ⟨L, hL⟩ : ∃ L, L = listU s := ⟨_, rfl⟩
 rw [← hL]
 have HL := Lib.hid hL
 have HLL : Hid (L.length ≤ 64) := Lib.hid (by rw [hL]; exact cardU_le s)
 clear hL
 go_enter Tryz.func70, Tryz.ntmps70
 go_wp2_with fail
 go_loopw [0, 3] (fun sv u wr => ∃ (q : U) (pre : List Nat), sv = .int .u64 (uI q) ∧ Hid (pre ++ listU q = L) ∧ Hid (OwnI wr w.heap.size u (intsL pre)) ∧ Below w.heap.size w wr ∧ Hid (w.drawn ≤ wr.drawn)) (fun sv _ _ => cardU (BitVec.ofInt 64 (intOf sv)))
 case atStart => exact ⟨s, [], rfl, Lib.hid (by rw [HL.out]; rfl), Lib.hid (show OwnI w w.heap.size (.slice none 0 0) (intsL []) from World.ownsRow_nil _ _ _ _), Below.refl _ _, Lib.hid (Nat.le_refl _)⟩
 case round =>
  obtain ⟨q, pre, rfl, HP, hO, hbel, HD⟩ := hrel
  have hsz := hbel.size
  by_cases hq : q = 0
  ·have e0 : (uI q != 0) = false := by rw [bne_u0, hq]; rfl
   have HQ := Lib.hid hq; clear hq
   go_wp2_with fail
   go_ret
   refine ⟨_, rfl, ?_, hbel, HD.out⟩
   have := HP.out
   rw [HQ.out, listU_zero, List.append_nil] at this
   rw [← this]
   exact hO.out
  ·have e0 : (uI q != 0) = true := by rw [bne_u0]; simpa using hq
   have ed := drop_u q
   have HQ := Lib.hid hq; clear hq
   go_wp2_with fail
   refine (tz_spec q HQ.out _ (HT.out.grow hbel)).mono ?_
   rintro e w1 ⟨rfl, hw1⟩
   have hw2 := hw1.symm
   subst hw2
   clear hw1
   have hpl : pre.length + cardU q ≤ 64 := by
    have := congrArg List.length HP.out
    have h2 := HLL.out
    rw [List.length_append] at this
    unfold cardU; omega
   have hx := hO.out
   unfold OwnI at hx
   rw [intsL_length] at hx
   have HX := Lib.hid hx; clear hx
   go_wp2_with (first
    | (at_builtin; refine wpList_append_ownD rfl _ _ 23 rfl w.heap.size 3 i0 (.int .i64 0) 1 8 Tryz.underlying23 HI0.out.1 HI0.out.2.1 HI0.out.2.2.1 HI0.out.2.2.2 rfl (by decide) _ _ _ rfl (HX.out.alloc _) ⟨wr.heap.size, 0, none⟩ 1 1 [.int .i64 (lowU q : Nat)] rfl rfl (cell_one_new _ _ _) (fun x hx => by simp at hx; subst hx; rfl) (by unfold maxLen; omega) (by omega) (by simp; omega) (by decide) ?_; intro v' w3 hown' hgrow3 hdr3))
   go_roundw
   case rel => exact ⟨q &&& (q - 1), pre ++ [lowU q], rfl, Lib.hid (by rw [List.append_assoc]; show pre ++ (lowU q :: listU (q &&& (q - 1))) = L; rw [← listU_cons q HQ.out]; exact HP.out), Lib.hid (by unfold OwnI; rw [intsL_length, List.length_append]; unfold intsL at *; rw [List.map_append, List.map_append]; exact hown'), (bel_alloc hbel _).grown hgrow3 (by simp; omega) (fun j hj => (HX.out.lt j hj).1), Lib.hid (Nat.le_trans HD.out hdr3)⟩
   case measure =>
    show cardU (BitVec.ofInt 64 (uI (q &&& (q - 1)))) < cardU (BitVec.ofInt 64 (uI q))
    rw [ofInt_uI, ofInt_uI]
    have := cardU_drop q HQ.out
    omega
end Go.Proofs.YtlbhjikkpbknnaaGreatDoor
end
section
namespace Go.Proofs.YtlbhjikkpbknnaaGreatDoor
open Go.RowKit Go.Rel Go.Draw
set_option maxRecDepth 100000
/-! comparing sets of at most twelve pieces -/
theorem add_u (a b : U) : IntKind.u64.wrap (uI a + uI b) = uI (a + b) := by
 have h : uI a + uI b = ((a.toNat + b.toNat : Nat) : Int) := by unfold uI; rw [Int.natCast_add]
 rw [h, wrap_toNat]
 unfold uI
 rw [BitVec.toNat_add]
theorem upopA (q : U) : IntKind.u64.wrap (bits .and .u64 (uI q / 2) 6148914691236517205 + bits .and .u64 (uI q) 6148914691236517205) = uI (popA q) := by
 have h1 := shr_u q 1
 have e : (6148914691236517205 : Int) = uI 0x5555555555555555#64 := by unfold uI; rfl
 rw [show ((2 ^ 1 : Nat) : Int) = 2 from rfl] at h1
 rw [e, h1, bits_and_u, bits_and_u, add_u]; rfl
theorem upopB (q : U) : IntKind.u64.wrap (bits .and .u64 (uI q / 4) 3689348814741910323 + bits .and .u64 (uI q) 3689348814741910323) = uI (popB q) := by
 have h1 := shr_u q 2
 have e : (3689348814741910323 : Int) = uI 0x3333333333333333#64 := by unfold uI; rfl
 rw [show ((2 ^ 2 : Nat) : Int) = 4 from rfl] at h1
 rw [e, h1, bits_and_u, bits_and_u, add_u]; rfl
theorem upopC (q : U) : bits .and .u64 (IntKind.u64.wrap (uI q / 16 + uI q)) 1085102592571150095 = uI (popC q) := by
 have h1 := shr_u q 4
 have e : (1085102592571150095 : Int) = uI 0x0f0f0f0f0f0f0f0f#64 := by unfold uI; rfl
 rw [show ((2 ^ 4 : Nat) : Int) = 16 from rfl] at h1
 rw [e, h1, add_u, bits_and_u]; rfl
theorem upopD (q : U) : IntKind.u64.wrap (uI q + uI q / 256) = uI (popD q) := by
 have h1 := shr_u q 8
 rw [show ((2 ^ 8 : Nat) : Int) = 256 from rfl] at h1
 rw [h1, add_u]; rfl
theorem upopE (q : U) : IntKind.u64.wrap (uI q + uI q / 65536) = uI (popE q) := by
 have h1 := shr_u q 16
 rw [show ((2 ^ 16 : Nat) : Int) = 65536 from rfl] at h1
 rw [h1, add_u]; rfl
theorem upopF (q : U) : IntKind.u64.wrap (uI q + uI q / 4294967296) = uI (popF q) := by
 have h1 := shr_u q 32
 rw [show ((2 ^ 32 : Nat) : Int) = 4294967296 from rfl] at h1
 rw [h1, add_u]; rfl
theorem ofInt_wrap64 (q : U) : BitVec.ofInt 64 (wrap64 (uI q)) = q := by
 apply BitVec.eq_of_toNat_eq
 rw [BitVec.toNat_ofInt]
 unfold wrap64 uI
 have := q.isLt
 omega
theorem upopL (q : U) : bits .and .i64 (wrap64 (uI q)) 127 = ((q &&& 127#64).toNat : Int) := by
 show IntKind.i64.wrap ((BitVec.ofInt 64 (wrap64 (uI q)) &&& BitVec.ofInt 64 127).toNat : Int) = _
 rw [ofInt_wrap64]
 have h1 : (q &&& 127#64).toNat < 128 := by
  rw [BitVec.toNat_and]
  exact Nat.lt_of_le_of_lt Nat.and_le_right (by decide)
 have e : BitVec.ofInt 64 127 = 127#64 := by decide
 rw [e]
 generalize (q &&& 127#64).toNat = x at h1
 exact IntWalk.i64_in _ (by omega)
set_option maxHeartbeats 4000000 in
theorem ones64_core (p : U) (w : World) : Calls Tryz.prog 157 #[.int .u64 (uI p)] w fun e w' => e = .returned (.int .i64 ((popU p).toNat : Int)) ∧ w' = w := by
 have e1 := upopA p
 have e2 := upopB (popA p)
 have e3 := upopC (popB (popA p))
 have e4 := upopD (popC (popB (popA p)))
 have e5 := upopE (popD (popC (popB (popA p))))
 have e6 := upopF (popE (popD (popC (popB (popA p)))))
 have e7 := upopL (popF (popE (popD (popC (popB (popA p))))))
 go_enter Tryz.func157, Tryz.ntmps157
 go_wp2_with fail
 go_ret
 exact ⟨ret_int (by unfold popU; rw [BitVec.toNat_and]; rfl), rfl⟩
set_option maxHeartbeats 4000000 in
theorem ones_spec {n : Nat} {p : U} (hn : n ≤ 12) (hp : Sub p (allU n)) (w : World) : Calls Tryz.prog 139 #[.int .u64 (uI p)] w fun e w' => e = .returned (.int .i64 (cardU p : Nat)) ∧ w' = w := by
 have h1 : (popU p).toNat = cardU p := by
  rw [pop_card hn hp, BitVec.toNat_ofNat, Nat.mod_eq_of_lt]
  have := cardU_le p
  omega
 have H := Lib.hid (ones64_core p w)
 have HE := Lib.hid h1
 clear hp hn h1
 go_enter Tryz.func139, Tryz.ntmps139
 go_wp2_with fail
 refine H.out.mono ?_
 rintro e w' ⟨rfl, rfl⟩
 go_wp2_with fail
 go_ret
 exact ⟨ret_int (by rw [HE.out]), rfl⟩
set_option maxHeartbeats 4000000 in
theorem compare_dspec {w : World} {n : Nat} {a b : U} (hn : n ≤ 12) (ha : Sub a (allU n)) (hb : Sub b (allU n)) (hT : Tab w) : Calls Tryz.prog 102 #[.int .u64 (uI a), .int .u64 (uI b)] w fun e w' => e = .returned (.int .i64 (cmpU a b)) ∧ Dw w w' := by
 have HH := Lib.hid (And.intro (And.intro (ones_spec hn ha) (ones_spec hn hb)) hT)
 clear ha hb hT
 go_enter Tryz.func102, Tryz.ntmps102
 go_wp2_with fail
 refine (HH.out.1.1 w).mono ?_
 rintro e w2 ⟨rfl, hw2⟩
 have hw3 := hw2.symm
 subst hw3
 clear hw2
 go_wp2_with fail
 refine (HH.out.1.2 w).mono ?_
 rintro e w3 ⟨rfl, hw2⟩
 have hw3 := hw2.symm
 subst hw3
 clear hw2
 go_wp2_with fail
 refine (cmp_spec _ _ w).mono ?_
 rintro e w4 ⟨rfl, hw2⟩
 have hw3 := hw2.symm
 subst hw3
 clear hw2
 go_wp2_with fail
 refine (list_dspec a w HH.out.2).mono ?_
 rintro e w5 ⟨u5, rfl, h5, hb5⟩
 have H5 := Lib.hid (And.intro h5 hb5); clear h5 hb5
 go_wp2_with fail
 refine (list_dspec b w5 (HH.out.2.grow H5.out.2.1)).mono ?_
 rintro e w6 ⟨u6, rfl, h6, hb6⟩
 have H6 := Lib.hid (And.intro h6 (And.intro hb6 (own_bel H5.out.1 hb6.1))); clear h6 hb6
 go_wp2_with fail
 refine (cmpL_spec (OwnI.sl H6.out.2.2) (OwnI.sl H6.out.1)).mono ?_
 rintro e w7 ⟨rfl, hw2⟩
 have hw3 := hw2.symm
 subst hw3
 clear hw2
 go_wp2_with fail
 refine (or_spec (sl_two (Blk.new _ _ _))).mono ?_
 rintro e w8 ⟨rfl, hw2⟩
 have hw3 := hw2.symm
 subst hw3
 clear hw2
 go_wp2_with fail
 go_ret
 exact ⟨ret_int (cmpU_or a b), H5.out.2.trans (H6.out.2.1.trans ((Dw.refl _).alloc _))⟩
end Go.Proofs.YtlbhjikkpbknnaaGreatDoor
end
section
namespace Go.Proofs.YtlbhjikkpbknnaaGreatDoor
open Go Go.Shelf Go.RowKit
/-! slices.SortFunc at sets: the shelf's contract laid at its function -/
def sortU_ren : Go.Shelf.Ren := ⟨fun | 6 => 134 | 15 => 154 | 14 => 153 | 28 => 180 | 29 => 181 | 20 => 172 | 21 => 173 | 22 => 174 | 23 => 175 | 24 => 176 | 25 => 177 | 26 => 178 | 27 => 179 | 46 => 193 | 47 => 194 | 48 => 195 | 49 => 196 | 50 => 197 | 57 => 208 | n => n, fun | 22 => 105 | 24 => 81 | 25 => 137 | 3 => 3 | 39 => 81 | 0 => 0 | 53 => 184 | 55 => 62 | 4 => 4 | 46 => 206 | 45 => 205 | 50 => 210 | 5 => 5 | 9 => 9 | 66 => 227 | 70 => 231 | 76 => 243 | 77 => 244 | n => n, fun | n => n⟩
theorem sortU_lay : Go.Proofs.SlLaysF.n6 Tryz.prog sortU_ren := {
 mixed := by kernel_rfl,
 f6 := ⟨Tryz.f134.name, by decide, Tryz.func134.trans (congrArg some (by kernel_rfl))⟩,
 f14 := ⟨Tryz.f153.name, by decide, Tryz.func153.trans (congrArg some (by kernel_rfl))⟩,
 f15 := Tryz.func154.trans (congrArg some (by kernel_rfl)),
 f20 := ⟨Tryz.f172.name, by decide, Tryz.func172.trans (congrArg some (by kernel_rfl))⟩,
 f21 := ⟨Tryz.f173.name, by decide, Tryz.func173.trans (congrArg some (by kernel_rfl))⟩,
 f22 := ⟨Tryz.f174.name, by decide, Tryz.func174.trans (congrArg some (by kernel_rfl))⟩,
 f23 := ⟨Tryz.f175.name, by decide, Tryz.func175.trans (congrArg some (by kernel_rfl))⟩,
 f24 := ⟨Tryz.f176.name, by decide, Tryz.func176.trans (congrArg some (by kernel_rfl))⟩,
 f25 := ⟨Tryz.f177.name, by decide, Tryz.func177.trans (congrArg some (by kernel_rfl))⟩,
 f26 := ⟨Tryz.f178.name, by decide, Tryz.func178.trans (congrArg some (by kernel_rfl))⟩,
 f27 := ⟨Tryz.f179.name, by decide, Tryz.func179.trans (congrArg some (by kernel_rfl))⟩,
 f28 := Tryz.func180.trans (congrArg some (by kernel_rfl)),
 f29 := Tryz.func181.trans (congrArg some (by kernel_rfl)),
 f46 := ⟨Tryz.f193.name, by decide, Tryz.func193.trans (congrArg some (by kernel_rfl))⟩,
 f47 := Tryz.func194.trans (congrArg some (by kernel_rfl)),
 f48 := Tryz.func195.trans (congrArg some (by kernel_rfl)),
 f49 := ⟨Tryz.f196.name, by decide, Tryz.func196.trans (congrArg some (by kernel_rfl))⟩,
 f50 := ⟨Tryz.f197.name, by decide, Tryz.func197.trans (congrArg some (by kernel_rfl))⟩,
 f57 := ⟨Tryz.f208.name, by decide, Tryz.func208.trans (congrArg some (by kernel_rfl))⟩,
 t0 := Tryz.underlying0,
 a0 := Tryz.isAgg0,
 z0 := Tryz.sizeOf0,
 v0 := Tryz.zeroValue0,
 t3 := Tryz.underlying3,
 a3 := Tryz.isAgg3,
 z3 := Tryz.sizeOf3,
 v3 := Tryz.zeroValue3,
 t4 := Tryz.underlying4,
 a4 := Tryz.isAgg4,
 z4 := Tryz.sizeOf4,
 v4 := Tryz.zeroValue4,
 t5 := Tryz.underlying5,
 a5 := Tryz.isAgg5,
 z5 := Tryz.sizeOf5,
 v5 := Tryz.zeroValue5,
 t9 := Tryz.underlying9,
 a9 := Tryz.isAgg9,
 z9 := Tryz.sizeOf9,
 v9 := Tryz.zeroValue9,
 t22 := Tryz.underlying105,
 a22 := Tryz.isAgg105,
 z22 := Tryz.sizeOf105,
 v22 := Tryz.zeroValue105,
 a24 := Tryz.isAgg81,
 z24 := Tryz.sizeOf81,
 t25 := Tryz.underlying137,
 a25 := Tryz.isAgg137,
 z25 := Tryz.sizeOf137,
 v25 := Tryz.zeroValue137,
 t39 := Tryz.underlying81,
 a39 := Tryz.isAgg81,
 z39 := Tryz.sizeOf81,
 v39 := Tryz.zeroValue81,
 t45 := Tryz.underlying205,
 a45 := Tryz.isAgg205,
 z45 := Tryz.sizeOf205,
 v45 := Tryz.zeroValue205,
 t46 := Tryz.underlying206,
 a46 := Tryz.isAgg206,
 z46 := Tryz.sizeOf206,
 v46 := Tryz.zeroValue206,
 t50 := Tryz.underlying210,
 a50 := Tryz.isAgg210,
 z50 := Tryz.sizeOf210,
 v50 := Tryz.zeroValue210,
 t53 := Tryz.underlying184,
 a53 := Tryz.isAgg184,
 z53 := Tryz.sizeOf184,
 v53 := Tryz.zeroValue184,
 t55 := Tryz.underlying62,
 a55 := Tryz.isAgg62,
 z55 := Tryz.sizeOf62,
 v55 := Tryz.zeroValue62,
 t66 := Tryz.underlying227,
 a66 := Tryz.isAgg227,
 z66 := Tryz.sizeOf227,
 v66 := Tryz.zeroValue227,
 t70 := Tryz.underlying231,
 a70 := Tryz.isAgg231,
 z70 := Tryz.sizeOf231,
 v70 := Tryz.zeroValue231,
 t76 := Tryz.underlying243,
 a76 := Tryz.isAgg243,
 z76 := Tryz.sizeOf243,
 v76 := Tryz.zeroValue243,
 t77 := Tryz.underlying244,
 a77 := Tryz.isAgg244,
 z77 := Tryz.sizeOf244,
 v77 := Tryz.zeroValue244 }
end Go.Proofs.YtlbhjikkpbknnaaGreatDoor
end
