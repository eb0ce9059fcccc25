import Derived.Test.YtccnkebkgegohaaGreatDoorG11
import Derived.OwnWalk
import Derived.RegionTactic
import Derived.ChangeAlike
/-
  Given contracts of functions of the program, and laws for them, one behind the other.
-/
set_option linter.unusedVariables false
set_option linter.unusedSimpArgs false
set_option linter.unusedSectionVars false
section
namespace Go.Proofs.YtccnkebkgegohaaGreatDoor
open Go.RowKit Go.Rel
set_option maxRecDepth 100000
theorem beqAc (a b : Ac) : (a == b) = (((a.1 : Int) == (b.1 : Int)) && ((a.2.1 == b.2.1) && (a.2.2 == b.2.2))) := by
 obtain ⟨a1, a2, a3⟩ := a
 obtain ⟨b1, b2, b3⟩ := b
 show (a1 == b1 && (a2 == b2 && a3 == b3)) = _
 congr 1
 rw [Bool.eq_iff_iff, beq_iff_eq, beq_iff_eq]; omega
/-- acts are compared field by field -/
@[go_sem high] theorem eqAc (d : Nat) (a b : Ac) (w : World) : (Op.equalIn (d+3) 46 (acV a) (acV b)).run Tryz.prog w = .ok (a == b) w := by
 rw [run_equalIn_struct w (d+2) 46 _ _ (by kernel_rfl) (by kernel_rfl)]
 rw [beqAc]
 go_simp
 split
 ·next h1 =>
  split
  ·next h2 =>
   split
   ·next h3 => simp [h1, h2, h3]
   ·next h3 => simp [h1, h2, h3]
  ·next h2 => simp [h1, h2]
 ·next h1 => simp [h1]
set_option maxHeartbeats 4000000 in
theorem EqualAc_spec (v u : Value) (l m : List Ac) (w : World) (hv : SlA w v l) (hu : SlA w u m) :
  Calls Tryz.prog 43 #[v, u] w fun e w' => e = .returned (.bool (l == m)) ∧ Below w.heap.size w w' := by
 have hlv : ∃ a c, v = .slice a l.length c := by obtain ⟨a, c, h, _⟩ := hv; exact ⟨a, c, by rw [h, List.length_map]⟩
 have hlu : ∃ a c, u = .slice a m.length c := by obtain ⟨a, c, h, _⟩ := hu; exact ⟨a, c, by rw [h, List.length_map]⟩
 by_cases hlen : l.length = m.length
 ·rcases hv.cases with ⟨hl, a, c, rfl, hm⟩ | ⟨b, off, c, rfl, hc, hm, hpos, hcs⟩
  ·have hl' : l = [] := by simpa using hl
   subst hl'
   have hm' : m = [] := List.eq_nil_of_length_eq_zero hlen.symm
   subst hm'
   obtain ⟨a', c', rfl⟩ := hlu
   clear hlv hl hv hu hlen
   simp only [List.length_nil]
   go_enter Tryz.func43, Tryz.ntmps43
   go_wp2_with fail
   refine wp_loop_rounds 1 ?_
   rw [rounds_succ]
   go_wp2_with fail
   go_ret
   exact ⟨rfl, Below.refl _ _⟩
  ·rcases hu.cases with ⟨hl, _⟩ | ⟨b', off', c', rfl, hc', hm', hpos', hcs'⟩
   ·have hl' : m = [] := by simpa using hl
    subst hl'
    rw [List.length_map] at hpos
    simp at hlen; rw [hlen] at hpos; simp at hpos
   rw [List.length_map] at hc hpos hc' hpos' ⊢
   rw [List.length_map]
   rw [← hlen] at hc' hpos' ⊢
   have H := Lib.hid hcs; have H' := Lib.hid hcs'
   have lb := hcs.1; have lb' := hcs'.1
   clear hcs hcs' hv hu hlv hlu
   generalize hn : l.length = n at *
   have HN := Lib.hid (And.intro hn hlen); clear hn hlen
   go_enter Tryz.func43, Tryz.ntmps43
   go_wp2_with fail
   go_loopw [13] (fun i wr => ∃ k q : Nat, k ≤ n ∧ i = .int .i64 k ∧ Hid (∀ (j : Nat), j < k → l[j]? = m[j]?) ∧ wr = w.drewN q) (fun i _ => n - (intOf i).toNat)
   case atStart => exact ⟨0, 0, Nat.zero_le _, rfl, fun j hj => (by omega), rfl⟩
   case round =>
    obtain ⟨k, q, hk, rfl, HP, rfl⟩ := hrel
    by_cases hlt : k < n
    ·have hx : l[k]? = some (l[k]'(by rw [HN.out.1]; exact hlt)) := by simp
     have hy : m[k]? = some (m[k]'(by rw [← HN.out.2]; exact hlt)) := by simp
     generalize l[k]'(by rw [HN.out.1]; exact hlt) = x at hx
     generalize m[k]'(by rw [← HN.out.2]; exact hlt) = y at hy
     obtain ⟨c0, c1, c2, c3, c4, c5, c6, c7, c8, c9⟩ := ac_cells H.out hx
     obtain ⟨d0, d1, d2, d3, d4, d5, d6, d7, d8, d9⟩ := ac_cells H'.out hy
     have HX := Lib.hid (And.intro hx hy); clear hx hy
     go_wp2_with fail
     go_quiet (fail)
     go_wp2_with fail
     ·have he : (x != y) = true := by assumption
      have hz : (l == m) = false := by
       rw [beq_eq_false_iff_ne]
       intro h
       have h1 := HX.out.1
       rw [h, HX.out.2] at h1
       cases h1
       simp at he
      go_ret
      exact ⟨ret_bool hz.symm, bel_by⟩
     ·have he : (x != y) = false := by assumption
      have hxy : x = y := by simpa using he
      refine ⟨⟨k + 1, q + nq, by omega, by go_num, fun j hj => ?_, rfl⟩, by simp [intOf]; omega⟩
      rcases Nat.lt_or_eq_of_le (Nat.le_of_lt_succ hj) with h | h
      ·exact HP.out j h
      ·subst h; rw [HX.out.1, HX.out.2, hxy]
    ·have hkn : k = n := by omega
     subst hkn
     have hz : (l == m) = true := by
      rw [beq_iff_eq]
      apply List.ext_getElem?
      intro j
      by_cases hj : j < l.length
      ·exact HP.out j (by rw [← HN.out.1]; exact hj)
      ·rw [List.getElem?_eq_none (by omega), List.getElem?_eq_none (by have := HN.out; omega)]
     have HZ := Lib.hid hz; clear hz
     go_wp2_with fail
     go_ret
     exact ⟨ret_bool HZ.out.symm, below_drewN (Below.refl _ _) _⟩
 ·have hz : (l == m) = false := by
   rw [beq_eq_false_iff_ne]
   exact fun h => hlen (by rw [h])
  obtain ⟨a, c, rfl⟩ := hlv
  obtain ⟨a', c', rfl⟩ := hlu
  have HZ := Lib.hid hz; clear hz hv hu
  generalize l.length = n at *
  generalize m.length = n' at *
  go_enter Tryz.func43, Tryz.ntmps43
  go_wp2_with fail
  go_ret
  exact ⟨ret_bool HZ.out.symm, Below.refl _ _⟩
end Go.Proofs.YtccnkebkgegohaaGreatDoor
end
section
namespace Go.Proofs.YtccnkebkgegohaaGreatDoor
open Go.RowKit Go.Rel
set_option maxRecDepth 100000
set_option maxHeartbeats 4000000 in
theorem both_bad1 {blank : Sol} {v av : Value} {l : List Sol} {acts : List Ac} {x : Nat × Int} (h : begunM blank l acts = .inl x) (blank2 : Sol) (v2 av2 : Value) (w : World) (Hv : SlS w v l) (Hav : SlA w av acts) :
  Calls Tryz.prog 107 #[.agg #[.int .u64 (pl blank 0), .int .u64 (pl blank 1), .int .u64 (pl blank 2), .int .u64 (pl blank 3), .int .u64 (pl blank 4), .int .u64 (pl blank 5), .int .u64 (pl blank 6), .int .u64 (pl blank 7), v, av], .agg #[.int .u64 (pl blank2 0), .int .u64 (pl blank2 1), .int .u64 (pl blank2 2), .int .u64 (pl blank2 3), .int .u64 (pl blank2 4), .int .u64 (pl blank2 5), .int .u64 (pl blank2 6), .int .u64 (pl blank2 7), v2, av2]] w fun e w' => e = .returned (.tuple #[.pointer none, .pointer none, .bool false, .int .i64 x.2]) ∧ Below w.heap.size w w' := by
 have H := Lib.hid fun w' (hb : Below w.heap.size w w') => begun_bad h w' (Hv.mono hb) (Hav.mono hb)
 have hne := begunM_bad h
 clear h Hv Hav
 go_enter Tryz.func107, Tryz.ntmps107
 go_wp2_with fail
 refine (H.out _ bel_by).mono ?_
 rintro e w1 ⟨rfl, hb⟩
 have hB1 : Below w.heap.size w w1 := bel_trans bel_by hb
 go_wp2_with fail
 refine bodyPost_ret (by simp [results, Tryz.results107, go_sem]) rfl ⟨rfl, hB1⟩
set_option maxHeartbeats 4000000 in
theorem both_bad2 {blank : Sol} {v av : Value} {l : List Sol} {acts : List Ac} {s : Stn} (h : begunM blank l acts = .inr s) {blank2 : Sol} {v2 av2 : Value} {l2 : List Sol} {acts2 : List Ac} {x : Nat × Int} (h2 : begunM blank2 l2 acts2 = .inl x) (w : World) (Hv : SlS w v l) (Hav : SlA w av acts) (Hv2 : SlS w v2 l2) (Hav2 : SlA w av2 acts2) :
  Calls Tryz.prog 107 #[.agg #[.int .u64 (pl blank 0), .int .u64 (pl blank 1), .int .u64 (pl blank 2), .int .u64 (pl blank 3), .int .u64 (pl blank 4), .int .u64 (pl blank 5), .int .u64 (pl blank 6), .int .u64 (pl blank 7), v, av], .agg #[.int .u64 (pl blank2 0), .int .u64 (pl blank2 1), .int .u64 (pl blank2 2), .int .u64 (pl blank2 3), .int .u64 (pl blank2 4), .int .u64 (pl blank2 5), .int .u64 (pl blank2 6), .int .u64 (pl blank2 7), v2, av2]] w fun e w' => e = .returned (.tuple #[.pointer none, .pointer none, .bool false, .int .i64 x.2]) ∧ Below w.heap.size w w' := by
 have H := Lib.hid fun w' (hb : Below w.heap.size w w') => begun_good h w' (Hv.mono hb) (Hav.mono hb)
 have H2 := Lib.hid fun w' (hb : Below w.heap.size w w') => begun_bad h2 w' (Hv2.mono hb) (Hav2.mono hb)
 have hne := begunM_bad h2
 have hvs2 : ∃ a n c, v2 = .slice a n c := by obtain ⟨a, c, h, _⟩ := Hv2; exact ⟨_, _, _, h⟩
 clear h h2 Hv Hav Hv2 Hav2
 go_enter Tryz.func107, Tryz.ntmps107
 go_wp2_with fail
 refine (H.out _ bel_by).mono ?_
 rintro e w1 ⟨bp, rfl, hbp, hP, hb⟩
 have hB1 : Below w.heap.size w w1 := bel_trans bel_by hb
 have g2 : Blk w1 (w.heap.size + 1) #[.int .u64 (pl blank2 0), .int .u64 (pl blank2 1), .int .u64 (pl blank2 2), .int .u64 (pl blank2 3), .int .u64 (pl blank2 4), .int .u64 (pl blank2 5), .int .u64 (pl blank2 6), .int .u64 (pl blank2 7), v2, av2] 30 := Blk.grow blk_by hb
 have cg := g2.cell
 have lg := g2.lt
 clear hb g2 hP
 go_wp2_with fail
 refine (H2.out _ hB1).mono ?_
 rintro e w2 ⟨rfl, hb2⟩
 have hB2 : Below w.heap.size w w2 := bel_trans hB1 hb2
 clear cg lg
 go_wp2_with fail
 refine bodyPost_ret (by simp [results, Tryz.results107, go_sem]) rfl ⟨rfl, hB2⟩
end Go.Proofs.YtccnkebkgegohaaGreatDoor
end
section
namespace Go.Proofs.YtccnkebkgegohaaGreatDoor
open Go.RowKit Go.Rel
set_option maxRecDepth 100000
set_option maxHeartbeats 4000000 in
theorem acted_bad {blank : Sol} {v av : Value} {l : List Sol} {acts : List Ac} {x : Nat × Int} (h : begunM blank l acts = .inl x) (i : Int) (w : World) (Hv : SlS w v l) (Hav : SlA w av acts) :
  Calls Tryz.prog 116 #[.agg #[.int .u64 (pl blank 0), .int .u64 (pl blank 1), .int .u64 (pl blank 2), .int .u64 (pl blank 3), .int .u64 (pl blank 4), .int .u64 (pl blank 5), .int .u64 (pl blank 6), .int .u64 (pl blank 7), v, av], .int .i64 i] w fun e w' => e = .returned (.tuple #[.pointer none, .int .i64 x.2]) ∧ Below w.heap.size w w' := by
 have H := Lib.hid fun w' (hb : Below w.heap.size w w') => begun_bad h w' (Hv.mono hb) (Hav.mono hb)
 have hne := begunM_bad h
 have hne' : (x.2 == 0) = false := by simpa using hne
 clear h Hv Hav
 go_enter Tryz.func116, Tryz.ntmps116
 go_wp2_with fail
 refine (H.out _ bel_by).mono ?_
 rintro e w1 ⟨rfl, hb⟩
 have hB1 : Below w.heap.size w w1 := bel_trans bel_by hb
 go_wp2_with fail
 refine bodyPost_ret (by simp [results, Tryz.results116, go_sem]) rfl ⟨rfl, hB1⟩
/-- the error of an act that there is not -/
def actedE (n : Nat) (i : Int) : Int := if i < 0 ∨ (n : Int) ≤ i then 1 else 0
set_option maxHeartbeats 4000000 in
theorem acted_good {blank : Sol} {v av : Value} {l : List Sol} {acts : List Ac} {s : Stn} (h : begunM blank l acts = .inr s) (i : Int) (w : World) (Hv : SlS w v l) (Hav : SlA w av acts) :
  Calls Tryz.prog 116 #[.agg #[.int .u64 (pl blank 0), .int .u64 (pl blank 1), .int .u64 (pl blank 2), .int .u64 (pl blank 3), .int .u64 (pl blank 4), .int .u64 (pl blank 5), .int .u64 (pl blank 6), .int .u64 (pl blank 7), v, av], .int .i64 i] w fun e w' => ∃ bp, e = .returned (.tuple #[.pointer (some ⟨bp, 0, none⟩), .int .i64 (actedE acts.length i)]) ∧ PastAt bp blank v av l acts s w' ∧ Below w.heap.size w w' := by
 have H := Lib.hid fun w' (hb : Below w.heap.size w w') => begun_good h w' (Hv.mono hb) (Hav.mono hb)
 have hn := (begunM_good h).2.1
 obtain ⟨ap, ac, rfl, _⟩ := Hav
 rw [List.length_map] at *
 clear h Hv
 unfold actedE
 have key : (i < 0) ∨ (0 ≤ i ∧ (acts.length : Int) ≤ i) ∨ (0 ≤ i ∧ i < acts.length) := by omega
 rcases key with h1 | ⟨h1, h2⟩ | ⟨h1, h2⟩
 ·rw [if_pos (.inl h1)]
  go_enter Tryz.func116, Tryz.ntmps116
  go_wp2_with fail
  refine (H.out _ bel_by).mono ?_
  rintro e w1 ⟨bp, rfl, hbp, hP, hb⟩
  have hB1 : Below w.heap.size w w1 := bel_trans bel_by hb
  have g2 : Blk w1 w.heap.size #[.int .u64 (pl blank 0), .int .u64 (pl blank 1), .int .u64 (pl blank 2), .int .u64 (pl blank 3), .int .u64 (pl blank 4), .int .u64 (pl blank 5), .int .u64 (pl blank 6), .int .u64 (pl blank 7), v, .slice ap acts.length ac] 30 := Blk.grow blk_by hb
  have cg := g2.cell
  have lg := g2.lt
  clear hb g2
  go_wp2_with fail
  refine bodyPost_ret (by simp [results, Tryz.results116, go_sem]) rfl ⟨_, rfl, hP, hB1⟩
 ·rw [if_pos (.inr h2)]
  have h1' : ¬ i < 0 := by omega
  go_enter Tryz.func116, Tryz.ntmps116
  go_wp2_with fail
  refine (H.out _ bel_by).mono ?_
  rintro e w1 ⟨bp, rfl, hbp, hP, hb⟩
  have hB1 : Below w.heap.size w w1 := bel_trans bel_by hb
  have g2 : Blk w1 w.heap.size #[.int .u64 (pl blank 0), .int .u64 (pl blank 1), .int .u64 (pl blank 2), .int .u64 (pl blank 3), .int .u64 (pl blank 4), .int .u64 (pl blank 5), .int .u64 (pl blank 6), .int .u64 (pl blank 7), v, .slice ap acts.length ac] 30 := Blk.grow blk_by hb
  have cg := g2.cell
  have lg := g2.lt
  clear hb g2
  go_wp2_with fail
  refine bodyPost_ret (by simp [results, Tryz.results116, go_sem]) rfl ⟨_, rfl, hP, hB1⟩
 ·rw [if_neg (by omega)]
  have h1' : ¬ i < 0 := by omega
  have h2' : ¬ (acts.length : Int) ≤ i := by omega
  go_enter Tryz.func116, Tryz.ntmps116
  go_wp2_with fail
  refine (H.out _ bel_by).mono ?_
  rintro e w1 ⟨bp, rfl, hbp, hP, hb⟩
  have hB1 : Below w.heap.size w w1 := bel_trans bel_by hb
  have g2 : Blk w1 w.heap.size #[.int .u64 (pl blank 0), .int .u64 (pl blank 1), .int .u64 (pl blank 2), .int .u64 (pl blank 3), .int .u64 (pl blank 4), .int .u64 (pl blank 5), .int .u64 (pl blank 6), .int .u64 (pl blank 7), v, .slice ap acts.length ac] 30 := Blk.grow blk_by hb
  have cg := g2.cell
  have lg := g2.lt
  clear hb g2
  go_wp2_with fail
  refine bodyPost_ret (by simp [results, Tryz.results116, go_sem]) rfl ⟨_, rfl, hP, hB1⟩
end Go.Proofs.YtccnkebkgegohaaGreatDoor
end
section
namespace Go.Proofs.YtccnkebkgegohaaGreatDoor
open Go.RowKit Go.Rel
set_option maxRecDepth 100000
/-! a block as a table of a function -/
def tab (n : Nat) (f : Nat → Value) : Array Value := ((List.range n).map f).toArray
theorem tab_get {n : Nat} {f : Nat → Value} {t : Nat} (h : t < n) : (tab n f)[t]? = some (f t) := by
 unfold tab; simp [h]
theorem tab_size (n : Nat) (f : Nat → Value) : (tab n f).size = n := by simp [tab]
theorem tab_set (n : Nat) (f : Nat → Value) (t : Nat) (v : Value) : (tab n f).setIfInBounds t v = tab n (fun k => if k = t then v else f k) := by
 apply Array.ext
 ·simp [tab_size]
 ·intro k h1 h2
  rw [tab_size] at h2
  have e : (tab n (fun k => if k = t then v else f k))[k]? = some (if k = t then v else f k) := tab_get h2
  rw [Array.getElem?_eq_getElem (by rw [tab_size]; exact h2)] at e
  have e' : (tab n f)[k]? = some (f k) := tab_get h2
  rw [Array.getElem?_eq_getElem (by rw [tab_size]; exact h2)] at e'
  rw [Option.some.inj e, Array.getElem_setIfInBounds]
  ·by_cases hk : t = k
   ·subst hk; simp
   ·rw [if_neg hk, if_neg (Ne.symm hk)]; exact Option.some.inj e'
  ·rw [tab_size]; exact h2
theorem tab_congr {n : Nat} {f g : Nat → Value} (h : ∀ t, t < n → f t = g t) : tab n f = tab n g := by
 unfold tab; congr 1
 exact List.map_congr_left fun t ht => h t (List.mem_range.1 ht)
theorem made_tab (x : Value) (n : Nat) : madeCells #[x] n = tab n (fun _ => x) := by
 apply Array.ext
 ·simp [tab_size, size_madeCells]
 ·intro k h1 h2
  rw [tab_size] at h2
  have e : (tab n (fun _ => x))[k]? = some x := tab_get h2
  rw [Array.getElem?_eq_getElem (by rw [tab_size]; exact h2)] at e
  rw [Option.some.inj e]
  simp [madeCells, Nat.mod_one]
theorem own_full {w : World} {base : Nat} {e : TypeId} {B n : Nat} {xs : List Value} (h : w.ownsRow base e 1 (.slice (some ⟨B, 0, none⟩) n n) n xs) : ∃ cur, Blk w B cur e ∧ cur.toList = xs ∧ base ≤ B := by
 rcases h.2 with ⟨h1, _⟩ | ⟨g, cap, cur, h1, hb, hg, hnc, hcm, hcs, ht⟩
 ·cases h1
 ·cases h1
  refine ⟨cur, hg, ?_, hb⟩
  rw [← ht, List.take_of_length_le]
  simp [hcs]
theorem own_made {w : World} {base : Nat} {e : TypeId} {B n : Nat} {x : Value} (h : w.ownsRow base e 1 (.slice (some ⟨B, 0, none⟩) n n) n (madeCells #[x] (n * 1)).toList) : Blk w B (tab n (fun _ => x)) e ∧ base ≤ B := by
 obtain ⟨cur, h1, h2, h3⟩ := own_full h
 refine ⟨?_, h3⟩
 rw [Nat.mul_one, made_tab] at h2
 have : cur = tab n (fun _ => x) := Array.toList_inj.1 h2
 rw [← this]; exact h1
/-! what stands ahead of an act -/
def ahdL (dep : Nat → Nat → Bool) (i : Nat) : Nat → List Bool
 | 0 => [true]
 | d + 1 => ((List.range (d + 1)).any fun t => (ahdL dep i d).getD t false && dep (i - (d + 1)) (i - (d + 1) + 1 + t)) :: ahdL dep i d
/-- whether act k stands ahead of act i (or is it) -/
def ahd (dep : Nat → Nat → Bool) (i k : Nat) : Bool := decide (k ≤ i) && (ahdL dep i (i - k)).getD 0 false
theorem ahdL_get (dep : Nat → Nat → Bool) (i : Nat) : ∀ (d t : Nat), t ≤ d → (ahdL dep i d).getD t false = (ahdL dep i (d - t)).getD 0 false
 | d, 0, _ => rfl
 | 0, t + 1, h => by omega
 | d + 1, t + 1, h => by
  rw [Nat.add_sub_add_right]
  show (ahdL dep i d).getD t false = _
  exact ahdL_get dep i d t (by omega)
theorem ahd_self (dep : Nat → Nat → Bool) (i : Nat) : ahd dep i i = true := by simp [ahd, ahdL]
theorem ahd_above {dep : Nat → Nat → Bool} {i k : Nat} (h : i < k) : ahd dep i k = false := by simp [ahd]; omega
theorem ahd_step (dep : Nat → Nat → Bool) {i k : Nat} (h : k < i) : ahd dep i k = (List.range (i - k)).any fun t => ahd dep i (k + 1 + t) && dep k (k + 1 + t) := by
 obtain ⟨d, hd⟩ : ∃ d, i - k = d + 1 := ⟨i - k - 1, by omega⟩
 have e1 : decide (k ≤ i) = true := by simp; omega
 unfold ahd
 rw [e1, Bool.true_and, hd]
 show ((List.range (d + 1)).any fun t => (ahdL dep i d).getD t false && dep (i - (d + 1)) (i - (d + 1) + 1 + t)) = _
 rw [Bool.eq_iff_iff, List.any_eq_true, List.any_eq_true]
 have key : ∀ t, t < d + 1 → ((ahdL dep i d).getD t false && dep (i - (d + 1)) (i - (d + 1) + 1 + t)) = (decide (k + 1 + t ≤ i) && (ahdL dep i (i - (k + 1 + t))).getD 0 false && dep k (k + 1 + t)) := fun t ht => by
  rw [ahdL_get dep i d t (by omega), show i - (k + 1 + t) = d - t by omega, show i - (d + 1) = k by omega]
  have : decide (k + 1 + t ≤ i) = true := by simp; omega
  rw [this, Bool.true_and]
 constructor
 ·rintro ⟨t, ht, h2⟩
  exact ⟨t, ht, by rw [← key t (List.mem_range.1 ht)]; exact h2⟩
 ·rintro ⟨t, ht, h2⟩
  exact ⟨t, ht, by rw [key t (List.mem_range.1 ht)]; exact h2⟩
/-- the acts ahead, the last one first, of the m that stand next before act i -/
def outD (dep : Nat → Nat → Bool) (i : Nat) : Nat → List Int
 | 0 => []
 | m + 1 => if ahd dep i (i - (m + 1)) then outD dep i m ++ [((i - (m + 1) : Nat) : Int)] else outD dep i m
def needsM (dep : Nat → Nat → Bool) (i : Nat) : List Int := (outD dep i i).reverse
theorem outD_length (dep : Nat → Nat → Bool) (i : Nat) : ∀ m, (outD dep i m).length ≤ m
 | 0 => Nat.le_refl _
 | m + 1 => by
  have := outD_length dep i m
  unfold outD
  split
  ·simp; omega
  ·omega
end Go.Proofs.YtccnkebkgegohaaGreatDoor
end
section
namespace Go.Proofs.YtccnkebkgegohaaGreatDoor
open Go.RowKit Go.Rel
set_option maxRecDepth 100000
/-- a list with the first k and the last k exchanged -/
def rvF (l : List Int) (k t : Nat) : Int := if t < k ∨ l.length ≤ t + k then l.getD (l.length - 1 - t) 0 else l.getD t 0
theorem rvF_all {l : List Int} {k t : Nat} (hk : l.length ≤ 2 * k + 1) (ht : t < l.length) : rvF l k t = l.reverse.getD t 0 := by
 have e : l.reverse.getD t 0 = l.getD (l.length - 1 - t) 0 := by
  rw [List.getD_eq_getElem?_getD, List.getD_eq_getElem?_getD, List.getElem?_reverse ht]
 rw [e]
 unfold rvF
 split
 ·rfl
 ·next h =>
  have : t = l.length - 1 - t := by omega
  rw [← this]
set_option maxHeartbeats 4000000 in
theorem Reverse_spec (v : Value) (l : List Int) (base : Nat) (w : World) (h : OwnI w base v l) (hb0 : base ≤ w.heap.size) :
  Calls Tryz.prog 163 #[v] w fun e w' => (∃ u, e = .returned u) ∧ OwnI w' base v l.reverse ∧ Below base w w' := by
 have hlm : l.length ≤ 9223372036854775807 := by obtain ⟨_, _, _, _, _⟩ := own_shape' h; omega
 rcases h.2 with ⟨rfl, h0⟩ | ⟨g, cap, cur, rfl, hb, hg, hnc, hcm, hcs, ht⟩
 ·have hl : l = [] := List.eq_nil_of_length_eq_zero h0
  subst hl
  go_enter Tryz.func163, Tryz.ntmps163
  go_wp2_with fail
  refine wp_loop_rounds 1 ?_
  rw [rounds_succ]
  go_wp2_with fail
  go_end0
  exact ⟨⟨_, rfl⟩, h, Below.refl _ _⟩
 ·have hcur : ∀ t, t < l.length → cur[t]? = some (.int .i64 (rvF l 0 t)) := fun t htl => by
   have h1 : (l.map (Value.int .i64))[t]? = some (.int .i64 (rvF l 0 t)) := by simp [htl, rvF, show ¬ l.length ≤ t by omega]
   rw [← ht, List.getElem?_take, if_pos (by omega)] at h1
   simpa using h1
  have lg := (Array.getElem?_eq_some_iff.1 hg).1
  have HX := Lib.hid (And.intro hb0 (And.intro hb (And.intro hcm hcs))); clear hb0 hb hcm hcs ht h
  have HG : Hid (Blk w g cur 3) := hg
  have HC := Lib.hid hcur; clear hcur hg
  generalize hn : l.length = n at *
  have HN := Lib.hid hn; clear hn
  go_enter Tryz.func163, Tryz.ntmps163
  go_wp2_with fail
  go_loopw [2, 3] (fun x y wr => ∃ (k : Nat) (z : Int) (cu : Array Value), (0 < n → k < n) ∧ z = (n : Int) - 1 - k ∧ x = .int .i64 k ∧ y = .int .i64 z ∧ Hid (∀ t, t < n → cu[t]? = some (.int .i64 (rvF l k t))) ∧ Hid (cu.size = cur.size) ∧ Blk wr g cu 3 ∧ Hid (2 * k ≤ n + 1) ∧ Below base w wr) (fun x y _ => (intOf y - intOf x + 1).toNat)
  case atStart => exact ⟨0, _, cur, fun h => h, by omega, rfl, rfl, HC, Lib.hid rfl, HG.out, Lib.hid (by omega), Below.refl _ _⟩
  case round =>
   obtain ⟨k, z, cu, hk, hz, rfl, rfl, HR, HS, hB, H2, hbel⟩ := hrel
   by_cases hlt : (k : Int) < z
   ·obtain ⟨m, rfl⟩ : ∃ m : Nat, z = (m : Int) := ⟨z.toNat, by omega⟩
    have hmn : m < n := by omega
    have hkn : k < n := by omega
    have c1 := (hB.cell k).trans (HR.out k hkn)
    have c2 := (hB.cell m).trans (HR.out m hmn)
    have f1 := hB.free k
    have f2 := hB.free m
    have lg' := hB.lt
    have hkm : ¬ k = m := by omega
    have hmk : ¬ m = k := by omega
    have HZ := Lib.hid hz
    clear hk hz
    go_wp2_with fail
    go_region
    all_goals
     go_wp2_with fail
     go_roundw
     case rel =>
      refine ⟨k + 1, (m : Int) - 1, (cu.setIfInBounds k (.int .i64 (rvF l k m))).setIfInBounds m (.int .i64 (rvF l k k)), by omega, by have := HZ.out; omega, by go_num, rfl, Lib.hid fun t htn => ?_, Lib.hid (by simp [HS.out]), ?_, Lib.hid (by have := H2.out; have := HZ.out; omega), ?_⟩
      ·have hz' := HZ.out
       have hs : cu.size = cap := by rw [HS.out, HX.out.2.2.2, Nat.mul_one]
       have hNl := HN.out
       rw [Array.getElem?_setIfInBounds, Array.getElem?_setIfInBounds]
       have hnc' := hnc
       by_cases e1 : m = t
       ·subst e1
        rw [if_pos rfl, if_pos (by simp; omega)]
        have : rvF l k k = rvF l (k + 1) m := by
         unfold rvF
         rw [if_neg (by omega), if_pos (by omega)]
         congr 1; omega
        rw [this]
       ·rw [if_neg e1]
        by_cases e2 : k = t
        ·subst e2
         rw [if_pos rfl, if_pos (by omega)]
         have : rvF l k m = rvF l (k + 1) k := by
          unfold rvF
          rw [if_neg (by omega), if_pos (by omega)]
          congr 1; omega
         rw [this]
        ·rw [if_neg e2, HR.out t htn]
         have : rvF l k t = rvF l (k + 1) t := by
          unfold rvF
          by_cases e3 : t < k ∨ l.length ≤ t + k
          ·rw [if_pos e3, if_pos (by omega)]
          ·rw [if_neg e3, if_neg (by omega)]
         rw [this]
      ·exact ((hB.drew).set k _).set m _
      ·exact ((Below.drew hbel).setCell (HX.out.2.1) _).setCell (HX.out.2.1) _
     case measure => simp [intOf]; omega
   ·have hfin : ∀ t, t < n → cu[t]? = some (.int .i64 (l.reverse.getD t 0)) := fun t htn => by
     rw [HR.out t htn, rvF_all (by have := HN.out; have := H2.out; omega) (by have := HN.out; omega)]
    have hown : OwnI wr base (.slice (some ⟨g, 0, none⟩) n cap) l.reverse := by
     refine ⟨by simp, .inr ⟨g, cap, cu, by rw [List.length_reverse, HN.out], HX.out.2.1, hB, by rw [List.length_reverse, HN.out]; exact hnc, HX.out.2.2.1, by rw [HS.out]; exact HX.out.2.2.2, ?_⟩⟩
     have hs : cu.size = cap := by rw [HS.out, HX.out.2.2.2, Nat.mul_one]
     rw [List.length_reverse, HN.out, Nat.mul_one]
     apply List.ext_getElem?
     intro t
     by_cases htn : t < n
     ·rw [List.getElem?_take, if_pos htn]
      have := hfin t htn
      rw [← Array.getElem?_toList] at this
      rw [this]
      have : t < l.reverse.length := by rw [List.length_reverse, HN.out]; exact htn
      rw [List.getElem?_map, List.getD_eq_getElem?_getD, List.getElem?_eq_getElem this]; rfl
     ·rw [List.getElem?_eq_none (by simp; omega), List.getElem?_eq_none (by simp [HN.out]; omega)]
    have HF := Lib.hid (And.intro hown hbel); clear hown hfin hbel
    clear hk hz
    go_wp2_with fail
    go_end0
    exact ⟨⟨_, rfl⟩, HF.out.1, HF.out.2⟩
end Go.Proofs.YtccnkebkgegohaaGreatDoor
end
