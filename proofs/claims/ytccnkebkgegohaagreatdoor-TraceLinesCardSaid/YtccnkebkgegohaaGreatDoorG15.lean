import Derived.Test.YtccnkebkgegohaaGreatDoorG14
import Derived.RegionTactic
import Derived.ChangeAlike
import Derived.Lib.AppendZeros
/-
  Given contracts of functions of the program, and laws for them, one behind the other.
-/
set_option linter.unusedVariables false
set_option linter.unusedSimpArgs false
set_option linter.unusedSectionVars false
section
namespace Go.Proofs.YtccnkebkgegohaaGreatDoor
open Go.RowKit Go.Rel
set_option maxRecDepth 100000
/-- a row without its turns -/
def reduceI (tb dep : Int → Int → Bool) : Nat → List Int → List Int
 | 0, left => left
 | n + 1, left => match turnM tb dep left with
  | none => left
  | some (i, j) => reduceI tb dep n (left.filter fun y => !([i, j].contains y))
theorem scanT_mem {tb dep : Int → Int → Bool} {i j : Int} : ∀ {js : List Int}, scanT tb dep i js = some j → j ∈ js
 | y :: js, h => by
  unfold scanT at h
  split at h
  ·cases h; simp
  ·split at h
   ·cases h
   ·exact List.mem_cons_of_mem _ (scanT_mem h)
theorem turnM_mem {tb dep : Int → Int → Bool} {i j : Int} : ∀ {left : List Int}, turnM tb dep left = some (i, j) → i ∈ left ∧ j ∈ left
 | x :: left, h => by
  unfold turnM at h
  split at h
  ·next y hy =>
   cases h
   exact ⟨by simp, List.mem_cons_of_mem _ (scanT_mem hy)⟩
  ·next hy =>
   have := turnM_mem h
   exact ⟨List.mem_cons_of_mem _ this.1, List.mem_cons_of_mem _ this.2⟩
theorem filter_lt2 {left : List Int} {i j : Int} (h : i ∈ left) : (left.filter fun y => !([i, j].contains y)).length < left.length := by
 have h1 := filter_lt h
 refine Nat.lt_of_le_of_lt ?_ h1
 have : (left.filter fun y => !([i, j].contains y)) = (left.filter fun y => !([i].contains y)).filter fun y => !([j].contains y) := by
  rw [List.filter_filter]
  congr 1
  funext y
  simp only [List.contains_cons, List.contains_nil, Bool.or_false]
  cases (y == i) <;> cases (y == j) <;> rfl
 rw [this]
 exact List.length_filter_le _ _
theorem reduceI_sub {tb dep : Int → Int → Bool} : ∀ (n : Nat) (left : List Int), ∀ x ∈ reduceI tb dep n left, x ∈ left
 | 0, left, x, h => h
 | n + 1, left, x, h => by
  unfold reduceI at h
  split at h
  ·exact h
  ·exact (List.mem_filter.1 (reduceI_sub n _ x h)).1
theorem reduceI_len {tb dep : Int → Int → Bool} : ∀ (n : Nat) (left : List Int), (reduceI tb dep n left).length ≤ left.length
 | 0, left => Nat.le_refl _
 | n + 1, left => by
  unfold reduceI
  split
  ·exact Nat.le_refl _
  ·exact Nat.le_trans (reduceI_len n _) (List.length_filter_le _ _)
theorem reduceI_none {tb dep : Int → Int → Bool} {left : List Int} (h : turnM tb dep left = none) (n : Nat) : reduceI tb dep n left = left := by
 cases n with
 | zero => rfl
 | succ n => rw [reduceI, h]
theorem reduceI_fuel {tb dep : Int → Int → Bool} : ∀ (n : Nat) (left : List Int), left.length ≤ n → reduceI tb dep n left = reduceI tb dep left.length left
 | 0, left, h => by
  have : left = [] := List.eq_nil_of_length_eq_zero (by omega)
  subst this; rfl
 | n + 1, left, h => by
  cases ht : turnM tb dep left with
  | none => rw [reduceI_none ht, reduceI_none ht]
  | some ij =>
   obtain ⟨i, j⟩ := ij
   have hm := (turnM_mem ht).1
   have hlt := filter_lt2 (j := j) hm
   obtain ⟨k, hk⟩ : ∃ k, left.length = k + 1 := ⟨left.length - 1, by omega⟩
   have e1 : reduceI tb dep (n + 1) left = reduceI tb dep n (left.filter fun y => !([i, j].contains y)) := by rw [reduceI, ht]
   have e2 : reduceI tb dep left.length left = reduceI tb dep k (left.filter fun y => !([i, j].contains y)) := by rw [hk, reduceI, ht]
   rw [e1, e2, reduceI_fuel n _ (by omega), reduceI_fuel k _ (by omega)]
theorem reduceI_step {tb dep : Int → Int → Bool} {left : List Int} {i j : Int} (h : turnM tb dep left = some (i, j)) :
  reduceI tb dep left.length left = reduceI tb dep (left.filter fun y => !([i, j].contains y)).length (left.filter fun y => !([i, j].contains y)) := by
 have hm := (turnM_mem h).1
 have hlt := filter_lt2 (j := j) hm
 obtain ⟨k, hk⟩ : ∃ k, left.length = k + 1 := ⟨left.length - 1, by omega⟩
 have e2 : reduceI tb dep left.length left = reduceI tb dep k (left.filter fun y => !([i, j].contains y)) := by rw [hk, reduceI, h]
 rw [e2, reduceI_fuel k _ (by omega)]
/-- what is left without turns -/
def reducedM (l : List Sol) (acts : List Ac) : List Int := reduceI (turnB l acts) (depI (cellsOf l acts)) (upto acts.length).length (upto acts.length)
set_option maxHeartbeats 4000000 in
theorem Reduced_bad {blank : Sol} {v av : Value} {l : List Sol} {acts : List Ac} {x : Nat × Int} (h : begunM blank l acts = .inl x) (w : World) (Hv : SlS w v l) (Hav : SlA w av acts) :
  Calls Tryz.prog 21 #[.agg #[.int .u64 (pl blank 0), .int .u64 (pl blank 1), .int .u64 (pl blank 2), .int .u64 (pl blank 3), .int .u64 (pl blank 4), .int .u64 (pl blank 5), .int .u64 (pl blank 6), .int .u64 (pl blank 7), v, av]] w fun e w' => e = .returned (.tuple #[.agg #[.int .u64 0, .int .u64 0, .int .u64 0, .int .u64 0, .int .u64 0, .int .u64 0, .int .u64 0, .int .u64 0, .slice none 0 0, .slice none 0 0], .int .i64 x.2]) ∧ Below w.heap.size w w' := by
 have H := Lib.hid fun w' (hb : Below w.heap.size w w') => begun_bad h w' (Hv.mono hb) (Hav.mono hb)
 have hne := begunM_bad h
 clear h Hv Hav
 go_enter Tryz.func21, Tryz.ntmps21
 go_wp2_with fail
 refine (H.out _ bel_by).mono ?_
 rintro e w1 ⟨rfl, hb⟩
 have b1 : Blk w1 (w.heap.size + 1) #[.int .u64 0, .int .u64 0, .int .u64 0, .int .u64 0, .int .u64 0, .int .u64 0, .int .u64 0, .int .u64 0, .slice none 0 0, .slice none 0 0] 30 := Blk.grow blk_by hb
 have r1 := b1.row
 rw [← b1.rw]
 clear b1
 go_wp2_with fail
 refine bodyPost_ret (by simp [results, Tryz.results21, go_sem, *]) rfl ⟨rfl, bel_by⟩
set_option maxHeartbeats 8000000 in
theorem Reduced_good {blank : Sol} {v av : Value} {l : List Sol} {acts : List Ac} {s : Stn} (h : begunM blank l acts = .inr s) (w : World) (Hv : SlS w v l) (Hav : SlA w av acts) :
  Calls Tryz.prog 21 #[.agg #[.int .u64 (pl blank 0), .int .u64 (pl blank 1), .int .u64 (pl blank 2), .int .u64 (pl blank 3), .int .u64 (pl blank 4), .int .u64 (pl blank 5), .int .u64 (pl blank 6), .int .u64 (pl blank 7), v, av]] w fun e w' => ∃ pv bv, e = .returned (.tuple #[.agg #[.int .u64 (pl blank 0), .int .u64 (pl blank 1), .int .u64 (pl blank 2), .int .u64 (pl blank 3), .int .u64 (pl blank 4), .int .u64 (pl blank 5), .int .u64 (pl blank 6), .int .u64 (pl blank 7), pv, bv], .int .i64 0]) ∧ OwnS w' w.heap.size pv l ∧ OwnA w' w.heap.size bv (actsAt acts (leastI (depI (cellsOf l acts)) (cmpN acts) (reducedM l acts).length (reducedM l acts))) ∧ Below w.heap.size w w' := by
 have H := Lib.hid fun w' (hb : Below w.heap.size w w') => begun_good h w' (Hv.mono hb) (Hav.mono hb)
 have hg := begunM_good h
 have h8 := chkPat_ok hg.1
 have hn := hg.2.1
 have HV := Lib.hid (And.intro Hv Hav)
 clear h Hv Hav hg
 generalize hres : reducedM l acts = res
 have HRS := Lib.hid hres; clear hres
 unfold reducedM at HRS
 go_enter Tryz.func21, Tryz.ntmps21
 go_wp2_with fail
 refine (H.out _ bel_by).mono ?_
 rintro e w1 ⟨bp, rfl, hbp, hP, hb⟩
 have b1 : Blk w1 (w.heap.size + 1) #[.int .u64 0, .int .u64 0, .int .u64 0, .int .u64 0, .int .u64 0, .int .u64 0, .int .u64 0, .int .u64 0, .slice none 0 0, .slice none 0 0] 30 := Blk.grow blk_by hb
 have hB1 : Below w.heap.size w w1 := bel_trans bel_by hb
 have HP1 := Lib.hid hP; clear hP
 have hs1 := hb.size
 simp only [World.size_alloc] at hs1
 clear hb hbp
 go_wp2_with fail
 refine (indices_spec w1 HP1.out hn).mono ?_
 rintro e w2 ⟨u2, rfl, hO2, hb2⟩
 have hB2 : Below w.heap.size w w2 := bel_trans hB1 hb2
 have HP2 := Lib.hid (HP1.out.grow hb2)
 have b2 := b1.grow hb2
 have hs2 := hb2.size
 have HO2 : Hid (OwnI w2 (w.heap.size + 1) u2 (upto acts.length)) := Lib.hid (own_weak hO2 (Nat.le_of_lt (by omega : w.heap.size + 1 < w1.heap.size)))
 clear hb2 b1 hO2
 go_wp2_with fail
 go_loopw [7] (fun u wr => ∃ left : List Int, Hid (OwnI wr (w.heap.size + 1) u left) ∧ Hid (∀ x ∈ left, 0 ≤ x ∧ x < (acts.length : Int)) ∧ left.length ≤ 60 ∧ Hid (reduceI (turnB l acts) (depI (cellsOf l acts)) left.length left = res) ∧ Hid (PastAt bp blank v av l acts s wr) ∧ Below w.heap.size w wr ∧ Blk wr (w.heap.size + 1) #[.int .u64 0, .int .u64 0, .int .u64 0, .int .u64 0, .int .u64 0, .int .u64 0, .int .u64 0, .int .u64 0, .slice none 0 0, .slice none 0 0] 30) (fun u _ => sliceLen u)
 case atStart => exact ⟨_, HO2, Lib.hid upto_range, by rw [upto_length]; exact hn, HRS, HP2, hB2, b2⟩
 case round =>
  obtain ⟨left, hO, hR, h60, hrun, hPr, hbel, hbr⟩ := hrel
  have HT := Lib.hid (turn_spec wr hPr.out (HV.out.2.mono hbel) _ left hO.out.sl hR.out)
  generalize htm : turnM (turnB l acts) (depI (cellsOf l acts)) left = tm at HT
  have HTM := Lib.hid htm; clear htm
  have hsr := hbr.lt
  rcases tm with _ | ⟨i, j⟩
  ·have HT2 := Lib.hid (show Calls Tryz.prog 91 _ wr fun e w' => e = .returned (.tuple #[.int .i64 0, .int .i64 0, .bool false]) ∧ Below wr.heap.size wr w' from HT.out)
   have HRE : Hid (left = res) := Lib.hid (by rw [← hrun.out, reduceI_none HTM.out])
   clear HT
   go_wp2_with fail
   refine HT2.out.mono ?_
   rintro e w3 ⟨rfl, hb3⟩
   have hB3 : Below w.heap.size w w3 := bel_trans hbel hb3
   have HP3 := Lib.hid (hPr.out.grow hb3)
   have b3 := hbr.grow hb3
   have HO3 : Hid (OwnI w3 (w.heap.size + 1) _ left) := Lib.hid (own_grow hO.out hb3)
   have hs3 := hb3.size
   clear hb3 HT2 hbr
   go_wp2_with fail
   refine (least_spec w3 HP3.out (HV.out.2.mono hB3) hn _ left HO3.out.sl hR.out h60).mono ?_
   rintro e w4 ⟨o4, rfl, hO4, hb4⟩
   have HO4 := Lib.hid hO4; clear hO4
   have hB4 : Below w.heap.size w w4 := bel_trans hB3 hb4
   have HP4 := Lib.hid (HP3.out.grow hb4)
   have b4 := b3.grow hb4
   have hs4 := hb4.size
   clear hb4 b3
   go_wp2_with fail
   refine (with_spec w4 HP4.out (HV.out.1.mono hB4) h8 o4 (actsAt acts (leastI (depI (cellsOf l acts)) (cmpN acts) res.length res)) (by rw [← HRE.out]; exact HO4.out.sl) (by rw [List.length_map]; exact Nat.le_trans (leastI_len _ _) (by rw [← HRE.out]; omega))).mono ?_
   rintro e w5 ⟨pv, bv, rfl, hS, hA, hb5⟩
   have hB5 : Below w.heap.size w w5 := bel_trans hB4 hb5
   have b5 := b4.grow hb5
   have HS := Lib.hid (And.intro hS hA)
   refine Veil.out ?_
   obtain ⟨p, c, hp, _, _⟩ := own_shape' hS
   obtain ⟨p', c', hp', _, _⟩ := own_shape' hA
   subst hp
   subst hp'
   refine Veil.on ?_
   clear hS hA hb5 b4
   have r1 := b5.row
   rw [← b5.rw]
   clear b5
   go_wp2_with fail
   refine bodyPost_ret (by simp [results, Tryz.results21, go_sem, *]) rfl ⟨_, _, rfl, own_weak (own_row (bp := w.heap.size + 1) HS.out.1 (by omega) _) (by omega), own_weak (own_row (bp := w.heap.size + 1) HS.out.2 (by omega) _) (by omega), bel_by⟩
  ·have HT2 := Lib.hid (show Calls Tryz.prog 91 _ wr fun e w' => e = .returned (.tuple #[.int .i64 i, .int .i64 j, .bool true]) ∧ Below wr.heap.size wr w' from HT.out)
   have HLT : Hid ((left.filter fun y => !([i, j].contains y)).length < left.length) := Lib.hid (filter_lt2 (turnM_mem HTM.out).1)
   have HRE : Hid (reduceI (turnB l acts) (depI (cellsOf l acts)) (left.filter fun y => !([i, j].contains y)).length (left.filter fun y => !([i, j].contains y)) = res) := Lib.hid (by rw [← hrun.out, reduceI_step HTM.out])
   have hlenu := hO.out.len
   have HLU := Lib.hid hlenu; clear hlenu
   clear HT
   go_wp2_with fail
   refine HT2.out.mono ?_
   rintro e w3 ⟨rfl, hb3⟩
   have hB3 : Below w.heap.size w w3 := bel_trans hbel hb3
   have HP3 := Lib.hid (hPr.out.grow hb3)
   have b3 := hbr.grow hb3
   have HO3 : Hid (OwnI w3 (w.heap.size + 1) _ left) := Lib.hid (own_grow hO.out hb3)
   have hs3 := hb3.size
   clear hb3 HT2 hbr
   have hgn : SlI (w3.alloc (.cells #[.int .i64 i, .int .i64 j] 3)) (.slice (some ⟨w3.heap.size, 0, none⟩) 2 2) [i, j] := OwnI.sl (base := w3.heap.size) (World.ownsRow_lit (e := 3) (size := 1) (base := w3.heap.size) w3 #[.int .i64 i, .int .i64 j] 2 (Nat.le_refl _) (by unfold maxLen; omega) rfl)
   have HW := Lib.hid (without_spec _ _ left [i, j] _ (HO3.out.sl.mono (bel_alloc (bel_refl w3) _)) hgn (by omega)); clear hgn
   have b3' := b3.alloc (.cells #[.int .i64 i, .int .i64 j] 3)
   have HB3 := Lib.hid (And.intro b3' (And.intro (HP3.out.grow (bel_alloc (bel_refl w3) (.cells #[.int .i64 i, .int .i64 j] 3))) (bel_alloc hB3 (.cells #[.int .i64 i, .int .i64 j] 3)))); clear b3'
   go_wp2_with fail
   refine HW.out.mono ?_
   rintro e w4 ⟨u4, rfl, hO4, hb4⟩
   have HO4 := Lib.hid (And.intro hO4 (And.intro (HB3.out.1.grow hb4) (And.intro (HB3.out.2.1.grow hb4) (bel_trans HB3.out.2.2 hb4)))); clear hO4 hb4
   go_wp2_with fail
   go_roundw
   case rel => exact ⟨_, Lib.hid (own_weak HO4.out.1 (by simp; omega)), Lib.hid (fun y hy => hR.out y (List.mem_filter.1 hy).1), Nat.le_trans (Nat.le_of_lt HLT.out) h60, HRE, Lib.hid HO4.out.2.2.1, HO4.out.2.2.2, HO4.out.2.1⟩
   case measure =>
    have h1 := HLU.out
    have h2 := HLT.out
    have h3 := HO4.out.1.len
    show sliceLen u4 < sliceLen _
    omega
end Go.Proofs.YtccnkebkgegohaaGreatDoor
end
section
namespace Go.Proofs.YtccnkebkgegohaaGreatDoor
open Go.RowKit Go.Rel
set_option maxRecDepth 100000
def samePat (blank : Sol) (l : List Sol) (blank2 : Sol) (l2 : List Sol) : Bool := (blank == blank2) && (l == l2)
theorem both_good {blank : Sol} {v av : Value} {l : List Sol} {acts : List Ac} {s : Stn} (h : begunM blank l acts = .inr s) {blank2 : Sol} {v2 av2 : Value} {l2 : List Sol} {acts2 : List Ac} {s2 : Stn} (h2 : begunM blank2 l2 acts2 = .inr s2) (w : World) (Hv : SlS w v l) (Hav : SlA w av acts) (Hv2 : SlS w v2 l2) (Hav2 : SlA w av2 acts2) :
  Calls Tryz.prog 107 #[.agg #[.int .u64 (pl blank 0), .int .u64 (pl blank 1), .int .u64 (pl blank 2), .int .u64 (pl blank 3), .int .u64 (pl blank 4), .int .u64 (pl blank 5), .int .u64 (pl blank 6), .int .u64 (pl blank 7), v, av], .agg #[.int .u64 (pl blank2 0), .int .u64 (pl blank2 1), .int .u64 (pl blank2 2), .int .u64 (pl blank2 3), .int .u64 (pl blank2 4), .int .u64 (pl blank2 5), .int .u64 (pl blank2 6), .int .u64 (pl blank2 7), v2, av2]] w fun e w' => ∃ bp bq, e = .returned (.tuple #[.pointer (some ⟨bp, 0, none⟩), .pointer (some ⟨bq, 0, none⟩), .bool (samePat blank l blank2 l2), .int .i64 0]) ∧ PastAt bp blank v av l acts s w' ∧ PastAt bq blank2 v2 av2 l2 acts2 s2 w' ∧ Below w.heap.size w w' := by
 unfold samePat
 cases hbl : (blank == blank2) with
 | true => rw [Bool.true_and]; exact both_good_true h h2 w Hv Hav Hv2 Hav2 hbl
 | false => rw [Bool.false_and]; exact both_good_false h h2 w Hv Hav Hv2 Hav2 hbl
set_option maxHeartbeats 4000000 in
theorem together_bad1 {blank : Sol} {v av : Value} {l : List Sol} {acts : List Ac} {x : Nat × Int} (h : begunM blank l acts = .inl x) (blank2 : Sol) (v2 av2 : Value) (w : World) (Hv : SlS w v l) (Hav : SlA w av acts) :
  Calls Tryz.prog 96 #[.agg #[.int .u64 (pl blank 0), .int .u64 (pl blank 1), .int .u64 (pl blank 2), .int .u64 (pl blank 3), .int .u64 (pl blank 4), .int .u64 (pl blank 5), .int .u64 (pl blank 6), .int .u64 (pl blank 7), v, av], .agg #[.int .u64 (pl blank2 0), .int .u64 (pl blank2 1), .int .u64 (pl blank2 2), .int .u64 (pl blank2 3), .int .u64 (pl blank2 4), .int .u64 (pl blank2 5), .int .u64 (pl blank2 6), .int .u64 (pl blank2 7), v2, av2]] w fun e w' => e = .returned (.tuple #[.pointer none, .pointer none, .int .i64 x.2]) ∧ Below w.heap.size w w' := by
 have H := Lib.hid fun w' (hb : Below w.heap.size w w') => both_bad1 h blank2 v2 av2 w' (Hv.mono hb) (Hav.mono hb)
 have hne := begunM_bad h
 have hne' : (x.2 == 0) = false := by simpa using hne
 clear h Hv Hav
 go_enter Tryz.func96, Tryz.ntmps96
 go_wp2_with fail
 refine (H.out _ bel_by).mono ?_
 rintro e w1 ⟨rfl, hb⟩
 have hB1 : Below w.heap.size w w1 := bel_trans bel_by hb
 go_wp2_with fail
 refine bodyPost_ret (by simp [results, Tryz.results96, go_sem]) rfl ⟨rfl, hB1⟩
set_option maxHeartbeats 4000000 in
theorem together_bad2 {blank : Sol} {v av : Value} {l : List Sol} {acts : List Ac} {s : Stn} (h : begunM blank l acts = .inr s) {blank2 : Sol} {v2 av2 : Value} {l2 : List Sol} {acts2 : List Ac} {x : Nat × Int} (h2 : begunM blank2 l2 acts2 = .inl x) (w : World) (Hv : SlS w v l) (Hav : SlA w av acts) (Hv2 : SlS w v2 l2) (Hav2 : SlA w av2 acts2) :
  Calls Tryz.prog 96 #[.agg #[.int .u64 (pl blank 0), .int .u64 (pl blank 1), .int .u64 (pl blank 2), .int .u64 (pl blank 3), .int .u64 (pl blank 4), .int .u64 (pl blank 5), .int .u64 (pl blank 6), .int .u64 (pl blank 7), v, av], .agg #[.int .u64 (pl blank2 0), .int .u64 (pl blank2 1), .int .u64 (pl blank2 2), .int .u64 (pl blank2 3), .int .u64 (pl blank2 4), .int .u64 (pl blank2 5), .int .u64 (pl blank2 6), .int .u64 (pl blank2 7), v2, av2]] w fun e w' => e = .returned (.tuple #[.pointer none, .pointer none, .int .i64 x.2]) ∧ Below w.heap.size w w' := by
 have H := Lib.hid fun w' (hb : Below w.heap.size w w') => both_bad2 h h2 w' (Hv.mono hb) (Hav.mono hb) (Hv2.mono hb) (Hav2.mono hb)
 have hne := begunM_bad h2
 have hne' : (x.2 == 0) = false := by simpa using hne
 clear h h2 Hv Hav Hv2 Hav2
 go_enter Tryz.func96, Tryz.ntmps96
 go_wp2_with fail
 refine (H.out _ bel_by).mono ?_
 rintro e w1 ⟨rfl, hb⟩
 have hB1 : Below w.heap.size w w1 := bel_trans bel_by hb
 go_wp2_with fail
 refine bodyPost_ret (by simp [results, Tryz.results96, go_sem]) rfl ⟨rfl, hB1⟩
set_option maxHeartbeats 4000000 in
theorem together_good {blank : Sol} {v av : Value} {l : List Sol} {acts : List Ac} {s : Stn} (h : begunM blank l acts = .inr s) {blank2 : Sol} {v2 av2 : Value} {l2 : List Sol} {acts2 : List Ac} {s2 : Stn} (h2 : begunM blank2 l2 acts2 = .inr s2) (w : World) (Hv : SlS w v l) (Hav : SlA w av acts) (Hv2 : SlS w v2 l2) (Hav2 : SlA w av2 acts2) (c : Bool) (hc : samePat blank l blank2 l2 = c) :
  Calls Tryz.prog 96 #[.agg #[.int .u64 (pl blank 0), .int .u64 (pl blank 1), .int .u64 (pl blank 2), .int .u64 (pl blank 3), .int .u64 (pl blank 4), .int .u64 (pl blank 5), .int .u64 (pl blank 6), .int .u64 (pl blank 7), v, av], .agg #[.int .u64 (pl blank2 0), .int .u64 (pl blank2 1), .int .u64 (pl blank2 2), .int .u64 (pl blank2 3), .int .u64 (pl blank2 4), .int .u64 (pl blank2 5), .int .u64 (pl blank2 6), .int .u64 (pl blank2 7), v2, av2]] w fun e w' => ∃ bp bq, e = .returned (.tuple #[.pointer (some ⟨bp, 0, none⟩), .pointer (some ⟨bq, 0, none⟩), .int .i64 (if c then 0 else 43)]) ∧ PastAt bp blank v av l acts s w' ∧ PastAt bq blank2 v2 av2 l2 acts2 s2 w' ∧ Below w.heap.size w w' := by
 have H := Lib.hid fun w' (hb : Below w.heap.size w w') => both_good h h2 w' (Hv.mono hb) (Hav.mono hb) (Hv2.mono hb) (Hav2.mono hb)
 rw [hc] at H
 clear h h2 Hv Hav Hv2 Hav2 hc
 cases c with
 | true =>
  rw [if_pos rfl]
  go_enter Tryz.func96, Tryz.ntmps96
  go_wp2_with fail
  refine (H.out _ bel_by).mono ?_
  rintro e w1 ⟨bp, bq, rfl, hP, hQ, hb⟩
  have hB1 : Below w.heap.size w w1 := bel_trans bel_by hb
  have HP := Lib.hid (And.intro hP hQ); clear hP hQ
  go_wp2_with fail
  refine bodyPost_ret (by simp [results, Tryz.results96, go_sem]) rfl ⟨_, _, rfl, HP.out.1, HP.out.2, hB1⟩
 | false =>
  rw [if_neg (by decide)]
  go_enter Tryz.func96, Tryz.ntmps96
  go_wp2_with fail
  refine (H.out _ bel_by).mono ?_
  rintro e w1 ⟨bp, bq, rfl, hP, hQ, hb⟩
  have hB1 : Below w.heap.size w w1 := bel_trans bel_by hb
  have HP := Lib.hid (And.intro hP hQ); clear hP hQ
  go_wp2_with fail
  refine bodyPost_ret (by simp [results, Tryz.results96, go_sem]) rfl ⟨_, _, rfl, HP.out.1, HP.out.2, hB1⟩
end Go.Proofs.YtccnkebkgegohaaGreatDoor
end
section
namespace Go.Proofs.YtccnkebkgegohaaGreatDoor
open Go.RowKit Go.Rel
set_option maxRecDepth 100000
abbrev acA (a : Ac) : Array Value := #[.int .u8 a.1, .int .i64 a.2.1, .int .u64 (pl a.2.2 0), .int .u64 (pl a.2.2 1), .int .u64 (pl a.2.2 2), .int .u64 (pl a.2.2 3), .int .u64 (pl a.2.2 4), .int .u64 (pl a.2.2 5), .int .u64 (pl a.2.2 6), .int .u64 (pl a.2.2 7)]
abbrev zeroA : Array Value := #[.int .u8 0, .int .i64 0, .int .u64 0, .int .u64 0, .int .u64 0, .int .u64 0, .int .u64 0, .int .u64 0, .int .u64 0, .int .u64 0]
/-- the first act of a list that is not independent of another one, with the first one of that -/
def scanC (l : List Sol) (a : Ac) : List Ac → Option Ac
 | [] => none
 | b :: bs => if meetsB (acCells l a) (acCells l b) then some b else scanC l a bs
def conflictM (l : List Sol) : List Ac → List Ac → Option (Ac × Ac)
 | [], _ => none
 | a :: rest, other => match scanC l a other with
  | some b => some (a, b)
  | none => conflictM l rest other
def conflR : Option (Ac × Ac) → Value
 | some (a, b) => .tuple #[.agg (acA a), .agg (acA b), .bool true]
 | none => .tuple #[.agg zeroA, .agg zeroA, .bool false]
theorem scanC_yes {l : List Sol} {a b : Ac} {bs : List Ac} (h : meetsB (acCells l a) (acCells l b) = true) : scanC l a (b :: bs) = some b := by simp [scanC, h]
theorem scanC_no {l : List Sol} {a b : Ac} {bs : List Ac} (h : meetsB (acCells l a) (acCells l b) = false) : scanC l a (b :: bs) = scanC l a bs := by simp [scanC, h]
theorem conflictM_yes {l : List Sol} {a b : Ac} {rest other : List Ac} (h : scanC l a other = some b) : conflictM l (a :: rest) other = some (a, b) := by simp [conflictM, h]
theorem conflictM_no {l : List Sol} {a : Ac} {rest other : List Ac} (h : scanC l a other = none) : conflictM l (a :: rest) other = conflictM l rest other := by simp [conflictM, h]
theorem SlA.opn {w : World} {v : Value} {l : List Ac} (h : SlA w v l) : ∃ p c, v = .slice p l.length c ∧ l.length ≤ 9223372036854775807 ∧ (∀ (k : Nat) (x : Ac), l[k]? = some x → ∀ W', Below w.heap.size w W' → ∃ b off, p = some ⟨b, off, none⟩ ∧ b < w.heap.size ∧
  (W'.cell? ⟨b, off + k * 10, none⟩ = some (.int .u8 x.1) ∧ W'.cell? ⟨b, off + k * 10 + 1, none⟩ = some (.int .i64 x.2.1) ∧ W'.cell? ⟨b, off + k * 10 + 2, none⟩ = some (.int .u64 (pl x.2.2 0)) ∧ W'.cell? ⟨b, off + k * 10 + 3, none⟩ = some (.int .u64 (pl x.2.2 1)) ∧ W'.cell? ⟨b, off + k * 10 + 4, none⟩ = some (.int .u64 (pl x.2.2 2)) ∧ W'.cell? ⟨b, off + k * 10 + 5, none⟩ = some (.int .u64 (pl x.2.2 3)) ∧ W'.cell? ⟨b, off + k * 10 + 6, none⟩ = some (.int .u64 (pl x.2.2 4)) ∧ W'.cell? ⟨b, off + k * 10 + 7, none⟩ = some (.int .u64 (pl x.2.2 5)) ∧ W'.cell? ⟨b, off + k * 10 + 8, none⟩ = some (.int .u64 (pl x.2.2 6)) ∧ W'.cell? ⟨b, off + k * 10 + 9, none⟩ = some (.int .u64 (pl x.2.2 7)))) := by
 rcases h.cases with ⟨hl, a, c, rfl, hm⟩ | ⟨b, off, c, rfl, hc, hm, hpos, hcs⟩
 ·have hl' : l = [] := by simpa using hl
  subst hl'
  exact ⟨a, c, rfl, by simp, fun k x hk => by simp at hk⟩
 ·rw [List.length_map] at hc ⊢
  exact ⟨_, c, rfl, by omega, fun k x hk W' hb => ⟨b, off, rfl, hcs.1, ac_cells (hcs.mono hb hcs.1) hk⟩⟩
set_option maxHeartbeats 16000000 in
theorem conflict_spec {bp : Nat} {blank : Sol} {v av : Value} {l : List Sol} {acts : List Ac} {s : Stn} (w : World) (HP : PastAt bp blank v av l acts s w) (Hv : SlS w v l) (h8 : l.length ≤ 8) (u1 u2 : Value) (rest other : List Ac) (H1 : SlA w u1 rest) (H2 : SlA w u2 other) (hf1 : ∀ a ∈ rest, fits l.length a = true) (hf2 : ∀ a ∈ other, fits l.length a = true) :
  Calls Tryz.prog 98 #[.pointer (some ⟨bp, 0, none⟩), u1, u2] w fun e w' => e = .returned (conflR (conflictM l rest other)) ∧ Below w.heap.size w w' := by
 obtain ⟨p1, c1, rfl, hm1, hr⟩ := H1.opn
 obtain ⟨p2, c2, rfl, hm2, ho⟩ := H2.opn
 obtain ⟨dv, hpast, _⟩ := HP.past
 have HM : Hid (∀ a, fits l.length a = true → ∀ w', Below w.heap.size w w' → Calls Tryz.prog 99 #[.agg #[.int .u64 (pl blank 0), .int .u64 (pl blank 1), .int .u64 (pl blank 2), .int .u64 (pl blank 3), .int .u64 (pl blank 4), .int .u64 (pl blank 5), .int .u64 (pl blank 6), .int .u64 (pl blank 7), v], .agg #[.int .u8 a.1, .int .i64 a.2.1, .int .u64 (pl a.2.2 0), .int .u64 (pl a.2.2 1), .int .u64 (pl a.2.2 2), .int .u64 (pl a.2.2 3), .int .u64 (pl a.2.2 4), .int .u64 (pl a.2.2 5), .int .u64 (pl a.2.2 6), .int .u64 (pl a.2.2 7)]] w' fun e w'' => e = .returned (deedV (made l a)) ∧ Below w'.heap.size w' w'') := Lib.hid fun a ha w' hb => by
  have := made_spec blank v l a w' (Hv.mono hb) h8
  rw [if_pos ha] at this
  exact this
 have HRR := Lib.hid hr; have HOO := Lib.hid ho
 have HF := Lib.hid (And.intro hf1 hf2)
 have HPA := Lib.hid hpast
 have lp := hpast.lt
 clear hr ho hf1 hf2 hpast HP Hv H1 H2 h8
 generalize hn1 : rest.length = n1 at *
 generalize hn2 : other.length = n2 at *
 have HN := Lib.hid (And.intro hn1 hn2); clear hn1 hn2
 generalize hres : conflictM l rest other = res
 have HRES := Lib.hid hres; clear hres
 go_enter Tryz.func98, Tryz.ntmps98
 go_wp2_with fail
 go_loopw [15] (fun y wr => ∃ k : Nat, k ≤ n1 ∧ y = .int .i64 k ∧ Hid (res = conflictM l (rest.drop k) other) ∧ Blk wr w.heap.size zeroA 46 ∧ Blk wr (w.heap.size + 1) zeroA 46 ∧ Below w.heap.size w wr) (fun y _ => n1 - (intOf y).toNat)
 case atStart => exact ⟨0, Nat.zero_le _, rfl, Lib.hid HRES.out.symm, blk_by, blk_by, bel_by⟩
 case round =>
  obtain ⟨k, hk, rfl, hrun, b6, b7, hbel⟩ := hrel
  by_cases hlt : k < n1
  ·have hkl : k < rest.length := by rw [HN.out.1]; exact hlt
   have HX : Hid (rest.drop k = rest[k]'hkl :: rest.drop (k + 1)) := Lib.hid (List.drop_eq_getElem_cons hkl)
   have hfx := HF.out.1 _ (List.getElem_mem hkl)
   refine Veil.out ?_
   obtain ⟨b1, off1, rfl, lb1, hcs⟩ := HRR.out k _ (by simp [hkl] : rest[k]? = some rest[k]) wr hbel
   refine Veil.on ?_
   generalize rest[k]'hkl = x at hcs hfx HX
   have lb1' : b1 < wr.heap.size := Nat.lt_of_lt_of_le lb1 hbel.size
   obtain ⟨e0, e1, e2, e3, e4, e5, e6, e7, e8, e9⟩ := hcs
   have HB := Lib.hid (And.intro b6 (And.intro b7 hbel)); clear b6 b7 hbel
   go_wp2_with fail
   obtain ⟨wo, hwo⟩ : ∃ wo : World, wo = wr.alloc (.cells (acA x) 46) := ⟨_, rfl⟩
   have HBO : Hid (Blk wo wr.heap.size (acA x) 46 ∧ Blk wo w.heap.size zeroA 46 ∧ Blk wo (w.heap.size + 1) zeroA 46 ∧ Below w.heap.size w wo) := Lib.hid (by subst hwo; exact ⟨Blk.new _ _ _, HB.out.1.alloc _, HB.out.2.1.alloc _, bel_alloc HB.out.2.2 _⟩)
   have hha : w.heap.size + 1 < wr.heap.size := HB.out.2.1.lt
   rw [← hwo]
   clear hwo e0 e1 e2 e3 e4 e5 e6 e7 e8 e9 HB lb1'
   generalize wr.heap.size = ha at *
   go_loopw [21] (fun y wq => ∃ j : Nat, j ≤ n2 ∧ y = .int .i64 j ∧ Hid (scanC l x other = scanC l x (other.drop j)) ∧ Blk wq ha (acA x) 46 ∧ Blk wq w.heap.size zeroA 46 ∧ Blk wq (w.heap.size + 1) zeroA 46 ∧ Below w.heap.size w wq) (fun y _ => n2 - (intOf y).toNat)
   case atStart => exact ⟨0, Nat.zero_le _, rfl, Lib.hid rfl, HBO.out⟩
   case round =>
    obtain ⟨j, hj, rfl, hscan, bx, b6, b7, hbel⟩ := hrel
    clear HBO
    by_cases hjt : j < n2
    ·have hjl : j < other.length := by rw [HN.out.2]; exact hjt
     have HY : Hid (other.drop j = other[j]'hjl :: other.drop (j + 1)) := Lib.hid (List.drop_eq_getElem_cons hjl)
     have hfy := HF.out.2 _ (List.getElem_mem hjl)
     refine Veil.out ?_
     obtain ⟨b2, off2, rfl, lb2, hcs⟩ := HOO.out j _ (by simp [hjl] : other[j]? = some other[j]) wr hbel
     refine Veil.on ?_
     generalize other[j]'hjl = y at hcs hfy HY
     have lb2' : b2 < wr.heap.size := Nat.lt_of_lt_of_le lb2 hbel.size
     obtain ⟨e0, e1, e2, e3, e4, e5, e6, e7, e8, e9⟩ := hcs
     have HB := Lib.hid (And.intro bx (And.intro b6 (And.intro b7 hbel))); clear bx b6 b7 hbel
     have hA := HM.out x hfx
     have hBB := HM.out y hfy
     have hD := independent_spec (made l x) (made l y)
     have HRD : Hid (meetsB (acCells l x) (acCells l y) = meetsB (made l x).2.2 (made l y).2.2) := Lib.hid rfl
     generalize deedV (made l x) = da at hA hD
     generalize deedV (made l y) = db at hBB hD
     generalize meetsB (made l x).2.2 (made l y).2.2 = r at hD HRD
     have HA := Lib.hid hA; have HBB := Lib.hid hBB; have HD := Lib.hid hD; clear hA hBB hD hfy
     go_wp2_with fail
     obtain ⟨wz, hwz⟩ : ∃ wz : World, wz = wr.alloc (.cells (acA y) 46) := ⟨_, rfl⟩
     have hbx : Blk wz ha (acA x) 46 := by subst hwz; exact HB.out.1.alloc _
     have hby : Blk wz wr.heap.size (acA y) 46 := by subst hwz; exact Blk.new _ _ _
     have HBZ : Hid (Blk wz w.heap.size zeroA 46 ∧ Blk wz (w.heap.size + 1) zeroA 46 ∧ Below w.heap.size w wz) := Lib.hid (by subst hwz; exact ⟨HB.out.2.1.alloc _, HB.out.2.2.1.alloc _, bel_alloc HB.out.2.2.2 _⟩)
     rw [← hwz]
     have hhq : w.heap.size + 1 < wr.heap.size := HB.out.2.2.1.lt
     clear hwz e0 e1 e2 e3 e4 e5 e6 e7 e8 e9 HB lb2'
     generalize wr.heap.size = hq at *
     have ca := hbx.cell
     have la := hbx.lt
     have cb := hby.cell
     have lbb := hby.lt
     have cp : ∀ o, wz.cell? ⟨bp, o, none⟩ = _ := fun o => (HBZ.out.2.2.cell (p := ⟨bp, o, none⟩) lp).trans (HPA.out.cell o)
     have lp' : bp < wz.heap.size := Nat.lt_of_lt_of_le lp HBZ.out.2.2.size
     have HXY := Lib.hid (And.intro hbx hby); clear hbx hby
     refine wp_region_grow 14 [Is (.pointer (some ⟨bp, 0, none⟩)), Is (.pointer (some ⟨bp, 0, none⟩)), Is (.pointer (some ⟨bp, 0, none⟩)), Is (.agg #[.int .u64 (pl blank 0), .int .u64 (pl blank 1), .int .u64 (pl blank 2), .int .u64 (pl blank 3), .int .u64 (pl blank 4), .int .u64 (pl blank 5), .int .u64 (pl blank 6), .int .u64 (pl blank 7), v]), Is (.agg (acA x)), Is da, Is (.pointer (some ⟨bp, 0, none⟩)), Is (.pointer (some ⟨bp, 0, none⟩)), Is (.pointer (some ⟨bp, 0, none⟩)), Is (.agg #[.int .u64 (pl blank 0), .int .u64 (pl blank 1), .int .u64 (pl blank 2), .int .u64 (pl blank 3), .int .u64 (pl blank 4), .int .u64 (pl blank 5), .int .u64 (pl blank 6), .int .u64 (pl blank 7), v]), Is (.agg (acA y)), Is db, Is (.bool (!r)), Is (.bool r)] (by kernel_rfl) (by kernel_rfl) rfl ⟨fun _ _ _ h _ => h, fun _ _ _ h _ => h, fun _ _ _ h _ => h, fun _ _ _ h _ => h, fun _ _ _ h _ => h, fun _ _ _ h _ => h, fun _ _ _ h _ => h, fun _ _ _ h _ => h, fun _ _ _ h _ => h, fun _ _ _ h _ => h, fun _ _ _ h _ => h, fun _ _ _ h _ => h, fun _ _ _ h _ => h, fun _ _ _ h _ => h, trivial⟩ ?_
     simp only [List.take_succ_cons, List.take_zero, List.drop_succ_cons, List.drop_zero]
     iterate 5 (refine rel_cons ?_ (fun _ => ?_); · intro w1 hb hF; have hc := (Grows.cells hb).1; have hf := (Grows.cells hb).2; (try simp [facts, Is] at hF); go_simp; exact Grows.refl _)
     refine rel_cons ?_ (fun v5 => ?_)
     ·intro w1 hb hF; have hc := (Grows.cells hb).1; have hf := (Grows.cells hb).2; try simp [facts, Is] at hF
      go_simp
      refine (HA.out _ (bel_trans HBZ.out.2.2 hb)).mono ?_
      rintro e w4 ⟨rfl, hb4⟩
      exact ⟨rfl, hb4⟩
     iterate 5 (refine rel_cons ?_ (fun _ => ?_); · intro w1 hb hF; have hc := (Grows.cells hb).1; have hf := (Grows.cells hb).2; (try simp [facts, Is] at hF); go_simp; exact Grows.refl _)
     refine rel_cons ?_ (fun v11 => ?_)
     ·intro w1 hb hF; have hc := (Grows.cells hb).1; have hf := (Grows.cells hb).2; try simp [facts, Is] at hF
      go_simp
      refine (HBB.out _ (bel_trans HBZ.out.2.2 hb)).mono ?_
      rintro e w4 ⟨rfl, hb4⟩
      exact ⟨rfl, hb4⟩
     refine rel_cons ?_ (fun v12 => ?_)
     ·intro w1 hb hF; have hc := (Grows.cells hb).1; have hf := (Grows.cells hb).2; try simp [facts, Is] at hF
      go_simp
      refine (HD.out _).mono ?_
      rintro e w4 ⟨rfl, hb4⟩
      exact ⟨rfl, hb4⟩
     refine rel_cons ?_ (fun v13 => ?_)
     ·intro w1 hb hF; have hc := (Grows.cells hb).1; have hf := (Grows.cells hb).2; try simp [facts, Is] at hF
      go_simp
      exact Grows.refl _
     refine rel_nil ?_
     intro w1 hb hF
     simp [Is, Nat.forall_lt_succ_right] at hF
     simp only [Act.put, List.setIfInBounds_toArray, List.set_cons_succ, List.set_cons_zero, hF]
     clear hF
     have b6 := HBZ.out.1.grow hb
     have b7 := HBZ.out.2.1.grow hb
     have hbel : Below w.heap.size w w1 := bel_trans HBZ.out.2.2 hb
     have hbx := HXY.out.1.grow hb
     have hby := HXY.out.2.grow hb
     clear hb ca la cb lbb cp lp' HBZ HXY HA HBB HD
     rcases r with _ | _
     ·have HSC : Hid (scanC l x other = scanC l x (other.drop (j + 1))) := Lib.hid (by rw [hscan.out, HY.out]; exact scanC_no HRD.out)
      have HB := Lib.hid (And.intro hbx (And.intro b6 (And.intro b7 hbel))); clear hbx b6 b7 hbel hby
      go_wp2_with fail
      go_roundw
      case rel => exact ⟨j + 1, by omega, by go_num, HSC, HB.out⟩
      case measure => simp [intOf]; omega
     ·have HRE : Hid (res = some (x, y)) := Lib.hid (by rw [hrun.out, HX.out]; exact conflictM_yes (by rw [hscan.out, HY.out]; exact scanC_yes HRD.out))
      have ca := hbx.cell
      have la := hbx.lt
      have cb := hby.cell
      have lbb := hby.lt
      have r6 := b6.row
      have r7 := b7.row
      have l6 := b6.lt
      have l7 := b7.lt
      have n1' : ¬ ha = w.heap.size := by omega
      have n2' : ¬ ha = w.heap.size + 1 := by omega
      have n3' : ¬ hq = w.heap.size := by omega
      have n4' : ¬ hq = w.heap.size + 1 := by omega
      rw [← b6.rw, ← b7.rw]
      clear hbx hby b6 b7
      go_wp2_with fail
      go_region
      go_wp2_with fail
      refine bodyPost_ret (v := .tuple #[.agg (acA x), .agg (acA y), .bool true]) (by simp [results, Tryz.results98, go_sem, *]) rfl ⟨congrArg Ending.returned (congrArg conflR HRE.out).symm, ?_⟩
      exact (blw_row (blw_row hbel (by omega) _) (by omega) _).drew
    ·have HSC : Hid (scanC l x other = none) := Lib.hid (by rw [hscan.out, List.drop_of_length_le (by rw [HN.out.2]; omega)]; rfl)
     have HB := Lib.hid (And.intro b6 (And.intro b7 hbel)); clear bx b6 b7 hbel
     go_wp2_with fail
     go_roundw
     case rel => exact ⟨k + 1, by omega, by go_num, Lib.hid (by rw [hrun.out, HX.out]; exact conflictM_no HSC.out), HB.out⟩
     case measure => simp [intOf]; omega
  ·have hkn : k = n1 := by omega
   subst hkn
   have HRE : Hid (res = none) := Lib.hid (by rw [hrun.out, List.drop_of_length_le (by rw [HN.out.1]; omega)]; rfl)
   have r6 := b6.row
   have r7 := b7.row
   rw [← b6.rw, ← b7.rw]
   have HB := Lib.hid (And.intro b6 (And.intro b7 hbel)); clear b6 b7
   go_wp2_with fail
   refine bodyPost_ret (v := .tuple #[.agg zeroA, .agg zeroA, .bool false]) (by simp [results, Tryz.results98, go_sem, *]) rfl ⟨congrArg Ending.returned (congrArg conflR HRE.out).symm, ?_⟩
   exact blw_row (blw_row hbel (by omega) _) (by omega) _
end Go.Proofs.YtccnkebkgegohaaGreatDoor
end
section
namespace Go.Proofs.YtccnkebkgegohaaGreatDoor
open Go.RowKit Go.Rel
set_option maxRecDepth 100000
set_option maxHeartbeats 4000000 in
theorem GrowAc_nil (n : Nat) (w : World) (hn : n ≤ 1048576) :
  Calls Tryz.prog 95 #[.slice none 0 0, .int .i64 n] w fun e w' => ∃ u, e = .returned u ∧ OwnA w' w.heap.size u [] ∧ Below w.heap.size w w' := by
 obtain ⟨i0, hi, hz0, hz1, hz2⟩ := info_parts info46
 have HI0 := Lib.hid (And.intro hi (And.intro hz0 (And.intro hz1 hz2))); clear hi hz0 hz1 hz2
 by_cases h0 : 0 < n
 ·have hcap : Hid (∀ w : World, n ≤ grownCap w n 0 46 ∧ grownCap w n 0 46 ≤ maxLen) := Lib.hid fun w => ⟨grownCap_ge w n 0 46, grownCap_le_maxLen w n 0 46 (by unfold maxLen; omega)⟩
  have hc := hcap.out w
  have HR := Lib.hid (Lib.run_append_nil_zeros (P := Tryz.prog) w 28 3 28 46 i0 (.agg #[.int .u8 0, .int .i64 0, .int .u64 0, .int .u64 0, .int .u64 0, .int .u64 0, .int .u64 0, .int .u64 0, .int .u64 0, .int .u64 0]) .i64 .i64 Tryz.underlying28 Tryz.underlying3 HI0.out.1 HI0.out.2.1 n h0 (by rw [HI0.out.2.2.1]; omega) (by omega) (by rw [HI0.out.2.2.2]; omega))
  have hcm : grownCap w n 0 46 ≤ 9223372036854775807 := by have := hc.2; unfold maxLen at this; omega
  have HCM := Lib.hid hc.2
  have hc1 := hc.1
  clear hc hcap
  generalize grownCap w n 0 46 = cp at *
  have hmf' := hmf
  go_enter Tryz.func95, Tryz.ntmps95
  go_wp2_with (at_builtin; refine Lib.wpList_append_run _ rfl _ _ 28 3 rfl (.slice none 0 0) (.int .i64 n) rfl rfl _ _ HR.out ?_)
  go_ret
  refine ⟨_, rfl, ⟨rfl, .inr ⟨w.heap.size, cp, _, rfl, Nat.le_refl _, Blk.new w.drew _ _, Nat.zero_le _, HCM.out, ?_, by simp⟩⟩, bel_by⟩
  simp only [Array.size_append, size_zeroCells]
  simp [Value.cells]
  omega
 ·obtain rfl : n = 0 := by omega
  go_enter Tryz.func95, Tryz.ntmps95
  go_wp2_with fail
  go_ret
  exact ⟨_, rfl, World.ownsRow_nil _ _ _ _, Below.refl _ _⟩
end Go.Proofs.YtccnkebkgegohaaGreatDoor
end
