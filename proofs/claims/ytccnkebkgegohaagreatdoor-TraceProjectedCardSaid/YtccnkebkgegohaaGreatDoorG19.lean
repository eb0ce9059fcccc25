import Derived.Test.YtccnkebkgegohaaGreatDoorG14
import Derived.Test.YtccnkebkgegohaaGreatDoorG18
/-
  Given contracts of functions of the program, and laws for them, one behind the other.
-/
set_option linter.unusedVariables false
set_option linter.unusedSimpArgs false
set_option linter.unusedSectionVars false
section
namespace Go.Proofs.YtccnkebkgegohaaGreatDoor
open Go.RowKit Go.Rel
set_option maxRecDepth 100000
/-- a row without its turns -/
def reduceI (tb dep : Int → Int → Bool) : Nat → List Int → List Int
  | 0, left => left
  | n + 1, left => match turnM tb dep left with
    | none => left
    | some (i, j) => reduceI tb dep n (left.filter fun y => !([i, j].contains y))
theorem scanT_mem {tb dep : Int → Int → Bool} {i j : Int} : ∀ {js : List Int}, scanT tb dep i js = some j → j ∈ js
  | y :: js, h => by
    unfold scanT at h
    split at h
    · cases h; simp
    · split at h
      · cases h
      · exact List.mem_cons_of_mem _ (scanT_mem h)
theorem turnM_mem {tb dep : Int → Int → Bool} {i j : Int} : ∀ {left : List Int}, turnM tb dep left = some (i, j) → i ∈ left ∧ j ∈ left
  | x :: left, h => by
    unfold turnM at h
    split at h
    · next y hy =>
      cases h
      exact ⟨by simp, List.mem_cons_of_mem _ (scanT_mem hy)⟩
    · next hy =>
      have := turnM_mem h
      exact ⟨List.mem_cons_of_mem _ this.1, List.mem_cons_of_mem _ this.2⟩
theorem filter_lt2 {left : List Int} {i j : Int} (h : i ∈ left) : (left.filter fun y => !([i, j].contains y)).length < left.length := by
  have h1 := filter_lt h
  refine Nat.lt_of_le_of_lt ?_ h1
  have : (left.filter fun y => !([i, j].contains y)) = (left.filter fun y => !([i].contains y)).filter fun y => !([j].contains y) := by
    rw [List.filter_filter]
    congr 1
    funext y
    simp only [List.contains_cons, List.contains_nil, Bool.or_false]
    cases (y == i) <;> cases (y == j) <;> rfl
  rw [this]
  exact List.length_filter_le _ _
theorem reduceI_sub {tb dep : Int → Int → Bool} : ∀ (n : Nat) (left : List Int), ∀ x ∈ reduceI tb dep n left, x ∈ left
  | 0, left, x, h => h
  | n + 1, left, x, h => by
    unfold reduceI at h
    split at h
    · exact h
    · exact (List.mem_filter.1 (reduceI_sub n _ x h)).1
theorem reduceI_len {tb dep : Int → Int → Bool} : ∀ (n : Nat) (left : List Int), (reduceI tb dep n left).length ≤ left.length
  | 0, left => Nat.le_refl _
  | n + 1, left => by
    unfold reduceI
    split
    · exact Nat.le_refl _
    · exact Nat.le_trans (reduceI_len n _) (List.length_filter_le _ _)
theorem reduceI_none {tb dep : Int → Int → Bool} {left : List Int} (h : turnM tb dep left = none) (n : Nat) : reduceI tb dep n left = left := by
  cases n with
  | zero => rfl
  | succ n => rw [reduceI, h]
theorem reduceI_fuel {tb dep : Int → Int → Bool} : ∀ (n : Nat) (left : List Int), left.length ≤ n → reduceI tb dep n left = reduceI tb dep left.length left
  | 0, left, h => by
    have : left = [] := List.eq_nil_of_length_eq_zero (by omega)
    subst this; rfl
  | n + 1, left, h => by
    cases ht : turnM tb dep left with
    | none => rw [reduceI_none ht, reduceI_none ht]
    | some ij =>
      obtain ⟨i, j⟩ := ij
      have hm := (turnM_mem ht).1
      have hlt := filter_lt2 (j := j) hm
      obtain ⟨k, hk⟩ : ∃ k, left.length = k + 1 := ⟨left.length - 1, by omega⟩
      have e1 : reduceI tb dep (n + 1) left = reduceI tb dep n (left.filter fun y => !([i, j].contains y)) := by rw [reduceI, ht]
      have e2 : reduceI tb dep left.length left = reduceI tb dep k (left.filter fun y => !([i, j].contains y)) := by rw [hk, reduceI, ht]
      rw [e1, e2, reduceI_fuel n _ (by omega), reduceI_fuel k _ (by omega)]
theorem reduceI_step {tb dep : Int → Int → Bool} {left : List Int} {i j : Int} (h : turnM tb dep left = some (i, j)) :
    reduceI tb dep left.length left = reduceI tb dep (left.filter fun y => !([i, j].contains y)).length (left.filter fun y => !([i, j].contains y)) := by
  have hm := (turnM_mem h).1
  have hlt := filter_lt2 (j := j) hm
  obtain ⟨k, hk⟩ : ∃ k, left.length = k + 1 := ⟨left.length - 1, by omega⟩
  have e2 : reduceI tb dep left.length left = reduceI tb dep k (left.filter fun y => !([i, j].contains y)) := by rw [hk, reduceI, h]
  rw [e2, reduceI_fuel k _ (by omega)]
/-- what is left without turns -/
def reducedM (l : List Sol) (acts : List Ac) : List Int := reduceI (turnB l acts) (depI (cellsOf l acts)) (upto acts.length).length (upto acts.length)
set_option maxHeartbeats 4000000 in
theorem Reduced_bad {blank : Sol} {v av : Value} {l : List Sol} {acts : List Ac} {x : Nat × Int} (h : begunM blank l acts = .inl x) (w : World) (Hv : SlS w v l) (Hav : SlA w av acts) :
    Calls Tryz.prog 21 #[.agg #[.int .u64 (pl blank 0), .int .u64 (pl blank 1), .int .u64 (pl blank 2), .int .u64 (pl blank 3), .int .u64 (pl blank 4), .int .u64 (pl blank 5), .int .u64 (pl blank 6), .int .u64 (pl blank 7), v, av]] w fun e w' => e = .returned (.tuple #[.agg #[.int .u64 0, .int .u64 0, .int .u64 0, .int .u64 0, .int .u64 0, .int .u64 0, .int .u64 0, .int .u64 0, .slice none 0 0, .slice none 0 0], .int .i64 x.2]) ∧ Below w.heap.size w w' := by
  have H := Lib.hid fun w' (hb : Below w.heap.size w w') => begun_bad h w' (Hv.mono hb) (Hav.mono hb)
  have hne := begunM_bad h
  clear h Hv Hav
  go_enter Tryz.func21, Tryz.ntmps21
  go_wp2_with fail
  refine (H.out _ (by repeat (first | with_reducible exact bel_refl _ | with_reducible assumption | with_reducible refine bel_drewN ?_ _ | with_reducible refine bel_drew ?_ | with_reducible refine bel_alloc ?_ _ | with_reducible refine bel_row ?_ ?_ _ | with_reducible refine bel_set ?_ ?_ _ | refine bel_trans ?_ (by with_reducible assumption) | (simp; done) | (simp; omega)))).mono ?_
  rintro e w1 ⟨rfl, hb⟩
  have b1 : Blk w1 (w.heap.size + 1) #[.int .u64 0, .int .u64 0, .int .u64 0, .int .u64 0, .int .u64 0, .int .u64 0, .int .u64 0, .int .u64 0, .slice none 0 0, .slice none 0 0] 30 := Blk.grow (by repeat (first | with_reducible assumption | (refine Blk.at _ _ ?_; (simp; done)) | with_reducible refine Blk.alloc ?_ _ | with_reducible refine Blk.drew ?_ | with_reducible refine Blk.rowS ?_ _ | with_reducible refine Blk.rowO ?_ _ (by simp))) hb
  have r1 := b1.row
  rw [← b1.rw]
  clear b1
  go_wp2_with fail
  refine bodyPost_ret (by simp [results, Tryz.results21, go_sem, *]) rfl ⟨rfl, (by repeat (first | with_reducible exact bel_refl _ | with_reducible assumption | with_reducible refine bel_drewN ?_ _ | with_reducible refine bel_drew ?_ | with_reducible refine bel_alloc ?_ _ | with_reducible refine bel_row ?_ ?_ _ | with_reducible refine bel_set ?_ ?_ _ | refine bel_trans ?_ (by with_reducible assumption) | (simp; done) | (simp; omega)))⟩
set_option maxHeartbeats 8000000 in
theorem Reduced_good {blank : Sol} {v av : Value} {l : List Sol} {acts : List Ac} {s : Stn} (h : begunM blank l acts = .inr s) (w : World) (Hv : SlS w v l) (Hav : SlA w av acts) :
    Calls Tryz.prog 21 #[.agg #[.int .u64 (pl blank 0), .int .u64 (pl blank 1), .int .u64 (pl blank 2), .int .u64 (pl blank 3), .int .u64 (pl blank 4), .int .u64 (pl blank 5), .int .u64 (pl blank 6), .int .u64 (pl blank 7), v, av]] w fun e w' => ∃ pv bv, e = .returned (.tuple #[.agg #[.int .u64 (pl blank 0), .int .u64 (pl blank 1), .int .u64 (pl blank 2), .int .u64 (pl blank 3), .int .u64 (pl blank 4), .int .u64 (pl blank 5), .int .u64 (pl blank 6), .int .u64 (pl blank 7), pv, bv], .int .i64 0]) ∧ OwnS w' w.heap.size pv l ∧ OwnA w' w.heap.size bv (actsAt acts (leastI (depI (cellsOf l acts)) (cmpN acts) (reducedM l acts).length (reducedM l acts))) ∧ Below w.heap.size w w' := by
  have H := Lib.hid fun w' (hb : Below w.heap.size w w') => begun_good h w' (Hv.mono hb) (Hav.mono hb)
  have hg := begunM_good h
  have h8 := chkPat_ok hg.1
  have hn := hg.2.1
  have HV := Lib.hid (And.intro Hv Hav)
  clear h Hv Hav hg
  generalize hres : reducedM l acts = res
  have HRS := Lib.hid hres; clear hres
  unfold reducedM at HRS
  go_enter Tryz.func21, Tryz.ntmps21
  go_wp2_with fail
  refine (H.out _ (by repeat (first | with_reducible exact bel_refl _ | with_reducible assumption | with_reducible refine bel_drewN ?_ _ | with_reducible refine bel_drew ?_ | with_reducible refine bel_alloc ?_ _ | with_reducible refine bel_row ?_ ?_ _ | with_reducible refine bel_set ?_ ?_ _ | refine bel_trans ?_ (by with_reducible assumption) | (simp; done) | (simp; omega)))).mono ?_
  rintro e w1 ⟨bp, rfl, hbp, hP, hb⟩
  have b1 : Blk w1 (w.heap.size + 1) #[.int .u64 0, .int .u64 0, .int .u64 0, .int .u64 0, .int .u64 0, .int .u64 0, .int .u64 0, .int .u64 0, .slice none 0 0, .slice none 0 0] 30 := Blk.grow (by repeat (first | with_reducible assumption | (refine Blk.at _ _ ?_; (simp; done)) | with_reducible refine Blk.alloc ?_ _ | with_reducible refine Blk.drew ?_ | with_reducible refine Blk.rowS ?_ _ | with_reducible refine Blk.rowO ?_ _ (by simp))) hb
  have hB1 : Below w.heap.size w w1 := bel_trans (by repeat (first | with_reducible exact bel_refl _ | with_reducible assumption | with_reducible refine bel_drewN ?_ _ | with_reducible refine bel_drew ?_ | with_reducible refine bel_alloc ?_ _ | with_reducible refine bel_row ?_ ?_ _ | with_reducible refine bel_set ?_ ?_ _ | refine bel_trans ?_ (by with_reducible assumption) | (simp; done) | (simp; omega))) hb
  have HP1 := Lib.hid hP; clear hP
  have hs1 := hb.size
  simp only [World.size_alloc] at hs1
  clear hb hbp
  go_wp2_with fail
  refine (indices_spec w1 HP1.out hn).mono ?_
  rintro e w2 ⟨u2, rfl, hO2, hb2⟩
  have hB2 : Below w.heap.size w w2 := bel_trans hB1 hb2
  have HP2 := Lib.hid (HP1.out.grow hb2)
  have b2 := b1.grow hb2
  have hs2 := hb2.size
  have HO2 : Hid (OwnI w2 (w.heap.size + 1) u2 (upto acts.length)) := Lib.hid (own_weak hO2 (Nat.le_of_lt (by omega : w.heap.size + 1 < w1.heap.size)))
  clear hb2 b1 hO2
  go_wp2_with fail
  go_loopw [7] (fun u wr => ∃ left : List Int, Hid (OwnI wr (w.heap.size + 1) u left) ∧ Hid (∀ x ∈ left, 0 ≤ x ∧ x < (acts.length : Int)) ∧ left.length ≤ 60 ∧ Hid (reduceI (turnB l acts) (depI (cellsOf l acts)) left.length left = res) ∧ Hid (PastAt bp blank v av l acts s wr) ∧ Below w.heap.size w wr ∧ Blk wr (w.heap.size + 1) #[.int .u64 0, .int .u64 0, .int .u64 0, .int .u64 0, .int .u64 0, .int .u64 0, .int .u64 0, .int .u64 0, .slice none 0 0, .slice none 0 0] 30) (fun u _ => sliceLen u)
  case atStart => exact ⟨_, HO2, Lib.hid upto_range, by rw [upto_length]; exact hn, HRS, HP2, hB2, b2⟩
  case round =>
    obtain ⟨left, hO, hR, h60, hrun, hPr, hbel, hbr⟩ := hrel
    have HT := Lib.hid (turn_spec wr hPr.out (HV.out.2.mono hbel) _ left hO.out.sl hR.out)
    generalize htm : turnM (turnB l acts) (depI (cellsOf l acts)) left = tm at HT
    have HTM := Lib.hid htm; clear htm
    have hsr := hbr.lt
    rcases tm with _ | ⟨i, j⟩
    · have HT2 := Lib.hid (show Calls Tryz.prog 91 _ wr fun e w' => e = .returned (.tuple #[.int .i64 0, .int .i64 0, .bool false]) ∧ Below wr.heap.size wr w' from HT.out)
      have HRE : Hid (left = res) := Lib.hid (by rw [← hrun.out, reduceI_none HTM.out])
      clear HT
      go_wp2_with fail
      refine HT2.out.mono ?_
      rintro e w3 ⟨rfl, hb3⟩
      have hB3 : Below w.heap.size w w3 := bel_trans hbel hb3
      have HP3 := Lib.hid (hPr.out.grow hb3)
      have b3 := hbr.grow hb3
      have HO3 : Hid (OwnI w3 (w.heap.size + 1) _ left) := Lib.hid (own_grow hO.out hb3)
      have hs3 := hb3.size
      clear hb3 HT2 hbr
      go_wp2_with fail
      refine (least_spec w3 HP3.out (HV.out.2.mono hB3) hn _ left HO3.out.sl hR.out h60).mono ?_
      rintro e w4 ⟨o4, rfl, hO4, hb4⟩
      have HO4 := Lib.hid hO4; clear hO4
      have hB4 : Below w.heap.size w w4 := bel_trans hB3 hb4
      have HP4 := Lib.hid (HP3.out.grow hb4)
      have b4 := b3.grow hb4
      have hs4 := hb4.size
      clear hb4 b3
      go_wp2_with fail
      refine (with_spec w4 HP4.out (HV.out.1.mono hB4) h8 o4 (actsAt acts (leastI (depI (cellsOf l acts)) (cmpN acts) res.length res)) (by rw [← HRE.out]; exact HO4.out.sl) (by rw [List.length_map]; exact Nat.le_trans (leastI_len _ _) (by rw [← HRE.out]; omega))).mono ?_
      rintro e w5 ⟨pv, bv, rfl, hS, hA, hb5⟩
      have hB5 : Below w.heap.size w w5 := bel_trans hB4 hb5
      have b5 := b4.grow hb5
      have HS := Lib.hid (And.intro hS hA)
      refine Veil.out ?_
      obtain ⟨p, c, hp, _, _⟩ := own_shape' hS
      obtain ⟨p', c', hp', _, _⟩ := own_shape' hA
      subst hp
      subst hp'
      refine Veil.on ?_
      clear hS hA hb5 b4
      have r1 := b5.row
      rw [← b5.rw]
      clear b5
      go_wp2_with fail
      refine bodyPost_ret (by simp [results, Tryz.results21, go_sem, *]) rfl ⟨_, _, rfl, own_weak (own_row (bp := w.heap.size + 1) HS.out.1 (by omega) _) (by omega), own_weak (own_row (bp := w.heap.size + 1) HS.out.2 (by omega) _) (by omega), (by repeat (first | with_reducible exact bel_refl _ | with_reducible assumption | with_reducible refine bel_drewN ?_ _ | with_reducible refine bel_drew ?_ | with_reducible refine bel_alloc ?_ _ | with_reducible refine bel_row ?_ ?_ _ | with_reducible refine bel_set ?_ ?_ _ | refine bel_trans ?_ (by with_reducible assumption) | (simp; done) | (simp; omega)))⟩
    · have HT2 := Lib.hid (show Calls Tryz.prog 91 _ wr fun e w' => e = .returned (.tuple #[.int .i64 i, .int .i64 j, .bool true]) ∧ Below wr.heap.size wr w' from HT.out)
      have HLT : Hid ((left.filter fun y => !([i, j].contains y)).length < left.length) := Lib.hid (filter_lt2 (turnM_mem HTM.out).1)
      have HRE : Hid (reduceI (turnB l acts) (depI (cellsOf l acts)) (left.filter fun y => !([i, j].contains y)).length (left.filter fun y => !([i, j].contains y)) = res) := Lib.hid (by rw [← hrun.out, reduceI_step HTM.out])
      have hlenu := hO.out.len
      have HLU := Lib.hid hlenu; clear hlenu
      clear HT
      go_wp2_with fail
      refine HT2.out.mono ?_
      rintro e w3 ⟨rfl, hb3⟩
      have hB3 : Below w.heap.size w w3 := bel_trans hbel hb3
      have HP3 := Lib.hid (hPr.out.grow hb3)
      have b3 := hbr.grow hb3
      have HO3 : Hid (OwnI w3 (w.heap.size + 1) _ left) := Lib.hid (own_grow hO.out hb3)
      have hs3 := hb3.size
      clear hb3 HT2 hbr
      have hgn : SlI (w3.alloc (.cells #[.int .i64 i, .int .i64 j] 3)) (.slice (some ⟨w3.heap.size, 0, none⟩) 2 2) [i, j] := OwnI.sl (base := w3.heap.size) (World.ownsRow_lit (e := 3) (size := 1) (base := w3.heap.size) w3 #[.int .i64 i, .int .i64 j] 2 (Nat.le_refl _) (by unfold maxLen; omega) rfl)
      have HW := Lib.hid (without_spec _ _ left [i, j] _ (HO3.out.sl.mono (bel_alloc (bel_refl w3) _)) hgn (by omega)); clear hgn
      have b3' := b3.alloc (.cells #[.int .i64 i, .int .i64 j] 3)
      have HB3 := Lib.hid (And.intro b3' (And.intro (HP3.out.grow (bel_alloc (bel_refl w3) (.cells #[.int .i64 i, .int .i64 j] 3))) (bel_alloc hB3 (.cells #[.int .i64 i, .int .i64 j] 3)))); clear b3'
      go_wp2_with fail
      refine HW.out.mono ?_
      rintro e w4 ⟨u4, rfl, hO4, hb4⟩
      have HO4 := Lib.hid (And.intro hO4 (And.intro (HB3.out.1.grow hb4) (And.intro (HB3.out.2.1.grow hb4) (bel_trans HB3.out.2.2 hb4)))); clear hO4 hb4
      go_wp2_with fail
      go_roundw
      case rel => exact ⟨_, Lib.hid (own_weak HO4.out.1 (by simp; omega)), Lib.hid (fun y hy => hR.out y (List.mem_filter.1 hy).1), Nat.le_trans (Nat.le_of_lt HLT.out) h60, HRE, Lib.hid HO4.out.2.2.1, HO4.out.2.2.2, HO4.out.2.1⟩
      case measure =>
        have h1 := HLU.out
        have h2 := HLT.out
        have h3 := HO4.out.1.len
        show sliceLen u4 < sliceLen _
        omega
end Go.Proofs.YtccnkebkgegohaaGreatDoor
end
section
namespace Go.Proofs.YtccnkebkgegohaaGreatDoor
open Go.RowKit Go.Rel
set_option maxRecDepth 100000
def samePat (blank : Sol) (l : List Sol) (blank2 : Sol) (l2 : List Sol) : Bool := (blank == blank2) && (l == l2)
theorem both_good {blank : Sol} {v av : Value} {l : List Sol} {acts : List Ac} {s : Stn} (h : begunM blank l acts = .inr s) {blank2 : Sol} {v2 av2 : Value} {l2 : List Sol} {acts2 : List Ac} {s2 : Stn} (h2 : begunM blank2 l2 acts2 = .inr s2) (w : World) (Hv : SlS w v l) (Hav : SlA w av acts) (Hv2 : SlS w v2 l2) (Hav2 : SlA w av2 acts2) :
    Calls Tryz.prog 107 #[.agg #[.int .u64 (pl blank 0), .int .u64 (pl blank 1), .int .u64 (pl blank 2), .int .u64 (pl blank 3), .int .u64 (pl blank 4), .int .u64 (pl blank 5), .int .u64 (pl blank 6), .int .u64 (pl blank 7), v, av], .agg #[.int .u64 (pl blank2 0), .int .u64 (pl blank2 1), .int .u64 (pl blank2 2), .int .u64 (pl blank2 3), .int .u64 (pl blank2 4), .int .u64 (pl blank2 5), .int .u64 (pl blank2 6), .int .u64 (pl blank2 7), v2, av2]] w fun e w' => ∃ bp bq, e = .returned (.tuple #[.pointer (some ⟨bp, 0, none⟩), .pointer (some ⟨bq, 0, none⟩), .bool (samePat blank l blank2 l2), .int .i64 0]) ∧ PastAt bp blank v av l acts s w' ∧ PastAt bq blank2 v2 av2 l2 acts2 s2 w' ∧ Below w.heap.size w w' := by
  unfold samePat
  cases hbl : (blank == blank2) with
  | true => rw [Bool.true_and]; exact both_good_true h h2 w Hv Hav Hv2 Hav2 hbl
  | false => rw [Bool.false_and]; exact both_good_false h h2 w Hv Hav Hv2 Hav2 hbl
set_option maxHeartbeats 4000000 in
theorem together_bad1 {blank : Sol} {v av : Value} {l : List Sol} {acts : List Ac} {x : Nat × Int} (h : begunM blank l acts = .inl x) (blank2 : Sol) (v2 av2 : Value) (w : World) (Hv : SlS w v l) (Hav : SlA w av acts) :
    Calls Tryz.prog 96 #[.agg #[.int .u64 (pl blank 0), .int .u64 (pl blank 1), .int .u64 (pl blank 2), .int .u64 (pl blank 3), .int .u64 (pl blank 4), .int .u64 (pl blank 5), .int .u64 (pl blank 6), .int .u64 (pl blank 7), v, av], .agg #[.int .u64 (pl blank2 0), .int .u64 (pl blank2 1), .int .u64 (pl blank2 2), .int .u64 (pl blank2 3), .int .u64 (pl blank2 4), .int .u64 (pl blank2 5), .int .u64 (pl blank2 6), .int .u64 (pl blank2 7), v2, av2]] w fun e w' => e = .returned (.tuple #[.pointer none, .pointer none, .int .i64 x.2]) ∧ Below w.heap.size w w' := by
  have H := Lib.hid fun w' (hb : Below w.heap.size w w') => both_bad1 h blank2 v2 av2 w' (Hv.mono hb) (Hav.mono hb)
  have hne := begunM_bad h
  have hne' : (x.2 == 0) = false := by simpa using hne
  clear h Hv Hav
  go_enter Tryz.func96, Tryz.ntmps96
  go_wp2_with fail
  refine (H.out _ (by repeat (first | with_reducible exact bel_refl _ | with_reducible assumption | with_reducible refine bel_drewN ?_ _ | with_reducible refine bel_drew ?_ | with_reducible refine bel_alloc ?_ _ | with_reducible refine bel_row ?_ ?_ _ | with_reducible refine bel_set ?_ ?_ _ | refine bel_trans ?_ (by with_reducible assumption) | (simp; done) | (simp; omega)))).mono ?_
  rintro e w1 ⟨rfl, hb⟩
  have hB1 : Below w.heap.size w w1 := bel_trans (by repeat (first | with_reducible exact bel_refl _ | with_reducible assumption | with_reducible refine bel_drewN ?_ _ | with_reducible refine bel_drew ?_ | with_reducible refine bel_alloc ?_ _ | with_reducible refine bel_row ?_ ?_ _ | with_reducible refine bel_set ?_ ?_ _ | refine bel_trans ?_ (by with_reducible assumption) | (simp; done) | (simp; omega))) hb
  go_wp2_with fail
  refine bodyPost_ret (by simp [results, Tryz.results96, go_sem]) rfl ⟨rfl, hB1⟩
set_option maxHeartbeats 4000000 in
theorem together_bad2 {blank : Sol} {v av : Value} {l : List Sol} {acts : List Ac} {s : Stn} (h : begunM blank l acts = .inr s) {blank2 : Sol} {v2 av2 : Value} {l2 : List Sol} {acts2 : List Ac} {x : Nat × Int} (h2 : begunM blank2 l2 acts2 = .inl x) (w : World) (Hv : SlS w v l) (Hav : SlA w av acts) (Hv2 : SlS w v2 l2) (Hav2 : SlA w av2 acts2) :
    Calls Tryz.prog 96 #[.agg #[.int .u64 (pl blank 0), .int .u64 (pl blank 1), .int .u64 (pl blank 2), .int .u64 (pl blank 3), .int .u64 (pl blank 4), .int .u64 (pl blank 5), .int .u64 (pl blank 6), .int .u64 (pl blank 7), v, av], .agg #[.int .u64 (pl blank2 0), .int .u64 (pl blank2 1), .int .u64 (pl blank2 2), .int .u64 (pl blank2 3), .int .u64 (pl blank2 4), .int .u64 (pl blank2 5), .int .u64 (pl blank2 6), .int .u64 (pl blank2 7), v2, av2]] w fun e w' => e = .returned (.tuple #[.pointer none, .pointer none, .int .i64 x.2]) ∧ Below w.heap.size w w' := by
  have H := Lib.hid fun w' (hb : Below w.heap.size w w') => both_bad2 h h2 w' (Hv.mono hb) (Hav.mono hb) (Hv2.mono hb) (Hav2.mono hb)
  have hne := begunM_bad h2
  have hne' : (x.2 == 0) = false := by simpa using hne
  clear h h2 Hv Hav Hv2 Hav2
  go_enter Tryz.func96, Tryz.ntmps96
  go_wp2_with fail
  refine (H.out _ (by repeat (first | with_reducible exact bel_refl _ | with_reducible assumption | with_reducible refine bel_drewN ?_ _ | with_reducible refine bel_drew ?_ | with_reducible refine bel_alloc ?_ _ | with_reducible refine bel_row ?_ ?_ _ | with_reducible refine bel_set ?_ ?_ _ | refine bel_trans ?_ (by with_reducible assumption) | (simp; done) | (simp; omega)))).mono ?_
  rintro e w1 ⟨rfl, hb⟩
  have hB1 : Below w.heap.size w w1 := bel_trans (by repeat (first | with_reducible exact bel_refl _ | with_reducible assumption | with_reducible refine bel_drewN ?_ _ | with_reducible refine bel_drew ?_ | with_reducible refine bel_alloc ?_ _ | with_reducible refine bel_row ?_ ?_ _ | with_reducible refine bel_set ?_ ?_ _ | refine bel_trans ?_ (by with_reducible assumption) | (simp; done) | (simp; omega))) hb
  go_wp2_with fail
  refine bodyPost_ret (by simp [results, Tryz.results96, go_sem]) rfl ⟨rfl, hB1⟩
set_option maxHeartbeats 4000000 in
theorem together_good {blank : Sol} {v av : Value} {l : List Sol} {acts : List Ac} {s : Stn} (h : begunM blank l acts = .inr s) {blank2 : Sol} {v2 av2 : Value} {l2 : List Sol} {acts2 : List Ac} {s2 : Stn} (h2 : begunM blank2 l2 acts2 = .inr s2) (w : World) (Hv : SlS w v l) (Hav : SlA w av acts) (Hv2 : SlS w v2 l2) (Hav2 : SlA w av2 acts2) (c : Bool) (hc : samePat blank l blank2 l2 = c) :
    Calls Tryz.prog 96 #[.agg #[.int .u64 (pl blank 0), .int .u64 (pl blank 1), .int .u64 (pl blank 2), .int .u64 (pl blank 3), .int .u64 (pl blank 4), .int .u64 (pl blank 5), .int .u64 (pl blank 6), .int .u64 (pl blank 7), v, av], .agg #[.int .u64 (pl blank2 0), .int .u64 (pl blank2 1), .int .u64 (pl blank2 2), .int .u64 (pl blank2 3), .int .u64 (pl blank2 4), .int .u64 (pl blank2 5), .int .u64 (pl blank2 6), .int .u64 (pl blank2 7), v2, av2]] w fun e w' => ∃ bp bq, e = .returned (.tuple #[.pointer (some ⟨bp, 0, none⟩), .pointer (some ⟨bq, 0, none⟩), .int .i64 (if c then 0 else 43)]) ∧ PastAt bp blank v av l acts s w' ∧ PastAt bq blank2 v2 av2 l2 acts2 s2 w' ∧ Below w.heap.size w w' := by
  have H := Lib.hid fun w' (hb : Below w.heap.size w w') => both_good h h2 w' (Hv.mono hb) (Hav.mono hb) (Hv2.mono hb) (Hav2.mono hb)
  rw [hc] at H
  clear h h2 Hv Hav Hv2 Hav2 hc
  cases c with
  | true =>
    rw [if_pos rfl]
    go_enter Tryz.func96, Tryz.ntmps96
    go_wp2_with fail
    refine (H.out _ (by repeat (first | with_reducible exact bel_refl _ | with_reducible assumption | with_reducible refine bel_drewN ?_ _ | with_reducible refine bel_drew ?_ | with_reducible refine bel_alloc ?_ _ | with_reducible refine bel_row ?_ ?_ _ | with_reducible refine bel_set ?_ ?_ _ | refine bel_trans ?_ (by with_reducible assumption) | (simp; done) | (simp; omega)))).mono ?_
    rintro e w1 ⟨bp, bq, rfl, hP, hQ, hb⟩
    have hB1 : Below w.heap.size w w1 := bel_trans (by repeat (first | with_reducible exact bel_refl _ | with_reducible assumption | with_reducible refine bel_drewN ?_ _ | with_reducible refine bel_drew ?_ | with_reducible refine bel_alloc ?_ _ | with_reducible refine bel_row ?_ ?_ _ | with_reducible refine bel_set ?_ ?_ _ | refine bel_trans ?_ (by with_reducible assumption) | (simp; done) | (simp; omega))) hb
    have HP := Lib.hid (And.intro hP hQ); clear hP hQ
    go_wp2_with fail
    refine bodyPost_ret (by simp [results, Tryz.results96, go_sem]) rfl ⟨_, _, rfl, HP.out.1, HP.out.2, hB1⟩
  | false =>
    rw [if_neg (by decide)]
    go_enter Tryz.func96, Tryz.ntmps96
    go_wp2_with fail
    refine (H.out _ (by repeat (first | with_reducible exact bel_refl _ | with_reducible assumption | with_reducible refine bel_drewN ?_ _ | with_reducible refine bel_drew ?_ | with_reducible refine bel_alloc ?_ _ | with_reducible refine bel_row ?_ ?_ _ | with_reducible refine bel_set ?_ ?_ _ | refine bel_trans ?_ (by with_reducible assumption) | (simp; done) | (simp; omega)))).mono ?_
    rintro e w1 ⟨bp, bq, rfl, hP, hQ, hb⟩
    have hB1 : Below w.heap.size w w1 := bel_trans (by repeat (first | with_reducible exact bel_refl _ | with_reducible assumption | with_reducible refine bel_drewN ?_ _ | with_reducible refine bel_drew ?_ | with_reducible refine bel_alloc ?_ _ | with_reducible refine bel_row ?_ ?_ _ | with_reducible refine bel_set ?_ ?_ _ | refine bel_trans ?_ (by with_reducible assumption) | (simp; done) | (simp; omega))) hb
    have HP := Lib.hid (And.intro hP hQ); clear hP hQ
    go_wp2_with fail
    refine bodyPost_ret (by simp [results, Tryz.results96, go_sem]) rfl ⟨_, _, rfl, HP.out.1, HP.out.2, hB1⟩
end Go.Proofs.YtccnkebkgegohaaGreatDoor
end
