import Derived.Test.YtkcpnhigekopaaaDoorG14
/-
  Given contracts of functions of the program, and laws for them, one behind the other.
-/
set_option linter.unusedVariables false
set_option linter.unusedSimpArgs false
set_option linter.unusedSectionVars false
section
namespace Go.Proofs.YtkcpnhigekopaaaDoor
open Go.RowKit Go.Rel Go.Draw
set_option maxRecDepth 100000
attribute [local go_sem] Oper.semAt_some
/-! the moves of a piece; whether it can go with one -/
theorem moves_spec (w : World) (p : Nat) : Calls Tryd.prog 59 #[.int .i64 (p : Int)] w fun e w' => e = .returned (.func (.func 66) #[] #[.pointer (some ⟨w.heap.size, 0, none⟩)]) ∧ w' = w.alloc (.cells #[.int .i64 (p : Int)] 3) := by
 have hmf' := hmf
 go_enter Tryd.func59, Tryd.ntmps59
 go_wp2_with fail
 go_ret
 exact ⟨rfl, rfl⟩
abbrev MvOf (p : Nat) := { x : Mo // x ∈ movesL p }
theorem mvs_len {p i : Nat} {pre : List (MvOf p)} (h : pre.map (·.1) = upM p i) : pre.length = i := by
 have := congrArg List.length h
 rwa [List.length_map, upM_length] at this
set_option maxHeartbeats 4000000 in
theorem moves1_in {n : Nat} (hn : 1 ≤ n) (lp : Nat) {Wr : Nat → Prop} {W : World} (p : Nat) {bp : Nat} (hbp : Blk W bp #[.int .i64 (p : Int)] 3) (hnp : ¬ Wr bp)
  (J Jx : List (MvOf p) → World → Prop)
  (hY : ∀ pre y W1, J pre W1 → W.heap.size + 0 ≤ W1.heap.size → pre.length < 29 → YieldAt Fence.wide (n - 1) Tryd.prog lp #[mvV y.1] W1 fun e W' =>
   (e = .returned (.bool true) ∧ J (pre ++ [y]) W' ∧ KeepsBut Wr W1 W') ∨ (e = .returned (.bool false) ∧ Jx (pre ++ [y]) W')) (h0 : J [] W) :
  CallsIn Fence.wide n Tryd.prog 66 #[.func (.yield lp) #[] #[], .pointer (some ⟨bp, 0, none⟩)] W fun e W' => (∃ v, e = .returned v) ∧ ((∃ xs : List (MvOf p), xs.map (·.1) = movesL p ∧ J xs W') ∨ (∃ pre : List (MvOf p), pre.map (·.1) <+: movesL p ∧ Jx pre W')) := by
 refine callsIn_of_wp Tryd.func66 rfl trivial ?_ rfl
 simp only [Tryd.ntmps66, List.size_toArray, List.length_cons, List.length_nil, Nat.reduceAdd, Nat.reduceSub, Array.replicate_succ, Array.replicate_zero, List.push_toArray, List.append_toArray, List.nil_append, List.cons_append]
 have cp := hbp.cell
 have lp' := hbp.lt
 obtain ⟨fn, tm, asg, bdy, hy, hR⟩ := hY [] ⟨mvAt p 0, mvAt_mem p 0 (by omega)⟩ W h0 (Nat.le_refl _) (by simp)
 have HF := Lib.hid (And.intro hbp (And.intro hY h0)); clear hbp hY h0
 have HR := Lib.hid hR; clear hR
 have hmv0 : mvV (mvAt p 0) = .agg #[.int .i64 (p : Int), .int .i64 0, .int .i64 0] := rfl
 dsimp only at hy
 rw [hmv0] at hy
 clear hmv0
 gi_wp2_with fail
 refine HR.out.mono ?_
 rintro e W3 (⟨rfl, hJ3, hk3⟩ | ⟨rfl, hJx3⟩)
 ·have hb3 : Blk W3 bp #[.int .i64 (p : Int)] 3 := (hk3.2 _ lp' hnp).trans HF.out.1
  have HK := Lib.hid (And.intro hJ3 (And.intro hb3 hk3.1)); clear hJ3 hk3 hb3 hy HR cp lp'
  gi_wp2_with fail
  gi_loopw [3] (fun sv wx => ∃ (sd : Nat) (pre : List (MvOf p)), 1 ≤ sd ∧ sd ≤ 5 ∧ sv = .int .i64 sd ∧ Hid (pre.map (·.1) = upM p (1 + (sd - 1) * 7) ∧ J pre wx ∧ Blk wx bp #[.int .i64 (p : Int)] 3 ∧ W.heap.size ≤ wx.heap.size)) (fun sv _ => 5 - (intOf sv).toNat)
  case atStart => exact ⟨1, [⟨mvAt p 0, mvAt_mem p 0 (by omega)⟩], by omega, by omega, rfl, Lib.hid ⟨rfl, HK.out⟩⟩
  case round =>
   obtain ⟨sd, pre, hs1, hs5, rfl, HI⟩ := hrel
   by_cases hlt : sd ≤ 4
   ·have hd4 : decide ((sd : Int) ≤ 4) = true := by simp; omega
    gi_wp2_with fail
    obtain ⟨wo, hwo⟩ : ∃ wo, wo = wr := ⟨_, rfl⟩
    subst hwo
    gi_loopw [4] (fun fv wx => ∃ (fr : Nat) (pre : List (MvOf p)), 1 ≤ fr ∧ fr ≤ 8 ∧ fv = .int .i64 fr ∧ Hid (pre.map (·.1) = upM p (1 + (sd - 1) * 7 + (fr - 1)) ∧ J pre wx ∧ Blk wx bp #[.int .i64 (p : Int)] 3 ∧ W.heap.size ≤ wx.heap.size)) (fun fv _ => 8 - (intOf fv).toNat)
    case atStart => exact ⟨1, pre, by omega, by omega, rfl, Lib.hid (by simpa using HI.out)⟩
    case round =>
     obtain ⟨fr, pre2, hf1, hf8, rfl, HI2⟩ := hrel
     by_cases hlt2 : fr ≤ 7
     ·have hmem := mvAt_mem p (1 + (sd - 1) * 7 + (fr - 1)) (by omega)
      have hat := mvAt_in p sd fr hs1 hf1 hlt2
      obtain ⟨fn, tm, asg, bdy, hy, hR⟩ := HF.out.2.1 pre2 ⟨_, hmem⟩ wr HI2.out.2.1 HI2.out.2.2.2 (by rw [mvs_len HI2.out.1]; omega)
      have HR := Lib.hid hR; clear hR
      have cp := HI2.out.2.2.1.cell
      have lp' := HI2.out.2.2.1.lt
      dsimp only at hy
      rw [hat] at hy
      have HAT := Lib.hid hat; clear hat
      gi_wp2_with fail
      refine HR.out.mono ?_
      rintro e W4 (⟨rfl, hJ4, hk4⟩ | ⟨rfl, hJx4⟩)
      ·have hb4 : Blk W4 bp #[.int .i64 (p : Int)] 3 := (hk4.2 _ lp' hnp).trans HI2.out.2.2.1
       have HK4 := Lib.hid (And.intro hJ4 (And.intro hb4 (Nat.le_trans HI2.out.2.2.2 hk4.1))); clear hJ4 hk4 hb4 hy HR cp lp'
       gi_wp2_with fail
       go_roundw
       case rel =>
        refine ⟨fr + 1, pre2 ++ [⟨_, hmem⟩], by omega, by omega, by go_num, Lib.hid ⟨?_, HK4.out⟩⟩
        rw [List.map_append, HI2.out.1, show 1 + (sd - 1) * 7 + (fr + 1 - 1) = 1 + (sd - 1) * 7 + (fr - 1) + 1 by omega, upM_succ]; rfl
       case measure => simp [intOf]; omega
      ·have HX := Lib.hid hJx4; clear hJx4
       gi_wp2_with fail
       refine bodyPost_ret (v := .tuple #[]) (by simp [results, Tryd.results66, go_sem]) rfl ⟨⟨_, rfl⟩, .inr ⟨pre2 ++ [⟨_, hmem⟩], ?_, HX.out⟩⟩
       rw [List.map_append, HI2.out.1]
       show upM p _ ++ [mvAt p _] <+: _
       rw [← upM_succ]
       exact upM_prefix p (by omega)
     ·obtain rfl : fr = 8 := by omega
      gi_wp2_with fail
      go_roundw
      case rel => exact ⟨sd + 1, pre2, by omega, by omega, by go_num, Lib.hid ⟨by rw [HI2.out.1]; congr 1; omega, HI2.out.2⟩⟩
      case measure => simp [intOf]; omega
   ·obtain rfl : sd = 5 := by omega
    gi_wp2_with fail
    go_end0
    exact ⟨⟨_, rfl⟩, .inl ⟨pre, by rw [HI.out.1, ← upM_all], HI.out.2.1⟩⟩
 ·have HX := Lib.hid hJx3; clear hJx3
  gi_wp2_with fail
  refine bodyPost_ret (v := .tuple #[]) (by simp [results, Tryd.results66, go_sem]) rfl ⟨⟨_, rfl⟩, .inr ⟨[⟨mvAt p 0, mvAt_mem p 0 (by omega)⟩], ?_, HX.out⟩⟩
  exact upM_prefix p (i := 1) (by omega)
theorem moves_seq {n : Nat} (hn : 1 ≤ n) {Wr : Nat → Prop} {W : World} (p : Nat) {bp : Nat} (hbp : Blk W bp #[.int .i64 (p : Int)] 3) (hnp : ¬ Wr bp) :
  SeqC Fence.wide n Tryd.prog 66 #[.pointer (some ⟨bp, 0, none⟩)] (fun y : MvOf p => #[mvV y.1]) Wr 0 (fun xs => xs.map (·.1) = movesL p) (fun pre => pre.map (·.1) <+: movesL p) 29 W := by
 intro lp J Jx _ _ _ hY h0
 exact moves1_in hn lp p hbp hnp J Jx hY h0
set_option maxHeartbeats 1000000 in
theorem free_spec {w : World} {g mb : Nat} {m : List Sol} (hM : Mould w g mb m) (hm : m.length ≤ 12) {x : Mo} {s : Sol} (hs : m[x.1]? = some s) (hx : x ∈ allMv) (G : U) : Calls Tryd.prog 34 #[.pointer (some ⟨g, 0, none⟩), mvV x, .int .u64 (uI G)] w fun e w' => e = .returned (.bool (freeM m x G)) ∧ Ways w' mb m ∧ w.grownBy w' (some mb) := by
 have HI := fun W (hb : Below w.heap.size w W) => Lib.hid (inWay_core (hM.grow hb) hm hs hx)
 have ea := bits_andNot_u (inWayM m x).1 G
 have eb := beq_u0 ((inWayM m x).1 &&& ~~~G)
 clear hM hs hx
 go_enter Tryd.func34, Tryd.ntmps34
 go_wp2_with fail
 refine (HI _ (by repeat (first | with_reducible exact bel_refl _ | with_reducible assumption | with_reducible refine bel_drewN ?_ _ | with_reducible refine bel_drew ?_ | with_reducible refine bel_alloc ?_ _ | with_reducible refine bel_row ?_ ?_ _ | with_reducible refine bel_set ?_ ?_ _ | refine bel_trans ?_ (by with_reducible assumption) | (simp; done) | (simp; omega)))).out.mono ?_
 rintro e w1 ⟨rfl, hw, hg⟩
 have hg2 : w.grownBy w1 (some mb) := (World.grownBy_alloc w _ _).trans hg
 have HH := Lib.hid (And.intro hw hg2); clear hw hg hg2 HI
 cases hsd : (inWayM m x).2
 ·go_wp2_with fail
  go_ret
  refine ⟨?_, HH.out.1.kept (World.grownBy_alloc _ _ none) (by simp), gb_alloc HH.out.2 _⟩
  show Ending.returned (.bool ((inWayM m x).1 &&& ~~~G == 0#64)) = _
  unfold freeM
  rw [hsd]; rfl
 ·go_wp2_with fail
  go_ret
  refine ⟨?_, HH.out.1.kept (World.grownBy_alloc _ _ none) (by simp), gb_alloc HH.out.2 _⟩
  show Ending.returned (.bool false) = _
  unfold freeM
  rw [hsd]; rfl
end Go.Proofs.YtkcpnhigekopaaaDoor
end
section
namespace Go.Proofs.YtkcpnhigekopaaaDoor
open Go.RowKit Go.Rel Go.Draw
set_option maxRecDepth 100000
attribute [local go_sem] Oper.semAt_some
/-! the first move with which a piece can go -/
theorem abides_ways {β : Type} {lo hi mb : Nat} {m : List Sol} (h : mb < lo) : AbidesC lo hi (fun (_ : β) W => Ways W mb m) := fun _ W W' row hs hg hr =>
 hs.kept hg (fun e => by have := hr _ e.symm; omega)
def goesR : Option Mv → Value
 | some x => .tuple #[mvV x, .bool true]
 | none => .tuple #[mvV (0, 0, 0), .bool false]
theorem movesL_all {p : Nat} {x : Mo} (hp : p < 12) (h : x ∈ movesL p) : x.1 = p ∧ x ∈ allMv := by
 have := (mem_movesL p x).1 h
 exact ⟨this.1, (mem_allMv x).2 ⟨by omega, this.2⟩⟩
/-- a move has been found -/
def GoFound (w : World) (mb : Nat) (m : List Sol) (G : U) (p t6 t7 : Nat) (pre : List (MvOf p)) (W : World) : Prop :=
 ∃ (pre' : List (MvOf p)) (x : MvOf p), pre = pre' ++ [x] ∧ (∀ y ∈ pre', freeM m y.1 G = false) ∧ freeM m x.1 G = true ∧ Ways W mb m ∧ w.grownBy W (some mb) ∧ Blk W t6 #[.int .i64 (x.1.1 : Int), .int .i64 (x.1.2.1 : Int), .int .i64 (x.1.2.2 : Int)] 50 ∧ Blk W t7 #[.bool true] 4
theorem goFound_abides {w : World} {mb : Nat} {m : List Sol} {G : U} {p t6 t7 lo hi : Nat} (h0 : w.heap.size ≤ lo) (h1 : mb < lo) (h2 : t6 < lo) (h3 : t7 < lo) : AbidesC lo hi (fun pre W => GoFound w mb m G p t6 t7 pre W) := fun pre W W' row hs hg hr => by
 obtain ⟨pre', x, e, ha, hb, hw, hgw, b6, b7⟩ := hs
 exact ⟨pre', x, e, ha, hb, hw.kept hg (fun e => by have := hr _ e.symm; omega), gb_new hgw hg (fun j e => by have := hr j e; omega), b6.gb hg (fun e => by have := hr _ e.symm; omega), b7.gb hg (fun e => by have := hr _ e.symm; omega)⟩
set_option maxHeartbeats 4000000 in
theorem goes_spec {w : World} {g mb : Nat} {m : List Sol} (hM : Mould w g mb m) (hm : m.length ≤ 12) {p : Nat} (hp : p < m.length) (G : U) : Calls Tryd.prog 46 #[.pointer (some ⟨g, 0, none⟩), .int .i64 (p : Int), .int .u64 (uI G)] w fun e w' => e = .returned (goesR (goesM m p G)) ∧ Ways w' mb m ∧ w.grownBy w' (some mb) := by
 obtain ⟨s, hs⟩ : ∃ s, m[p]? = some s := ⟨_, List.getElem?_eq_getElem hp⟩
 have HM := Lib.hid (And.intro hM hs)
 have lG := hM.lt
 have lmb := hM.ways.lt
 clear hM hs
 refine (callsIn_wide (n := 9)).1 ?_
 refine callsIn_of_wp_marks Tryd.func46 rfl trivial ?_ rfl
 simp only [Tryd.ntmps46, List.size_toArray, List.length_cons, List.length_nil, Nat.reduceAdd, Nat.reduceSub, Array.replicate_succ, Array.replicate_zero, List.push_toArray, List.append_toArray, List.nil_append, List.cons_append]
 refine wpIn_wide.2 ?_
 go_wp2_with fail
 refine (moves_spec _ p).mono ?_
 rintro e w3 ⟨rfl, hw3⟩
 simp only [World.size_alloc] at hw3 ⊢
 have b3 : Blk w3 w.heap.size #[.pointer (some ⟨g, 0, none⟩)] 42 := by subst hw3; exact (by repeat (first | with_reducible assumption | (refine Blk.at _ _ ?_; (simp; done)) | with_reducible refine Blk.alloc ?_ _ | with_reducible refine Blk.drew ?_ | with_reducible refine Blk.rowS ?_ _ | with_reducible refine Blk.rowO ?_ _ (by simp)))
 have b5 : Blk w3 (w.heap.size + 1) #[.int .u64 (uI G)] 57 := by subst hw3; exact (by repeat (first | with_reducible assumption | (refine Blk.at _ _ ?_; (simp; done)) | with_reducible refine Blk.alloc ?_ _ | with_reducible refine Blk.drew ?_ | with_reducible refine Blk.rowS ?_ _ | with_reducible refine Blk.rowO ?_ _ (by simp)))
 have b6 : Blk w3 (w.heap.size + 1 + 1) #[.int .i64 0, .int .i64 0, .int .i64 0] 50 := by subst hw3; exact (by repeat (first | with_reducible assumption | (refine Blk.at _ _ ?_; (simp; done)) | with_reducible refine Blk.alloc ?_ _ | with_reducible refine Blk.drew ?_ | with_reducible refine Blk.rowS ?_ _ | with_reducible refine Blk.rowO ?_ _ (by simp)))
 have b7 : Blk w3 (w.heap.size + 1 + 1 + 1) #[.bool false] 4 := by subst hw3; exact (by repeat (first | with_reducible assumption | (refine Blk.at _ _ ?_; (simp; done)) | with_reducible refine Blk.alloc ?_ _ | with_reducible refine Blk.drew ?_ | with_reducible refine Blk.rowS ?_ _ | with_reducible refine Blk.rowO ?_ _ (by simp)))
 have bp : Blk w3 (w.heap.size + 1 + 1 + 1 + 1) #[.int .i64 (p : Int)] 3 := by subst hw3; exact Blk.at _ _ (by simp)
 have hsz3 : w3.heap.size = w.heap.size + 1 + 1 + 1 + 1 + 1 := by subst hw3; simp
 have hb3 : Below w.heap.size w w3 := by subst hw3; exact (by repeat (first | with_reducible exact bel_refl _ | with_reducible assumption | with_reducible refine bel_drewN ?_ _ | with_reducible refine bel_drew ?_ | with_reducible refine bel_alloc ?_ _ | with_reducible refine bel_row ?_ ?_ _ | with_reducible refine bel_set ?_ ?_ _ | refine bel_trans ?_ (by with_reducible assumption) | (simp; done) | (simp; omega)))
 have hM3 := HM.out.1.grow hb3
 have H3 := Lib.hid (And.intro b3 (And.intro b5 (And.intro b6 (And.intro b7 (And.intro bp (And.intro hsz3 (And.intro hb3 hM3)))))))
 clear hw3 b3 b5 b6 b7 bp hsz3 hb3 hM3
 go_wp2_with fail
 refine (wpIn_wide (n := 9)).1 ?_
 refine wpIn_rangeFunc_C (α := MvOf p) rfl (by omega) (gf := 66) (lb := #[.pointer (some ⟨w.heap.size + 1 + 1 + 1 + 1, 0, none⟩)]) rfl trivial (enters_of Tryd.func66 (by kernel_rfl) rfl) (wr := fun k => k = mb ∨ k = w.heap.size + 1 + 1 ∨ k = w.heap.size + 1 + 1 + 1) 0
  (fun W hbW _ => moves_seq (n := 9 - 1) (by omega) p (H3.out.2.2.2.2.1.grow hbW) (by omega)) (fun r h1 h2 => by have := H3.out.2.2.2.2.2.1; omega) (fun _ => rfl)
  (fun pre W => ((∀ y ∈ pre, freeM m y.1 G = false) ∧ Ways W mb m) ∧ w3.grownBy W (some mb)) (fun c pre W => c = .ret ∧ GoFound w mb m G p (w.heap.size + 1 + 1) (w.heap.size + 1 + 1 + 1) pre W)
  (AbidesC.and (AbidesC.and (AbidesC.pure _ _ _) (abides_ways (by have := H3.out.2.2.2.2.2.1; omega))) (abides_gb (Nat.le_refl _))) (fun c => AbidesC.and (AbidesC.pure _ _ _) (goFound_abides (by have := H3.out.2.2.2.2.2.1; omega) (by have := H3.out.2.2.2.2.2.1; omega) (by have := H3.out.2.2.2.2.2.1; omega) (by have := H3.out.2.2.2.2.2.1; omega))) ⟨⟨by simp, H3.out.2.2.2.2.2.2.2.ways⟩, gb_refl _ _⟩
  (fun z a' W => ∃ B8, w3.heap.size + 1 + 1 + 0 ≤ B8 ∧ Blk W B8 #[.int .i64 (z.1.1 : Int), .int .i64 (z.1.2.1 : Int), .int .i64 (z.1.2.2 : Int)] 50 ∧ a' = { tmps := #[.pointer (some ⟨g, 0, none⟩), .int .i64 (p : Int), .int .u64 (uI G), .pointer (some ⟨w.heap.size, 0, none⟩), undef, .pointer (some ⟨w.heap.size + 1, 0, none⟩), .pointer (some ⟨w.heap.size + 1 + 1, 0, none⟩), .pointer (some ⟨w.heap.size + 1 + 1 + 1, 0, none⟩), .pointer (some ⟨B8, 0, none⟩), .int .i64 (p : Int), .func (.func 66) #[] #[.pointer (some ⟨w.heap.size + 1 + 1 + 1 + 1, 0, none⟩)], mvV z.1, undef, undef, undef, undef, undef, undef], defers := [] })
  (fun z a' _ X Y row hs hg hr => by obtain ⟨B8, e1, e2, e3⟩ := hs; exact ⟨B8, e1, e2.gb hg (fun e => by have := hr _ e.symm; omega), e3⟩)
  ?assign ?body ?done ?stop
 case assign =>
  rintro lp pre z W K ⟨⟨hp1, hw1⟩, hgb⟩ hsz hK
  have HI := Lib.hid (And.intro hp1 (And.intro hw1 hgb)); clear hp1 hw1 hgb
  have hK' := fun a' W' => hK a' W'
  clear hK
  gi_wp2_with fail
  refine hK' _ _ (KeepsBut.alloc _ _ _) ⟨⟨HI.out.1, HI.out.2.1.kept (World.grownBy_alloc _ _ none) (by simp)⟩, gb_alloc HI.out.2.2 _⟩ ⟨W.heap.size, hsz, Blk.new _ _ _, rfl⟩
 case body =>
  rintro lp pre z a' W hsz ⟨⟨hp1, hw1⟩, hgb⟩ ⟨B8, hB8, bB, rfl⟩ hlen
  have b3 := H3.out.1.gb hgb (by simp; omega)
  have b5 := H3.out.2.1.gb hgb (by simp; omega)
  have b6 := H3.out.2.2.1.gb hgb (by simp; omega)
  have b7 := H3.out.2.2.2.1.gb hgb (by simp; omega)
  have hMW := H3.out.2.2.2.2.2.2.2.grown hgb hw1
  have hz := movesL_all (by omega) z.2
  have HI := Lib.hid (And.intro hp1 (And.intro hgb (And.intro b6 (And.intro b7 bB))))
  have c3 := b3.cell; have l3 := b3.lt; have c5 := b5.cell; have l5 := b5.lt; have c8 := bB.cell; have l8 := bB.lt
  have HF := Lib.hid (free_spec hMW hm (x := z.1) (s := s) (by rw [hz.1]; exact HM.out.2) hz.2 G)
  clear hp1 hw1 hgb b3 b5 b6 b7 bB hMW hz
  gi_wp2_with fail
  refine ⟨trivial, (CallsIn.inRound lp (callsIn_wide.2 HF.out)).mono ?_⟩
  rintro e w4 ⟨rfl, hw4, hg4⟩
  have hH3 := H3.out.2.2.2.2.2.1
  cases hfr : freeM m z.1 G
  ·have HG4 := Lib.hid (And.intro hw4 hg4); clear hw4 hg4
   gi_wp2_with fail
   refine ⟨.gb HG4.out.2 (fun r e => by cases e; exact .inl rfl), ⟨⟨fun y hy => ?_, HG4.out.1⟩, HI.out.2.1.trans HG4.out.2⟩⟩
   rcases List.mem_append.1 hy with h | h
   ·exact HI.out.1 y h
   ·rw [List.mem_singleton.1 h]; exact hfr
  ·have b6' := HI.out.2.2.1.gb hg4 (by simp; omega)
   have b7' := HI.out.2.2.2.1.gb hg4 (by simp; omega)
   have b8' := HI.out.2.2.2.2.gb hg4 (by simp; omega)
   have hg5 : w.grownBy w4 (some mb) := (gb_below (gb_refl w _) H3.out.2.2.2.2.2.2.1).trans (HI.out.2.1.trans hg4)
   have n8 : B8 ≠ w.heap.size + 1 + 1 ∧ B8 ≠ w.heap.size + 1 + 1 + 1 := by omega
   have c8' := ((b8'.rowO (g := w.heap.size + 1 + 1 + 1) #[.bool false] n8.2).rowO (g := w.heap.size + 1 + 1) #[.int .i64 0, .int .i64 0, .int .i64 0] n8.1).cell
   have r6 := b6'.row; have r7 := b7'.row; have l6 := b6'.lt; have l7 := b7'.lt; have l8' := b8'.lt
   have HZ := Lib.hid (And.intro hw4 (And.intro hg5 (And.intro b6' (And.intro b7' hg4))))
   rw [← b6'.rw, ← b7'.rw]
   clear hw4 hg4 hg5 b6' b7' b8' n8
   gi_wp2_with fail
   have HR : ∀ c6 c7, Blk ((w4.setRow (w.heap.size + 1 + 1 + 1) c7).setRow (w.heap.size + 1 + 1) c6) (w.heap.size + 1 + 1) c6 50 ∧ Blk ((w4.setRow (w.heap.size + 1 + 1 + 1) c7).setRow (w.heap.size + 1 + 1) c6) (w.heap.size + 1 + 1 + 1) c7 4 ∧ KeepsBut (fun k => k = mb ∨ k = w.heap.size + 1 + 1 ∨ k = w.heap.size + 1 + 1 + 1) w4 ((w4.setRow (w.heap.size + 1 + 1 + 1) c7).setRow (w.heap.size + 1 + 1) c6) ∧ Ways ((w4.setRow (w.heap.size + 1 + 1 + 1) c7).setRow (w.heap.size + 1 + 1) c6) mb m ∧ w.grownBy ((w4.setRow (w.heap.size + 1 + 1 + 1) c7).setRow (w.heap.size + 1 + 1) c6) (some mb) := fun c6 c7 =>
    ⟨(HZ.out.2.2.1.rowO c7 (by omega)).rowS c6, (HZ.out.2.2.2.1.rowS c7).rowO c6 (by omega), KeepsBut.trans (.gb (gb_row (gb_refl w4 (some (w.heap.size + 1 + 1 + 1))) c7) (fun r e => by cases e; exact .inr (.inr rfl))) (.gb (gb_row (gb_refl _ (some (w.heap.size + 1 + 1))) c6) (fun r e => by cases e; exact .inr (.inl rfl))),
     (HZ.out.1.kept (gb_row (gb_refl w4 (some (w.heap.size + 1 + 1 + 1))) c7) (by simp; omega)).kept (gb_row (gb_refl _ (some (w.heap.size + 1 + 1))) c6) (by simp; omega),
     gb_new (gb_new HZ.out.2.1 (gb_row (gb_refl w4 (some (w.heap.size + 1 + 1 + 1))) c7) (fun j e => by cases e; omega)) (gb_row (gb_refl _ (some (w.heap.size + 1 + 1))) c6) (fun j e => by cases e; omega)⟩
   have HR2 := HR #[.int .i64 (z.1.1 : Int), .int .i64 (z.1.2.1 : Int), .int .i64 (z.1.2.2 : Int)] #[.bool true]
   exact ⟨(KeepsBut.gb HZ.out.2.2.2.2 (fun r e => by cases e; exact .inl rfl)).trans HR2.2.2.1, rfl, pre, z, rfl, HI.out.1, hfr, HR2.2.2.2.1, HR2.2.2.2.2, HR2.1, HR2.2.1⟩
 case done =>
  rintro D xs W hD hS ⟨⟨hp1, hw1⟩, hgb⟩ hK
  have hH3 := H3.out.2.2.2.2.2.1
  have b6 := H3.out.2.2.1.gb hgb (by simp; omega)
  have b7 := H3.out.2.2.2.1.gb hgb (by simp; omega)
  have hnone : goesM m p G = none := find_no _ fun y hy => by
   rw [← hS] at hy
   obtain ⟨z, hz, rfl⟩ := List.mem_map.1 hy
   exact hp1 z hz
  have hg5 : w.grownBy W (some mb) := (gb_below (gb_refl w _) H3.out.2.2.2.2.2.2.1).trans hgb
  have lD := (Array.getElem?_eq_some_iff.1 hK).1
  have HZ := Lib.hid (And.intro hw1 (And.intro hg5 (And.intro b6 (And.intro b7 (And.intro hK (And.intro hD hnone))))))
  have r6 := b6.row; have r7 := b7.row; have l6 := b6.lt; have l7 := b7.lt
  rw [← b6.rw, ← b7.rw]
  clear hp1 hw1 hgb b6 b7 hK hD hnone hg5
  gi_wp2_with fail
  go_wp2_with fail
  rw [HZ.out.2.2.2.1.rw, HZ.out.2.2.1.rw]
  refine ⟨by simp, .inl ⟨_, _, rfl, run_takeDeferred HZ.out.2.2.2.2.1, ?_⟩⟩
  have hne6 : w.heap.size + 1 + 1 ≠ D := by have := HZ.out.2.2.2.2.2.1; omega
  have hne7 : w.heap.size + 1 + 1 + 1 ≠ D := by have := HZ.out.2.2.2.2.2.1; omega
  have hgP := grownBy_putObj' W D (.deferred none)
  have c6P := (HZ.out.2.2.1.gb hgP (by simp; omega)).cell
  have c7P := (HZ.out.2.2.2.1.gb hgP (by simp; omega)).cell
  refine ⟨.tuple #[.agg #[.int .i64 0, .int .i64 0, .int .i64 0], .bool false], by simp [results, Tryd.results46, go_sem, c6P, c7P], ?_, HZ.out.1.kept hgP (by simp; have := HZ.out.2.2.2.2.2.1; omega), gb_new HZ.out.2.1 hgP (fun j e => by cases e; have := HZ.out.2.2.2.2.2.1; omega)⟩
  rw [HZ.out.2.2.2.2.2.2]; rfl
 case stop =>
  rintro D c pre W hD hS ⟨rfl, pre', x, rfl, ha, hb, hw, hgw, b6, b7⟩ hK
  have hH3 := H3.out.2.2.2.2.2.1
  have hfound : goesM m p G = some x.1 := by
   rw [List.map_append] at hS
   exact find_at _ hS (fun y hy => by obtain ⟨z, hz, rfl⟩ := List.mem_map.1 hy; exact ha z hz) hb
  have HZ := Lib.hid (And.intro hw (And.intro hgw (And.intro b6 (And.intro b7 (And.intro hK (And.intro hD hfound))))))
  clear ha hb hw hgw b6 b7 hK hD hfound hS
  gi_wp2_with fail
  refine ⟨by simp, .inl ⟨_, _, rfl, run_takeDeferred HZ.out.2.2.2.2.1, ?_⟩⟩
  have hne6 : w.heap.size + 1 + 1 ≠ D := by have := HZ.out.2.2.2.2.2.1; omega
  have hne7 : w.heap.size + 1 + 1 + 1 ≠ D := by have := HZ.out.2.2.2.2.2.1; omega
  have hgP := grownBy_putObj' W D (.deferred none)
  have c6P := (HZ.out.2.2.1.gb hgP (by simp; omega)).cell
  have c7P := (HZ.out.2.2.2.1.gb hgP (by simp; omega)).cell
  refine ⟨.tuple #[.agg #[.int .i64 (x.1.1 : Int), .int .i64 (x.1.2.1 : Int), .int .i64 (x.1.2.2 : Int)], .bool true], by simp [results, Tryd.results46, go_sem, c6P, c7P], ?_, HZ.out.1.kept hgP (by simp; have := HZ.out.2.2.2.2.2.1; omega), gb_new HZ.out.2.1 hgP (fun j e => by cases e; have := HZ.out.2.2.2.2.2.1; omega)⟩
  rw [HZ.out.2.2.2.2.2.2]; rfl
theorem bitAt_u (G : U) (k : Nat) : (bits .and .u64 (uI G / (2 : Int) ^ k) 1 == 0) = !G.getLsbD k := by
 have e1 : (2 : Int) ^ k = ((2 ^ k : Nat) : Int) := by rw [Int.natCast_pow]; rfl
 have e2 := bits_and_u (G >>> k) 1
 rw [uI_one] at e2
 rw [e1, shr_u, e2, beq_u0, Bool.eq_iff_iff, beq_iff_eq, zero_bits]
 constructor
 ·intro h
  have := h 0 (by omega)
  rw [BitVec.getLsbD_and, BitVec.getLsbD_ushiftRight] at this
  simpa using this
 ·intro h i hi
  rw [BitVec.getLsbD_and, BitVec.getLsbD_ushiftRight]
  by_cases e : i = 0
  ·subst e; simpa using h
  ·have : (1 : U).getLsbD i = false := by
    show (1#64).getLsbD i = false
    rw [BitVec.getLsbD_one]; simp [e]
   rw [this, Bool.and_false]
set_option maxHeartbeats 2000000 in
theorem ready_spec {w : World} {g mb : Nat} {m : List Sol} (hM : Mould w g mb m) (hm : m.length ≤ 12) (G : U) : Calls Tryd.prog 35 #[.pointer (some ⟨g, 0, none⟩), .int .u64 (uI G)] w fun e w' => e = .returned (.int .u64 (uI (readyM m G))) ∧ Ways w' mb m ∧ w.grownBy w' (some mb) := by
 obtain ⟨a, c, hg, hsl⟩ := hM.blk
 have cg := hg.cell; have lg := hg.lt
 have HM := Lib.hid hM
 clear hM hg hsl
 go_enter Tryd.func35, Tryd.ntmps35
 go_wp2_with fail
 clear cg lg
 go_loopw [14, 5] (fun iv ov wx => ∃ k : Nat, k ≤ m.length ∧ iv = .int .i64 k ∧ ov = .int .u64 (uI (readyF m G k)) ∧ Hid (Ways wx mb m ∧ w.grownBy wx (some mb))) (fun iv _ _ => m.length - (intOf iv).toNat)
 case atStart => exact ⟨0, Nat.zero_le _, rfl, by rw [show readyF m G 0 = 0 from rfl, uI_zero], Lib.hid ⟨HM.out.ways, gb_refl _ _⟩⟩
 case round =>
  obtain ⟨k, hk, rfl, rfl, HI⟩ := hrel
  by_cases hlt : k < m.length
  ·have HG := Lib.hid (goes_spec (HM.out.grown HI.out.2 HI.out.1) hm hlt G)
   go_wp2_with fail
   refine HG.out.mono ?_
   rintro e w1 ⟨rfl, hw1, hg1⟩
   have H1 := Lib.hid (And.intro hw1 (HI.out.2.trans hg1)); clear hw1 hg1 HG
   obtain ⟨r, hr⟩ : ∃ r, r = goesM m k G := ⟨_, rfl⟩
   have HR := Lib.hid hr
   rw [← hr]
   clear hr
   have eb := bitAt_u G k
   have ep := pow_u k (by omega)
   have eo := bits_or_u (readyF m G k) (bit k)
   cases r with
   | none =>
    unfold goesR
    clear eb ep eo
    go_wp2_with fail
    go_roundw
    case rel =>
     refine ⟨k + 1, by omega, by go_num, ?_, Lib.hid ⟨H1.out.1.kept (World.grownBy_alloc _ _ none) (by simp), gb_alloc H1.out.2 _⟩⟩
     rw [readyF, ← HR.out]; rfl
    case measure => simp [intOf]; omega
   | some x =>
    unfold goesR
    cases hgk : G.getLsbD k
    ·rw [hgk] at eb
     simp only [Bool.not_false] at eb
     go_wp2_with fail
     go_roundw
     case rel =>
      refine ⟨k + 1, by omega, by go_num, ?_, Lib.hid ⟨H1.out.1.kept (World.grownBy_alloc _ _ none) (by simp), gb_alloc H1.out.2 _⟩⟩
      rw [readyF, ← HR.out, hgk]; rfl
     case measure => simp [intOf]; omega
    ·rw [hgk] at eb
     simp only [Bool.not_true] at eb
     clear ep eo
     go_wp2_with fail
     go_roundw
     case rel =>
      refine ⟨k + 1, by omega, by go_num, ?_, Lib.hid ⟨H1.out.1.kept (World.grownBy_alloc _ _ none) (by simp), gb_alloc H1.out.2 _⟩⟩
      rw [readyF, ← HR.out, hgk]; rfl
     case measure => simp [intOf]; omega
  ·obtain rfl : k = m.length := by omega
   go_wp2_with fail
   go_ret
   exact ⟨rfl, HI.out⟩
end Go.Proofs.YtkcpnhigekopaaaDoor
end
