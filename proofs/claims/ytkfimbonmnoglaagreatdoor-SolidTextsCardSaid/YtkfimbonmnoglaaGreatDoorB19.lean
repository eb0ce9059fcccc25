import Derived.Test.YtkfimbonmnoglaaGreatDoorB18
import Derived.Sort.CutIn
import Derived.Deep.Cut
/-
  Given contracts of functions of the program, and laws for them, one behind the other.
-/
set_option linter.unusedVariables false
set_option linter.unusedSimpArgs false
set_option linter.unusedSectionVars false
section
namespace Go.Proofs.YtkfimbonmnoglaaGreatDoor
open Go.RowKit Go.Rel Go.Draw Go.Solid
set_option maxRecDepth 100000
attribute [local go_sem] Oper.semAt_some
theorem blw_rowsS {B : Nat} {w : World} {g : Nat} (hg : B ≤ g) (cs cs' : Array Value) : Below B (w.setRow g cs) (w.setRow g cs') :=
 ⟨rfl, rfl, rfl, by rw [setRow_size, setRow_size]; exact Nat.le_refl _, fun k hk => (setRow_other w g k cs' (by omega)).trans (setRow_other w g k cs (by omega)).symm⟩
theorem below_allocN {B : Nat} {w0 w : World} (h : Below B w0 w) (hB : B ≤ w.heap.size) (o : Obj) : Below B w0 (w.alloc o) := h.alloc hB o
attribute [local irreducible] frT frZ frY frX turnC spunS loT hiT
set_option maxHeartbeats 1000000 in
theorem fits1_main {n : Nat} (hn : 1 ≤ n) (lp : Nat) {Wr : Nat → Prop} {W : World} (a b : Sol) (hb0 : b ≠ 0) {ba bb : Nat} (hba : Blk W ba #[.int .u64 (pl a 0), .int .u64 (pl a 1), .int .u64 (pl a 2), .int .u64 (pl a 3), .int .u64 (pl a 4), .int .u64 (pl a 5), .int .u64 (pl a 6), .int .u64 (pl a 7)] 26) (hbb : Blk W bb #[.int .u64 (pl b 0), .int .u64 (pl b 1), .int .u64 (pl b 2), .int .u64 (pl b 3), .int .u64 (pl b 4), .int .u64 (pl b 5), .int .u64 (pl b 6), .int .u64 (pl b 7)] 26) (hT : Tab W) (hW : WrOk Wr W.heap.size ba bb) (J Jx : List (Mt × Sol) → World → Prop) (hJ : ∀ pre W1 W2, J pre W1 → Below W1.heap.size W1 W2 → J pre W2) (ha : a ≠ 0) (hc : ¬ countS a < countS b) (hY : ∀ pre y W1, J pre W1 → W.heap.size + 0 ≤ W1.heap.size → pre.length < (fitsL a b).length → YieldAt Fence.wide (n - 1) Tryz.prog lp #[motV (y.1.1 : Int) y.1.2, solV y.2] W1 fun e W' => (e = .returned (.bool true) ∧ J (pre ++ [y]) W' ∧ KeepsBut Wr W1 W') ∨ (e = .returned (.bool false) ∧ Jx (pre ++ [y]) W')) (h0 : J [] W) :
  CallsIn Fence.wide n Tryz.prog 155 #[.func (.yield lp) #[] #[], .pointer (some ⟨ba, 0, none⟩), .pointer (some ⟨bb, 0, none⟩)] W fun e W' => (∃ v, e = .returned v) ∧ ((∃ xs, xs = fitsL a b ∧ J xs W') ∨ (∃ pre, pre <+: fitsL a b ∧ Jx pre W')) := by
 have HF0 := Lib.hid (frT_all ha hc)
 obtain ⟨F, hF⟩ : ∃ F, F = fitsL a b := ⟨_, rfl⟩
 rw [← hF] at HF0 hY ⊢
 have HB := Lib.hid fun W h => bounds_some ha W h
 have HCa := Lib.hid fun W => count_spec a W
 have HCb := Lib.hid fun W => count_spec b W
 obtain ⟨na, hna⟩ : ∃ n, n = countS a := ⟨_, rfl⟩
 obtain ⟨nb, hnb⟩ : ∃ n, n = countS b := ⟨_, rfl⟩
 rw [← hna] at HCa hc; rw [← hnb] at HCb hc
 have hdc : decide ((na : Int) < (nb : Int)) = false := decide_eq_false (by omega)
 have hcn : nb ≤ na := by omega
 have HJ := Lib.hid (And.intro hJ (And.intro h0 hY))
 have ca := hba.cell; have la := hba.lt
 have HA := Lib.hid (And.intro hba (And.intro hbb (And.intro hT hW)))
 have hlin := co_in (loS_in ha); have hhin := co_in (hiS_in ha)
 obtain ⟨lo, hlo⟩ : ∃ l, l = loS a := ⟨_, rfl⟩
 obtain ⟨hi, hhi⟩ : ∃ l, l = hiS a := ⟨_, rfl⟩
 rw [← hlo] at HB hlin
 rw [← hhi] at HB hhin
 have HLH := Lib.hid (And.intro hlo hhi)
 obtain ⟨l1, l2, l3⟩ := lo
 obtain ⟨h1, h2, h3⟩ := hi
 have hl1 : 0 ≤ l1 ∧ l1 ≤ 7 := hlin 0
 have hl2 : 0 ≤ l2 ∧ l2 ≤ 7 := hlin 1
 have hl3 : 0 ≤ l3 ∧ l3 ≤ 7 := hlin 2
 have hh1 : 0 ≤ h1 ∧ h1 ≤ 7 := hhin 0
 have hh2 : 0 ≤ h2 ∧ h2 ≤ 7 := hhin 1
 have hh3 : 0 ≤ h3 ∧ h3 ≤ 7 := hhin 2
 have HN := Lib.hid (And.intro ha hb0)
 clear ha hb0 hba hbb hJ h0 hF hna hnb hT hY hW hlin hhin hlo hhi hc
 refine callsIn_of_wp Tryz.func155 rfl trivial ?_ rfl
 simp only [Tryz.ntmps155, List.size_toArray, List.length_cons, List.length_nil, Nat.reduceAdd, Nat.reduceSub, Array.replicate_succ, Array.replicate_zero, List.push_toArray, List.append_toArray, List.nil_append, List.cons_append]
 gi_wp2_with fail
 refine ⟨trivial, (callsIn_wide.2 (HB.out _ HA.out.2.2.1)).mono ?_⟩
 rintro e w1 ⟨rfl, hb1⟩
 obtain ⟨b4, hb4⟩ : ∃ b4, b4 = w1.heap.size := ⟨_, rfl⟩
 have hb4s : W.heap.size ≤ b4 := by rw [hb4]; exact hb1.size
 obtain ⟨w2, hw2⟩ : ∃ w2, w2 = w1.alloc (.cells #[.int .i64 l1, .int .i64 l2, .int .i64 l3, .int .i64 h1, .int .i64 h2, .int .i64 h3] 62) := ⟨_, rfl⟩
 have hb2 : Below W.heap.size W w2 := by rw [hw2]; exact bel_alloc hb1 _
 have B4 : Blk w2 b4 #[.int .i64 l1, .int .i64 l2, .int .i64 l3, .int .i64 h1, .int .i64 h2, .int .i64 h3] 62 := by rw [hw2, hb4]; exact Blk.new _ _ _
 have HD := Lib.hid (And.intro (HA.out.1.grow hb2) (And.intro (HA.out.2.1.grow hb2) (And.intro (HJ.out.1 _ _ _ HJ.out.2.1 hb2) (And.intro B4 (HA.out.2.2.1.grow hb2)))))
 have HW2 := Lib.hid (And.intro hw2 hb4)
 have hb2s := hb2.size
 clear ca la hb1 hw2 hb2 B4 hb4
 have ca := HD.out.1.cell; have la := HD.out.1.lt; have cb := HD.out.2.1.cell; have lb := HD.out.2.1.lt
 gi_upto_region 1 with fail
 rw [show w1.alloc (.cells #[.int .i64 l1, .int .i64 l2, .int .i64 l3, .int .i64 h1, .int .i64 h2, .int .i64 h3] 62) = w2 from HW2.out.1.symm, show w1.heap.size = b4 from HW2.out.2.symm]
 refine wpIn_wide.2 ?_
 refine wp_region_val Grows (fun _ _ _ => True) [Is (.bool true), Is (.bool false), Is (.bool false), Is (solV b), Is (.int .i64 (nb : Int)), Is (solV a), Is (.int .i64 (na : Int)), Is (.bool false), Is (.bool false)] (by kernel_rfl) (by kernel_rfl) rfl Grows.refl (fun _ _ _ => Grows.trans) (stable_mem ⟨fun _ _ _ h _ => h, fun _ _ _ h _ => h, fun _ _ _ h _ => h, fun _ _ _ h _ => h, fun _ _ _ h _ => h, fun _ _ _ h _ => h, fun _ _ _ h _ => h, fun _ _ _ h _ => h, fun _ _ _ h _ => h, trivial⟩) w2 (Below.drew (Below.refl _ _)) trivial ?_
 refine val_cons ?_ (fun v0 => ?_)
 ·intro L vs w1 hvs hat hb hI hF; try simp [factsI, Region.binds, Is] at hF
  have hc := (Grows.cells hb).1
  clear hI
  go_simp
  try simp [upd]
  try first | exact Grows.refl _ | exact trivial | exact ⟨Grows.refl _, trivial⟩
 refine val_cons ?_ (fun v1 => ?_)
 ·intro L vs w1 hvs hat hb hI hF; try simp [factsI, Region.binds, Is] at hF
  have hc := (Grows.cells hb).1
  clear hI
  go_simp
  try simp [upd]
  try first | exact Grows.refl _ | exact trivial | exact ⟨Grows.refl _, trivial⟩
 refine val_cons ?_ (fun v2 => ?_)
 ·intro L vs w1 hvs hat hb hI hF; try simp [factsI, Region.binds, Is] at hF
  have hc := (Grows.cells hb).1
  clear hI
  go_simp
  try simp [upd]
  try first | exact Grows.refl _ | exact trivial | exact ⟨Grows.refl _, trivial⟩
 refine val_cons ?_ (fun v3 => ?_)
 ·intro L vs w1 hvs hat hb hI hF; try simp [factsI, Region.binds, Is] at hF
  have hc := (Grows.cells hb).1
  clear hI
  go_simp
  try simp [upd]
  try first | exact Grows.refl _ | exact trivial | exact ⟨Grows.refl _, trivial⟩
 refine val_cons ?_ (fun v4 => ?_)
 ·intro L vs w1 hvs hat hb hI hF; try simp [factsI, Region.binds, Is] at hF
  go_simp
  refine (HCb.out _).mono ?_
  rintro e w3 ⟨rfl, hb3⟩
  exact ⟨rfl, hb3⟩
 refine val_cons ?_ (fun v5 => ?_)
 ·intro L vs w1 hvs hat hb hI hF; try simp [factsI, Region.binds, Is] at hF
  have hc := (Grows.cells hb).1
  clear hI
  go_simp
  try simp [upd]
  try first | exact Grows.refl _ | exact trivial | exact ⟨Grows.refl _, trivial⟩
 refine val_cons ?_ (fun v6 => ?_)
 ·intro L vs w1 hvs hat hb hI hF; try simp [factsI, Region.binds, Is] at hF
  go_simp
  refine (HCa.out _).mono ?_
  rintro e w3 ⟨rfl, hb3⟩
  exact ⟨rfl, hb3⟩
 refine val_cons ?_ (fun v7 => ?_)
 ·intro L vs w1 hvs hat hb hI hF; try simp [factsI, Region.binds, Is] at hF
  go_simp
  first | exact ⟨Grows.refl _, hcn⟩ | exact Grows.refl _
 refine val_cons ?_ (fun v8 => ?_)
 ·intro L vs w1 hvs hat hb hI hF; try simp [factsI, Region.binds, Is] at hF
  have hc := (Grows.cells hb).1
  clear hI
  go_simp
  try simp [upd]
  try first | exact Grows.refl _ | exact trivial | exact ⟨Grows.refl _, trivial⟩
 refine val_nil ?_
 intro vs w1 hvs hb hI hF
 simp [Is, Nat.forall_lt_succ_right] at hF
 simp only [Act.put, List.setIfInBounds_toArray, List.set_cons_succ, List.set_cons_zero, hF]
 clear hF
 have hbz : Below w2.heap.size w2 w1 := hb
 have e1 : [] ++ frT a b 0 = F := by rw [List.nil_append]; exact HF0.out
 have e2 := HJ.out.1 _ _ _ HD.out.2.2.1 hbz
 have e3 := HD.out.2.2.2.1.grow hbz
 rw [show (#[.int .i64 l1, .int .i64 l2, .int .i64 l3, .int .i64 h1, .int .i64 h2, .int .i64 h3] : Array Value) = boxR (l1, l2, l3) (h1, h2, h3) from rfl, HLH.out.1, HLH.out.2] at e3
 have e4 := HD.out.1.grow hbz
 have e5 := HD.out.2.1.grow hbz
 have e6 := HD.out.2.2.2.2.grow hbz
 have e7 : W.heap.size ≤ w1.heap.size := Nat.le_trans hb2s hbz.size
 have HI0 := Lib.hid (And.intro e1 (And.intro e2 (FJ.mk e7 e4 e5 e3 e6)))
 clear e1 e2 e3 e4 e5 e6 e7
 clear hb ca la cb lb HD hbz hdc hb2s
 gi_wp2_with fail
 gi_loopw [28] (fun tv wx => ∃ (t : Nat) (pre : List (Mt × Sol)), t ≤ 24 ∧ tv = .int .i64 t ∧ Hid (pre ++ frT a b t = F ∧ J pre wx ∧ FJ W.heap.size a b ba bb b4 wx)) (fun tv _ => 24 - (intOf tv).toNat)
 case atStart => exact ⟨0, [], by omega, rfl, HI0⟩
 case round =>
  clear HI0
  obtain ⟨t, pre, ht, rfl, HI⟩ := hrel
  by_cases hlt : t < 24
  ·have hd : decide ((t : Int) < 24) = true := decide_eq_true (by omega)
   have HS := Lib.hid fun W (h : Tab W) => spun_spec b hlt W h
   have hP0 : spunS b t ≠ 0 := spun_ne HN.out.2 t
   have HPB := Lib.hid fun W h => bounds_some hP0 W h
   have hplin := co_in (loS_in hP0); have hphin := co_in (hiS_in hP0)
   have HTL : Hid (loT a b t = subC (l1, l2, l3) (loS (spunS b t)) ∧ hiT a b t = subC (h1, h2, h3) (hiS (spunS b t))) := Lib.hid (by rw [HLH.out.1, HLH.out.2]; unfold loT hiT; exact ⟨rfl, rfl⟩)
   obtain ⟨P, hP⟩ : ∃ P, P = spunS b t := ⟨_, rfl⟩
   rw [show imgS (turnC t) b = spunS b t by unfold spunS; rfl, ← hP] at HS
   rw [← hP] at HPB hplin hphin HTL
   have hple : (loS P).2.2 ≤ (hiS P).2.2 := by
    obtain ⟨c, hc⟩ := has_some (s := P) (by rw [hP]; exact hP0)
    have e1 : (loS P).2.2 ≤ c.2.2 := loS_le hc 2
    have e2 : c.2.2 ≤ (hiS P).2.2 := le_hiS hc 2
    omega
   obtain ⟨pl', hpl⟩ : ∃ l, l = loS P := ⟨_, rfl⟩
   obtain ⟨ph, hph⟩ : ∃ l, l = hiS P := ⟨_, rfl⟩
   rw [← hpl] at HPB hplin HTL hple
   rw [← hph] at HPB hphin HTL hple
   have HPP := Lib.hid (And.intro hP (And.intro hpl hph))
   obtain ⟨p1, p2, p3⟩ := pl'
   obtain ⟨q1, q2, q3⟩ := ph
   have hp1 : 0 ≤ p1 ∧ p1 ≤ 7 := hplin 0
   have hp2 : 0 ≤ p2 ∧ p2 ≤ 7 := hplin 1
   have hp3 : 0 ≤ p3 ∧ p3 ≤ 7 := hplin 2
   have hq1 : 0 ≤ q1 ∧ q1 ≤ 7 := hphin 0
   have hq2 : 0 ≤ q2 ∧ q2 ≤ 7 := hphin 1
   have hq3 : 0 ≤ q3 ∧ q3 ≤ 7 := hphin 2
   simp only at hple
   have cb := HI.out.2.2.sb.cell; have lb := HI.out.2.2.sb.lt
   clear hP0 hplin hphin hP hpl hph
   gi_wp2_with fail
   refine ⟨trivial, (callsIn_wide.2 (HS.out _ HI.out.2.2.tb)).mono ?_⟩
   rintro e w3 ⟨rfl, hb3⟩
   have HB3 := Lib.hid hb3
   clear cb lb hb3
   gi_wp2_with fail
   refine ⟨trivial, (callsIn_wide.2 (HPB.out _ (HI.out.2.2.tb.grow (bel_trans HB3.out (by repeat (first | with_reducible exact bel_refl _ | with_reducible assumption | with_reducible refine bel_drewN ?_ _ | with_reducible refine bel_drew ?_ | with_reducible refine bel_alloc ?_ _ | with_reducible refine bel_row ?_ ?_ _ | with_reducible refine bel_set ?_ ?_ _ | refine bel_trans ?_ (by with_reducible assumption) | (simp; done) | (simp; omega))))))).mono ?_⟩
   rintro e w4 ⟨rfl, hb4'⟩
   obtain ⟨b7, hb7⟩ : ∃ b, b = w3.heap.size := ⟨_, rfl⟩
   have B7 : Blk w4 b7 #[.int .u64 (pl P 0), .int .u64 (pl P 1), .int .u64 (pl P 2), .int .u64 (pl P 3), .int .u64 (pl P 4), .int .u64 (pl P 5), .int .u64 (pl P 6), .int .u64 (pl P 7), .int .i64 0, .int .i64 0, .int .i64 0, .int .i64 0, .int .i64 0, .int .i64 0] 151 := by rw [hb7]; exact Blk.grow (by repeat (first | with_reducible assumption | (refine Blk.at _ _ ?_; (simp; done)) | with_reducible refine Blk.alloc ?_ _ | with_reducible refine Blk.drew ?_ | with_reducible refine Blk.rowS ?_ _ | with_reducible refine Blk.rowO ?_ _ (by simp))) hb4'
   have hbr4 : Below wr.heap.size wr w4 := bel_trans (bel_trans HB3.out (by repeat (first | with_reducible exact bel_refl _ | with_reducible assumption | with_reducible refine bel_drewN ?_ _ | with_reducible refine bel_drew ?_ | with_reducible refine bel_alloc ?_ _ | with_reducible refine bel_row ?_ ?_ _ | with_reducible refine bel_set ?_ ?_ _ | refine bel_trans ?_ (by with_reducible assumption) | (simp; done) | (simp; omega)))) hb4'
   have hb7s : wr.heap.size ≤ b7 := by rw [hb7]; exact HB3.out.size
   have HB4 := Lib.hid (And.intro hbr4 B7)
   rw [show w3.heap.size = b7 from hb7.symm]
   have r7 := B7.row; have l7 := B7.lt
   rw [← B7.rw]
   clear B7 hb4' hbr4 hb7
   gi_upto_region 7 with fail
   obtain ⟨wc, hwc⟩ : ∃ wc, wc = w4.setRow b7 #[.int .u64 (pl P 0), .int .u64 (pl P 1), .int .u64 (pl P 2), .int .u64 (pl P 3), .int .u64 (pl P 4), .int .u64 (pl P 5), .int .u64 (pl P 6), .int .u64 (pl P 7), .int .i64 p1, .int .i64 p2, .int .i64 p3, .int .i64 q1, .int .i64 q2, .int .i64 q3] := ⟨_, rfl⟩
   have hbc : Below wr.heap.size wr wc := by rw [hwc]; exact bel_row HB4.out.1 hb7s _
   have HC : Hid (Below wr.heap.size wr wc ∧ Blk wc b7 #[.int .u64 (pl P 0), .int .u64 (pl P 1), .int .u64 (pl P 2), .int .u64 (pl P 3), .int .u64 (pl P 4), .int .u64 (pl P 5), .int .u64 (pl P 6), .int .u64 (pl P 7), .int .i64 p1, .int .i64 p2, .int .i64 p3, .int .i64 q1, .int .i64 q2, .int .i64 q3] 151) := Lib.hid (by rw [hwc]; exact And.intro (bel_row HB4.out.1 hb7s _) (HB4.out.2.rowS _))
   have c7 := HC.out.2.cell; have l7c := HC.out.2.lt
   rw [← hwc]
   clear hwc r7 l7 HB4 HB3 hbc
   refine wpIn_wide.2 ?_
   refine wp_region_val (Below wc.heap.size) (fun L vs W => TwoI wc.heap.size #[.int .i64 0, .int .i64 0, .int .i64 0] #[.int .i64 p1, .int .i64 p2, .int .i64 p3] #[.int .i64 0, .int .i64 0, .int .i64 0] #[.int .i64 q1, .int .i64 q2, .int .i64 q3] 60 (L 6) (L 7) (L 8) (L 9) (vs 6) (vs 7) W) [Is (.pointer (some ⟨b7, 8, none⟩)), Is (.pointer (some ⟨b7, 8, none⟩)), Is (.agg #[.int .i64 p1, .int .i64 p2, .int .i64 p3]), Is (.pointer (some ⟨b7, 8, none⟩)), Is (.pointer (some ⟨b7, 11, none⟩)), Is (.agg #[.int .i64 q1, .int .i64 q2, .int .i64 q3]), AnyV, AnyV, AnyV, AnyV] (by kernel_rfl) (by kernel_rfl) rfl (Below.refl wc.heap.size) (fun _ _ _ => Below.trans) (stable_mem ⟨fun _ _ _ h _ => h, fun _ _ _ h _ => h, fun _ _ _ h _ => h, fun _ _ _ h _ => h, fun _ _ _ h _ => h, fun _ _ _ h _ => h, fun _ _ _ h _ => h, fun _ _ _ h _ => h, fun _ _ _ h _ => h, fun _ _ _ h _ => h, trivial⟩) wc (Below.drew (Below.refl _ _)) (TwoI.start (Nat.le_refl _)) ?_
   refine val_cons ?_ (fun v0 => ?_)
   ·intro L vs w1 hvs hat hb hI hF; try simp [factsI, Region.binds, Is] at hF
    have hbg : Below wc.heap.size wc w1 := hb
    have HI2 := Lib.hid hI; clear hI
    have hc := (bcell hbg).1
    go_simp
    first | exact ⟨Below.refl _ _, HI2.out⟩ | exact HI2.out | exact ⟨HI2.out, trivial⟩ | exact ⟨Below.refl _ _, HI2.out, rfl⟩
   refine val_cons ?_ (fun v1 => ?_)
   ·intro L vs w1 hvs hat hb hI hF; try simp [factsI, Region.binds, Is] at hF
    have hbg : Below wc.heap.size wc w1 := hb
    have HI2 := Lib.hid hI; clear hI
    have hc := (bcell hbg).1
    go_simp
    first | exact ⟨Below.refl _ _, HI2.out⟩ | exact HI2.out | exact ⟨HI2.out, trivial⟩ | exact ⟨Below.refl _ _, HI2.out, rfl⟩
   refine val_cons ?_ (fun v2 => ?_)
   ·intro L vs w1 hvs hat hb hI hF; try simp [factsI, Region.binds, Is] at hF
    have hbg : Below wc.heap.size wc w1 := hb
    have HI2 := Lib.hid hI; clear hI
    have hc := (bcell hbg).1
    go_simp
    first | exact ⟨Below.refl _ _, HI2.out⟩ | exact HI2.out | exact ⟨HI2.out, trivial⟩ | exact ⟨Below.refl _ _, HI2.out, rfl⟩
   refine val_cons ?_ (fun v3 => ?_)
   ·intro L vs w1 hvs hat hb hI hF; try simp [factsI, Region.binds, Is] at hF
    have hbg : Below wc.heap.size wc w1 := hb
    have HI2 := Lib.hid hI; clear hI
    have hc := (bcell hbg).1
    go_simp
    first | exact ⟨Below.refl _ _, HI2.out⟩ | exact HI2.out | exact ⟨HI2.out, trivial⟩ | exact ⟨Below.refl _ _, HI2.out, rfl⟩
   refine val_cons ?_ (fun v4 => ?_)
   ·intro L vs w1 hvs hat hb hI hF; try simp [factsI, Region.binds, Is] at hF
    have hbg : Below wc.heap.size wc w1 := hb
    have HI2 := Lib.hid hI; clear hI
    have hc := (bcell hbg).1
    go_simp
    first | exact ⟨Below.refl _ _, HI2.out⟩ | exact HI2.out | exact ⟨HI2.out, trivial⟩ | exact ⟨Below.refl _ _, HI2.out, rfl⟩
   refine val_cons ?_ (fun v5 => ?_)
   ·intro L vs w1 hvs hat hb hI hF; try simp [factsI, Region.binds, Is] at hF
    have hbg : Below wc.heap.size wc w1 := hb
    have HI2 := Lib.hid hI; clear hI
    have hc := (bcell hbg).1
    go_simp
    first | exact ⟨Below.refl _ _, HI2.out⟩ | exact HI2.out | exact ⟨HI2.out, trivial⟩ | exact ⟨Below.refl _ _, HI2.out, rfl⟩
   refine val_cons ?_ (fun v6 => ?_)
   ·intro L vs w1 hvs hat hb hI hF; try simp [factsI, Region.binds, Is] at hF
    have h6 : L 6 = false := hat.self
    have h8 := hat.later 40 8 (by kernel_rfl)
    have HI2 := Lib.hid hI
    rw [h6, h8] at hI
    have HA2 := Lib.hid hI.alloc8
    have hle := hI.le
    clear hI
    go_simp
    refine ⟨below_allocN (Below.refl _ _) hle _, ?_, trivial⟩
    have := HA2.out
    simpa [upd, h8] using this
   refine val_cons ?_ (fun v7 => ?_)
   ·intro L vs w1 hvs hat hb hI hF; try simp [factsI, Region.binds, Is] at hF
    have h7 : L 7 = false := hat.self
    have h9 := hat.later 40 9 (by kernel_rfl)
    rw [h7, h9] at hI
    have HA2 := Lib.hid hI.alloc9
    have hle := hI.le
    clear hI
    go_simp
    refine ⟨below_allocN (Below.refl _ _) hle _, ?_, trivial⟩
    have := HA2.out
    simpa [upd, h9] using this
   refine val_cons ?_ (fun v8 => ?_)
   ·intro L vs w1 hvs hat hb hI hF; try simp [factsI, Region.binds, Is] at hF
    have h8 : L 8 = false := hat.self
    have h6 := hat.ahead 40 6 (by kernel_rfl)
    have hv6 : vs 6 = v6 := hvs 6 (by omega)
    have HI2 := Lib.hid hI
    rw [h6, h8, hv6] at hI
    obtain ⟨b8, e1, hle8, hB8⟩ := hI.fst rfl
    subst e1
    have hB8' : Blk w1 b8 #[.int .i64 0, .int .i64 0, .int .i64 0] 60 := hB8
    have HA2 := Lib.hid (hI.set8 hB8')
    have r8 := hB8'.row; have l8 := hB8'.lt
    have HLE := Lib.hid hle8
    rw [← hB8'.rw]
    clear hI hB8 hB8' HI2 hvs
    go_simp
    refine ⟨blw_rowsS HLE.out _ _, ?_, trivial⟩
    have := HA2.out
    simpa [upd, h6, hv6] using this
   refine val_cons ?_ (fun v9 => ?_)
   ·intro L vs w1 hvs hat hb hI hF; try simp [factsI, Region.binds, Is] at hF
    have h9 : L 9 = false := hat.self
    have h7 := hat.ahead 40 7 (by kernel_rfl)
    have hv7 : vs 7 = v7 := hvs 7 (by omega)
    rw [h7, h9, hv7] at hI
    obtain ⟨b8, e1, hle8, hB8⟩ := hI.snd rfl
    subst e1
    have hB8' : Blk w1 b8 #[.int .i64 0, .int .i64 0, .int .i64 0] 60 := hB8
    have HA2 := Lib.hid (hI.set9 hB8')
    have r8 := hB8'.row; have l8 := hB8'.lt
    have HLE := Lib.hid hle8
    rw [← hB8'.rw]
    clear hI hB8 hB8' hvs
    go_simp
    refine ⟨blw_rowsS HLE.out _ _, ?_, trivial⟩
    have := HA2.out
    simpa [upd, h7, hv7] using this
   refine val_nil ?_
   intro vs w1 hvs hb hI hF
   simp [Is, Nat.forall_lt_succ_right] at hF
   have e0 := hF.1.1.1.1.1.1.1.1.1
   have e1 := hF.1.1.1.1.1.1.1.1.2
   have e2 := hF.1.1.1.1.1.1.1.2
   have e3 := hF.1.1.1.1.1.1.2
   have e4 := hF.1.1.1.1.1.2
   have e5 := hF.1.1.1.1.2
   have e6 := hF.1.1.1.2
   have e7 := hF.1.1.2
   have e8 := hF.1.2
   have e9 := hF.2
   clear hF
   simp only [Act.put, List.setIfInBounds_toArray, List.set_cons_succ, List.set_cons_zero, e0, e1, e2, e3, e4, e5]
   clear e0 e1 e2 e3 e4 e5
   have hv6 : vs 6 = v6 := hvs 6 (by omega)
   have hv7 : vs 7 = v7 := hvs 7 (by omega)
   refine Veil.out ?_
   have hI2 : TwoI wc.heap.size #[.int .i64 0, .int .i64 0, .int .i64 0] #[.int .i64 p1, .int .i64 p2, .int .i64 p3] #[.int .i64 0, .int .i64 0, .int .i64 0] #[.int .i64 q1, .int .i64 q2, .int .i64 q3] 60 true true true true v6 v7 w1 := by rw [← hv6, ← hv7]; exact hI
   obtain ⟨b8, rfl, hb8, B8⟩ := hI2.fst rfl
   obtain ⟨b9, rfl, hb9, B9⟩ := hI2.snd rfl
   refine Veil.on ?_
   have B8' : Blk w1 b8 #[.int .i64 p1, .int .i64 p2, .int .i64 p3] 60 := B8
   have B9' : Blk w1 b9 #[.int .i64 q1, .int .i64 q2, .int .i64 q3] 60 := B9
   have hbg : Below wc.heap.size wc w1 := hb
   have hbr := bel_trans HC.out.1 hbg
   have B7' := HC.out.2.grow hbg
   clear hI hI2 hv6 hv7 hvs B8 B9 hb e6 e7 e8 e9
   have e1 : pre ++ frZ a b t (l3 - p3) = F := by
    rw [← HI.out.1, frT_step a b hlt, HTL.out.1]; rfl
   have e2 := HJ.out.1 _ _ _ HI.out.2.1 hbr
   have e3 := HI.out.2.2.bel hbr
   have e4 : FK W.heap.size P b7 b8 b9 w1 := by
    have s0 := HI.out.2.2.sz
    have s1 := HC.out.1.size
    refine ⟨⟨by omega, by omega, by omega⟩, ?_, ?_, ?_⟩
    ·rw [← HPP.out.2.1, ← HPP.out.2.2]; exact B7'
    ·rw [← HPP.out.2.1]; exact B8'
    ·rw [← HPP.out.2.2]; exact B9'
   have HZ0 := Lib.hid (And.intro e1 (And.intro e2 (And.intro e3 e4)))
   have HTL2 := Lib.hid (And.intro (show loT a b t = (l1 - p1, l2 - p2, l3 - p3) from HTL.out.1) (show hiT a b t = (h1 - q1, h2 - q2, h3 - q3) from HTL.out.2))
   clear e1 e2 e3 e4 hbr B7' B8' B9' hbg HC HI c7 l7c HS HPB hb8 hb9 hb7s
   have rm := HZ0.out.2.2.1.rm
   rw [← HLH.out.1, ← HLH.out.2] at rm
   have rl := HZ0.out.2.2.2.l
   rw [← HPP.out.2.1] at rl
   have crm := rm.cell; have lrm := rm.lt; have crl := rl.cell; have lrl := rl.lt
   have hwz : IntKind.i64.wrap (l3 - p3) = l3 - p3 := IntWalk.i64_in _ ⟨by omega, by omega⟩
   clear rm rl
   obtain ⟨wz0, hwz0⟩ : ∃ wz0, wz0 = w1 := ⟨_, rfl⟩
   rw [← hwz0] at HZ0 ⊢ crm lrm crl lrl
   clear hwz0
   gi_wp2_with fail
   clear crm lrm crl lrl hwz
   gi_loopw [10] (fun zv wx => ∃ (z : Int) (pre : List (Mt × Sol)), l3 - p3 ≤ z ∧ zv = .int .i64 z ∧ Hid (pre ++ frZ a b t z = F ∧ J pre wx ∧ FJ W.heap.size a b ba bb b4 wx ∧ FK W.heap.size P b7 b8 b9 wx)) (fun zv _ => (h3 - q3 + 1 - intOf zv).toNat)
   case atStart => exact ⟨l3 - p3, pre, by omega, rfl, HZ0⟩
   case round =>
    clear HZ0
    obtain ⟨z, preZ, hz, rfl, HZ⟩ := hrel
    obtain ⟨wz, hwz⟩ : ∃ wz, wz = wr := ⟨_, rfl⟩
    subst hwz
    have rm := HZ.out.2.2.1.rm
    rw [← HLH.out.1, ← HLH.out.2] at rm
    have rl := HZ.out.2.2.2.l
    rw [← HPP.out.2.1] at rl
    have rh := HZ.out.2.2.2.h
    rw [← HPP.out.2.2] at rh
    have crm := rm.cell; have lrm := rm.lt; have crl := rl.cell; have lrl := rl.lt; have crh := rh.cell; have lrh := rh.lt
    clear rm rl rh
    have hwh : IntKind.i64.wrap (h3 - q3) = h3 - q3 := IntWalk.i64_in _ ⟨by omega, by omega⟩
    by_cases hzl : z ≤ h3 - q3
    ·have hd3 : decide (z ≤ h3 - q3) = true := decide_eq_true hzl
     have hwy : IntKind.i64.wrap (l2 - p2) = l2 - p2 := IntWalk.i64_in _ ⟨by omega, by omega⟩
     have HY0 : Hid (preZ ++ frY a b t z (l2 - p2) = F) := Lib.hid (by
      have := HZ.out.1
      rw [frZ_step (show z ≤ (hiT a b t).2.2 by rw [HTL2.out.2]; exact hzl), HTL2.out.1] at this
      exact this)
     gi_wp2_with fail
     clear crm lrm crl lrl crh lrh hwh hd3 hwy
     gi_loopw [11] (fun yv wx => ∃ (y : Int) (pre : List (Mt × Sol)), l2 - p2 ≤ y ∧ yv = .int .i64 y ∧ Hid (pre ++ frY a b t z y = F ∧ J pre wx ∧ FJ W.heap.size a b ba bb b4 wx ∧ FK W.heap.size P b7 b8 b9 wx)) (fun yv _ => (h2 - q2 + 1 - intOf yv).toNat)
     case atStart => exact ⟨l2 - p2, preZ, by omega, rfl, Lib.hid ⟨HY0.out, HZ.out.2⟩⟩
     case round =>
      clear HZ HY0
      obtain ⟨y, preY, hy', rfl, HYY⟩ := hrel
      obtain ⟨wy, hwy⟩ : ∃ wy, wy = wr := ⟨_, rfl⟩
      subst hwy
      have rm := HYY.out.2.2.1.rm
      rw [← HLH.out.1, ← HLH.out.2] at rm
      have rl := HYY.out.2.2.2.l
      rw [← HPP.out.2.1] at rl
      have rh := HYY.out.2.2.2.h
      rw [← HPP.out.2.2] at rh
      have crm := rm.cell; have lrm := rm.lt; have crl := rl.cell; have lrl := rl.lt; have crh := rh.cell; have lrh := rh.lt
      clear rm rl rh
      have hwh : IntKind.i64.wrap (h2 - q2) = h2 - q2 := IntWalk.i64_in _ ⟨by omega, by omega⟩
      by_cases hyl : y ≤ h2 - q2
      ·have hd3 : decide (y ≤ h2 - q2) = true := decide_eq_true hyl
       have hwx : IntKind.i64.wrap (l1 - p1) = l1 - p1 := IntWalk.i64_in _ ⟨by omega, by omega⟩
       have HX0 : Hid (preY ++ frX a b t z y (l1 - p1) = F) := Lib.hid (by
        have := HYY.out.1
        rw [frY_step (show y ≤ (hiT a b t).2.1 by rw [HTL2.out.2]; exact hyl), HTL2.out.1] at this
        exact this)
       gi_wp2_with fail
       clear crm lrm crl lrl crh lrh hwh hd3 hwx
       gi_loopw [12] (fun xv wx => ∃ (x : Int) (pre : List (Mt × Sol)), l1 - p1 ≤ x ∧ xv = .int .i64 x ∧ Hid (pre ++ frX a b t z y x = F ∧ J pre wx ∧ FJ W.heap.size a b ba bb b4 wx ∧ FK W.heap.size P b7 b8 b9 wx)) (fun xv _ => (h1 - q1 + 1 - intOf xv).toNat)
       case atStart => exact ⟨l1 - p1, preY, by omega, rfl, Lib.hid ⟨HX0.out, HYY.out.2⟩⟩
       case round =>
        clear HYY HX0
        obtain ⟨x, preX, hx', rfl, HXX⟩ := hrel
        have rm := HXX.out.2.2.1.rm
        rw [← HLH.out.1, ← HLH.out.2] at rm
        have rl := HXX.out.2.2.2.l
        rw [← HPP.out.2.1] at rl
        have rh := HXX.out.2.2.2.h
        rw [← HPP.out.2.2] at rh
        have crm := rm.cell; have lrm := rm.lt; have crl := rl.cell; have lrl := rl.lt; have crh := rh.cell; have lrh := rh.lt
        clear rm rl rh
        have hwh : IntKind.i64.wrap (h1 - q1) = h1 - q1 := IntWalk.i64_in _ ⟨by omega, by omega⟩
        by_cases hxl : x ≤ h1 - q1
        ·have hd3 : decide (x ≤ h1 - q1) = true := decide_eq_true hxl
         have hlift := lift_room HN.out.1 HN.out.2 (t := t) (x := x) (y := y) (z := z) (by rw [HTL2.out.1, HTL2.out.2]; exact ⟨hx', hxl⟩) (by rw [HTL2.out.1, HTL2.out.2]; exact ⟨hy', hyl⟩) (by rw [HTL2.out.1, HTL2.out.2]; exact ⟨hz, hzl⟩)
         rw [← HPP.out.1, ← HPP.out.2.1, ← HPP.out.2.2] at hlift
         have HLI := Lib.hid fun W => lifted_spec P (p1, p2, p3) (q1, q2, q3) x y z (by omega) (by omega) hp3.1 hple hq3.2 (by simp only; omega) (by simp only; omega) W
         rw [hlift] at HLI
         obtain ⟨S, hS⟩ : ∃ S, S = imgS (movC (x, y, z)) P := ⟨_, rfl⟩
         rw [← hS] at HLI
         have HIn := Lib.hid fun W => sin_spec S a W
         obtain ⟨q, hq⟩ : ∃ q, q = subS S a := ⟨_, rfl⟩
         rw [show (S &&& a == S) = subS S a from rfl, ← hq] at HIn
         have HSQ := Lib.hid (And.intro hS hq)
         have pp := HXX.out.2.2.2.p
         rw [← HPP.out.2.1, ← HPP.out.2.2] at pp
         have cpp := pp.cell; have lpp := pp.lt
         clear hlift hS hq pp
         gi_wp2_with fail
         refine ⟨trivial, (callsIn_wide.2 (HLI.out _)).mono ?_⟩
         rintro e w5 ⟨rfl, hb5⟩
         obtain ⟨w6, hw6⟩ : ∃ w6, w6 = w5.alloc (.cells #[.int .u64 (pl S 0), .int .u64 (pl S 1), .int .u64 (pl S 2), .int .u64 (pl S 3), .int .u64 (pl S 4), .int .u64 (pl S 5), .int .u64 (pl S 6), .int .u64 (pl S 7)] 26) := ⟨_, rfl⟩
         have hb6 : Below wr.heap.size wr w6 := by rw [hw6]; exact bel_alloc hb5 _
         have B13 : Blk w6 w5.heap.size #[.int .u64 (pl S 0), .int .u64 (pl S 1), .int .u64 (pl S 2), .int .u64 (pl S 3), .int .u64 (pl S 4), .int .u64 (pl S 5), .int .u64 (pl S 6), .int .u64 (pl S 7)] 26 := by rw [hw6]; exact Blk.new _ _ _
         have HW6 := Lib.hid (And.intro hw6 (And.intro B13 (And.intro (HJ.out.1 _ _ _ HXX.out.2.1 hb6) (And.intro (HXX.out.2.2.1.bel hb6) (HXX.out.2.2.2.bel hb6)))))
         have c13 := B13.cell; have l13 := B13.lt
         have ca := HW6.out.2.2.2.1.sa.cell; have la := HW6.out.2.2.2.1.sa.lt
         clear hw6 hb6 hb5 B13 crm lrm crl lrl crh lrh cpp lpp hwh
         gi_upto_region 18 with fail
         rw [← HW6.out.1]
         skip
         gi_wp2_with fail
         refine ⟨trivial, (callsIn_wide.2 (HIn.out _)).mono ?_⟩
         rintro e w7 ⟨rfl, hb7'⟩
         have HW7 := Lib.hid (And.intro (HJ.out.1 _ _ _ HW6.out.2.2.1 hb7') (And.intro (HW6.out.2.2.2.1.bel hb7') (And.intro (HW6.out.2.2.2.2.bel hb7') (HW6.out.2.1.grow hb7'))))
         clear hb7' ca la c13 l13
         have c13 := HW7.out.2.2.2.cell; have l13 := HW7.out.2.2.2.lt
         cases q with
         | false =>
          have HE : Hid (preX ++ frX a b t z y (x + 1) = F) := Lib.hid (by
           have := HXX.out.1
           rw [frX_step (show x ≤ (hiT a b t).1 by rw [HTL2.out.2]; exact hxl)] at this
           have e0 : tryX a (spunS b t) t z y x = [] := by
            unfold tryX
            rw [← HPP.out.1, ← HSQ.out.1, ← HSQ.out.2]; rfl
           rw [e0] at this
           exact this)
          gi_wp2_with fail
          refine ⟨fun f hf => (by cases hf), ?_⟩
          gi_wp2_with fail
          go_roundw
          case rel => exact ⟨x + 1, preX, by omega, by go_num, Lib.hid ⟨HE.out, HW7.out.1, HW7.out.2.1, HW7.out.2.2.1⟩⟩
          case measure => simp [intOf]; omega
         | true =>
          have HE : Hid (preX ++ (((t, (x, y, z)), S) :: frX a b t z y (x + 1)) = F) := Lib.hid (by
           have := HXX.out.1
           rw [frX_step (show x ≤ (hiT a b t).1 by rw [HTL2.out.2]; exact hxl)] at this
           have e0 : tryX a (spunS b t) t z y x = [((t, (x, y, z)), S)] := by
            unfold tryX
            rw [← HPP.out.1, ← HSQ.out.1, ← HSQ.out.2]; rfl
           rw [e0] at this
           exact this)
          obtain ⟨fn, tm, asg, bdy, hy2, hR⟩ := HJ.out.2.2 preX ((t, (x, y, z)), S) w7 HW7.out.1 (by have := HW7.out.2.1.sz; omega) (by rw [← HE.out, List.length_append]; simp)
          have HR := Lib.hid hR
          clear hR
          try dsimp only at hy2
          gi_wp2_with fail
          refine HR.out.mono ?_
          rintro e W4 (⟨rfl, hJ4, hk4⟩ | ⟨rfl, hJx4⟩)
          ·have HK4 := Lib.hid (And.intro hJ4 (And.intro (HW7.out.2.1.keep hk4 HA.out.2.2.2 hb4s) (HW7.out.2.2.1.keep hk4 HA.out.2.2.2)))
           clear hJ4 hk4 hy2
           gi_wp2_with fail
           go_roundw
           case rel => exact ⟨x + 1, preX ++ [((t, (x, y, z)), S)], by omega, by go_num, Lib.hid ⟨by rw [List.append_assoc]; exact HE.out, HK4.out⟩⟩
           case measure => simp [intOf]; omega
          ·have HX4 := Lib.hid hJx4
           clear hJx4
           gi_wp2_with fail
           refine bodyPost_ret (v := .tuple #[]) (by simp [results, Tryz.results155, go_sem]) rfl ⟨⟨_, rfl⟩, .inr ⟨preX ++ [((t, (x, y, z)), S)], ?_, HX4.out⟩⟩
           exact ⟨frX a b t z y (x + 1), by rw [List.append_assoc]; exact HE.out⟩
        ·have hd3 : decide (x ≤ h1 - q1) = false := decide_eq_false hxl
         have HE : Hid (preX ++ frY a b t z (y + 1) = F) := Lib.hid (by
          have := HXX.out.1
          rw [frX_end (show (hiT a b t).1 < x by rw [HTL2.out.2]; show h1 - q1 < x; omega)] at this
          exact this)
         gi_wp2_with fail
         go_roundw
         case rel => exact ⟨y + 1, preX, by omega, by go_num, Lib.hid ⟨HE.out, HXX.out.2⟩⟩
         case measure => simp [intOf]; omega
      ·have hd3 : decide (y ≤ h2 - q2) = false := decide_eq_false hyl
       have HE : Hid (preY ++ frZ a b t (z + 1) = F) := Lib.hid (by
        have := HYY.out.1
        rw [frY_end (show (hiT a b t).2.1 < y by rw [HTL2.out.2]; show h2 - q2 < y; omega)] at this
        exact this)
       gi_wp2_with fail
       go_roundw
       case rel => exact ⟨z + 1, preY, by omega, by go_num, Lib.hid ⟨HE.out, HYY.out.2⟩⟩
       case measure => simp [intOf]; omega
    ·have hd3 : decide (z ≤ h3 - q3) = false := decide_eq_false hzl
     have HE : Hid (preZ ++ frT a b (t + 1) = F) := Lib.hid (by
      have := HZ.out.1
      rw [frZ_end (show (hiT a b t).2.2 < z by rw [HTL2.out.2]; show h3 - q3 < z; omega)] at this
      exact this)
     gi_wp2_with fail
     go_roundw
     case rel => exact ⟨t + 1, preZ, by omega, by go_num, Lib.hid ⟨HE.out, HZ.out.2.1, HZ.out.2.2.1⟩⟩
     case measure => simp [intOf]; omega
  ·obtain rfl : t = 24 := by omega
   have hd : decide (((24 : Nat) : Int) < 24) = false := by decide
   have hE := HI.out.1
   rw [frT_end, List.append_nil] at hE
   have HE := Lib.hid hE
   clear hE
   gi_wp2_with fail
   go_end0
   exact ⟨⟨_, rfl⟩, .inl ⟨pre, HE.out, HI.out.2.1⟩⟩
end Go.Proofs.YtkfimbonmnoglaaGreatDoor
end
