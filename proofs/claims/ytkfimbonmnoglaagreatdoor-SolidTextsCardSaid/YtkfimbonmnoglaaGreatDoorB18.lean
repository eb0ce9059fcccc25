import Derived.Test.YtkfimbonmnoglaaGreatDoorB17
import Derived.Deep.Cut
/-
  Given contracts of functions of the program, and laws for them, one behind the other.
-/
set_option linter.unusedVariables false
set_option linter.unusedSimpArgs false
set_option linter.unusedSectionVars false
section
namespace Go.Proofs.YtkfimbonmnoglaaGreatDoor
open Go.RowKit Go.Rel Go.Draw Go.Solid
set_option maxRecDepth 100000
attribute [local go_sem] Oper.semAt_some
set_option maxHeartbeats 2000000 in
theorem fits1_zero {n : Nat} (hn : 1 ≤ n) (lp : Nat) {W : World} (a b : Sol) (ha : a = 0) {ba bb : Nat} (hba : Blk W ba #[.int .u64 (pl a 0), .int .u64 (pl a 1), .int .u64 (pl a 2), .int .u64 (pl a 3), .int .u64 (pl a 4), .int .u64 (pl a 5), .int .u64 (pl a 6), .int .u64 (pl a 7)] 26) (J Jx : List (Mt × Sol) → World → Prop) (hJ : ∀ pre W1 W2, J pre W1 → Below W1.heap.size W1 W2 → J pre W2) (h0 : J [] W) :
  CallsIn Fence.wide n Tryz.prog 155 #[.func (.yield lp) #[] #[], .pointer (some ⟨ba, 0, none⟩), .pointer (some ⟨bb, 0, none⟩)] W fun e W' => (∃ v, e = .returned v) ∧ ((∃ xs, xs = fitsL a b ∧ J xs W') ∨ (∃ pre, pre <+: fitsL a b ∧ Jx pre W')) := by
 have HF := Lib.hid (show [] = fitsL a b by unfold fitsL; rw [if_pos (.inl ha)])
 obtain ⟨F, hF⟩ : ∃ F, F = fitsL a b := ⟨_, rfl⟩
 rw [← hF] at HF ⊢
 have HB := Lib.hid fun W => bounds_zero ha W
 have HJ := Lib.hid (And.intro hJ h0)
 have ca := hba.cell; have la := hba.lt
 clear ha hba hJ h0 hF
 refine callsIn_of_wp Tryz.func155 rfl trivial ?_ rfl
 simp only [Tryz.ntmps155, List.size_toArray, List.length_cons, List.length_nil, Nat.reduceAdd, Nat.reduceSub, Array.replicate_succ, Array.replicate_zero, List.push_toArray, List.append_toArray, List.nil_append, List.cons_append]
 refine wpIn_wide.2 ?_
 go_wp2_with fail
 refine (HB.out _).mono ?_
 rintro e w1 ⟨rfl, hb1⟩
 have HJ1 := Lib.hid (HJ.out.1 _ _ _ HJ.out.2 hb1)
 clear ca la hb1
 go_wp2_with fail
 obtain ⟨w2, hw2⟩ : ∃ w2, w2 = w1.alloc (.cells #[.int .i64 0, .int .i64 0, .int .i64 0, .int .i64 0, .int .i64 0, .int .i64 0] 62) := ⟨_, rfl⟩
 have HJ2 : Hid (J [] w2) := Lib.hid (by rw [hw2]; exact HJ.out.1 _ _ _ HJ1.out (bel_alloc (bel_refl _) _))
 rw [← hw2]
 clear hw2
 refine wp_region_val Grows (fun _ _ _ => True) [Is (.bool false), Is (.bool true), Is (.bool true), AnyV, AnyV, AnyV, AnyV, AnyV, Is (.bool true)] (by kernel_rfl) (by kernel_rfl) rfl Grows.refl (fun _ _ _ => Grows.trans) (stable_mem ⟨fun _ _ _ h _ => h, fun _ _ _ h _ => h, fun _ _ _ h _ => h, fun _ _ _ h _ => h, fun _ _ _ h _ => h, fun _ _ _ h _ => h, fun _ _ _ h _ => h, fun _ _ _ h _ => h, fun _ _ _ h _ => h, trivial⟩) w2 (Below.drew (Below.refl _ _)) trivial ?_
 refine val_cons ?_ (fun v0 => ?_)
 ·intro L vs w1 hvs hat hb hI hF; try simp [factsI, Region.binds, Is] at hF
  have hc := (Grows.cells hb).1
  clear hI
  go_simp
  try simp [upd]
  try first | exact Grows.refl _ | exact trivial | exact ⟨Grows.refl _, trivial⟩
 refine val_cons ?_ (fun v1 => ?_)
 ·intro L vs w1 hvs hat hb hI hF; try simp [factsI, Region.binds, Is] at hF
  have hc := (Grows.cells hb).1
  clear hI
  go_simp
  try simp [upd]
  try first | exact Grows.refl _ | exact trivial | exact ⟨Grows.refl _, trivial⟩
 refine val_cons ?_ (fun v2 => ?_)
 ·intro L vs w1 hvs hat hb hI hF; try simp [factsI, Region.binds, Is] at hF
  have hc := (Grows.cells hb).1
  clear hI
  go_simp
  try simp [upd]
  try first | exact Grows.refl _ | exact trivial | exact ⟨Grows.refl _, trivial⟩
 refine val_cons ?_ (fun v3 => ?_)
 ·intro L vs w1 hvs hat hb hI hF; try simp [factsI, Region.binds, Is] at hF
  have hc := (Grows.cells hb).1
  clear hI
  go_simp
  try simp [upd]
  try first | exact Grows.refl _ | exact trivial | exact ⟨Grows.refl _, trivial⟩
 refine val_cons ?_ (fun v4 => ?_)
 ·intro L vs w1 hvs hat hb hI hF; try simp [factsI, Region.binds, Is] at hF
  have hc := (Grows.cells hb).1
  clear hI
  go_simp
  try simp [upd]
  try first | exact Grows.refl _ | exact trivial | exact ⟨Grows.refl _, trivial⟩
 refine val_cons ?_ (fun v5 => ?_)
 ·intro L vs w1 hvs hat hb hI hF; try simp [factsI, Region.binds, Is] at hF
  have hc := (Grows.cells hb).1
  clear hI
  go_simp
  try simp [upd]
  try first | exact Grows.refl _ | exact trivial | exact ⟨Grows.refl _, trivial⟩
 refine val_cons ?_ (fun v6 => ?_)
 ·intro L vs w1 hvs hat hb hI hF; try simp [factsI, Region.binds, Is] at hF
  have hc := (Grows.cells hb).1
  clear hI
  go_simp
  try simp [upd]
  try first | exact Grows.refl _ | exact trivial | exact ⟨Grows.refl _, trivial⟩
 refine val_cons ?_ (fun v7 => ?_)
 ·intro L vs w1 hvs hat hb hI hF; try simp [factsI, Region.binds, Is] at hF
  have hc := (Grows.cells hb).1
  clear hI
  go_simp
  try simp [upd]
  try first | exact Grows.refl _ | exact trivial | exact ⟨Grows.refl _, trivial⟩
 refine val_cons ?_ (fun v8 => ?_)
 ·intro L vs w1 hvs hat hb hI hF; try simp [factsI, Region.binds, Is] at hF
  have hc := (Grows.cells hb).1
  clear hI
  go_simp
  try simp [upd]
  try first | exact Grows.refl _ | exact trivial | exact ⟨Grows.refl _, trivial⟩
 refine val_nil ?_
 intro vs w1 hvs hb hI hF
 simp [Is, Nat.forall_lt_succ_right] at hF
 have e0 := hF.1.1.1.1.1.1.1.1
 have e1 := hF.1.1.1.1.1.1.1.2
 have e2 := hF.1.1.1.1.1.1.2
 have e3 := hF.1.1.1.1.1.2
 have e4 := hF.1.1.1.1.2
 have e5 := hF.1.1.1.2
 have e6 := hF.1.1.2
 have e7 := hF.1.2
 have e8 := hF.2
 clear hF
 simp only [Act.put, List.setIfInBounds_toArray, List.set_cons_succ, List.set_cons_zero, e0, e1, e2, e8]
 clear e0 e1 e2 e8
 have HJ3 := Lib.hid (HJ.out.1 _ _ _ HJ2.out hb)
 clear hb e3 e4 e5 e6 e7
 go_wp2_with fail
 refine bodyPost_ret (v := .tuple #[]) (by simp [results, Tryz.results155, go_sem]) rfl ⟨⟨_, rfl⟩, .inl ⟨[], HF.out, HJ3.out⟩⟩
set_option maxHeartbeats 2000000 in
theorem fits1_few {n : Nat} (hn : 1 ≤ n) (lp : Nat) {W : World} (a b : Sol) (ha : a ≠ 0) (hc : countS a < countS b) {ba bb : Nat} (hba : Blk W ba #[.int .u64 (pl a 0), .int .u64 (pl a 1), .int .u64 (pl a 2), .int .u64 (pl a 3), .int .u64 (pl a 4), .int .u64 (pl a 5), .int .u64 (pl a 6), .int .u64 (pl a 7)] 26) (hbb : Blk W bb #[.int .u64 (pl b 0), .int .u64 (pl b 1), .int .u64 (pl b 2), .int .u64 (pl b 3), .int .u64 (pl b 4), .int .u64 (pl b 5), .int .u64 (pl b 6), .int .u64 (pl b 7)] 26) (hT : Tab W) (J Jx : List (Mt × Sol) → World → Prop) (hJ : ∀ pre W1 W2, J pre W1 → Below W1.heap.size W1 W2 → J pre W2) (h0 : J [] W) :
  CallsIn Fence.wide n Tryz.prog 155 #[.func (.yield lp) #[] #[], .pointer (some ⟨ba, 0, none⟩), .pointer (some ⟨bb, 0, none⟩)] W fun e W' => (∃ v, e = .returned v) ∧ ((∃ xs, xs = fitsL a b ∧ J xs W') ∨ (∃ pre, pre <+: fitsL a b ∧ Jx pre W')) := by
 have HF := Lib.hid (show [] = fitsL a b by unfold fitsL; rw [if_pos (.inr hc)])
 obtain ⟨F, hF⟩ : ∃ F, F = fitsL a b := ⟨_, rfl⟩
 rw [← hF] at HF ⊢
 have HB := Lib.hid fun W h => bounds_some ha W h
 have HCa := Lib.hid fun W => count_spec a W
 have HCb := Lib.hid fun W => count_spec b W
 obtain ⟨na, hna⟩ : ∃ n, n = countS a := ⟨_, rfl⟩
 obtain ⟨nb, hnb⟩ : ∃ n, n = countS b := ⟨_, rfl⟩
 rw [← hna] at HCa hc; rw [← hnb] at HCb hc
 have hdc : decide ((na : Int) < (nb : Int)) = true := decide_eq_true (by omega)
 have HJ := Lib.hid (And.intro hJ h0)
 have ca := hba.cell; have la := hba.lt
 have HA := Lib.hid (And.intro hba (And.intro hbb hT))
 clear ha hba hbb hJ h0 hF hna hnb hT
 refine callsIn_of_wp Tryz.func155 rfl trivial ?_ rfl
 simp only [Tryz.ntmps155, List.size_toArray, List.length_cons, List.length_nil, Nat.reduceAdd, Nat.reduceSub, Array.replicate_succ, Array.replicate_zero, List.push_toArray, List.append_toArray, List.nil_append, List.cons_append]
 refine wpIn_wide.2 ?_
 go_wp2_with fail
 refine (HB.out _ HA.out.2.2).mono ?_
 rintro e w1 ⟨rfl, hb1⟩
 obtain ⟨w2, hw2⟩ : ∃ w2, w2 = w1.alloc (.cells (boxR (loS a) (hiS a)) 62) := ⟨_, rfl⟩
 have hb2 : Below W.heap.size W w2 := by rw [hw2]; exact bel_alloc hb1 _
 have HD := Lib.hid (And.intro (HA.out.1.grow hb2) (And.intro (HA.out.2.1.grow hb2) (HJ.out.1 _ _ _ HJ.out.2 hb2)))
 have HW2 := Lib.hid hw2
 clear ca la hb1 hw2 hb2
 have ca := HD.out.1.cell; have la := HD.out.1.lt; have cb := HD.out.2.1.cell; have lb := HD.out.2.1.lt
 go_upto_region 1 with fail
 rw [show w1.alloc (.cells (boxR (loS a) (hiS a)) 62) = w2 from HW2.out.symm]
 refine wp_region_val Grows (fun _ _ _ => True) [Is (.bool true), Is (.bool false), Is (.bool false), Is (solV b), Is (.int .i64 (nb : Int)), Is (solV a), Is (.int .i64 (na : Int)), Is (.bool true), Is (.bool true)] (by kernel_rfl) (by kernel_rfl) rfl Grows.refl (fun _ _ _ => Grows.trans) (stable_mem ⟨fun _ _ _ h _ => h, fun _ _ _ h _ => h, fun _ _ _ h _ => h, fun _ _ _ h _ => h, fun _ _ _ h _ => h, fun _ _ _ h _ => h, fun _ _ _ h _ => h, fun _ _ _ h _ => h, fun _ _ _ h _ => h, trivial⟩) w2 (Below.drew (Below.refl _ _)) trivial ?_
 refine val_cons ?_ (fun v0 => ?_)
 ·intro L vs w1 hvs hat hb hI hF; try simp [factsI, Region.binds, Is] at hF
  have hc := (Grows.cells hb).1
  clear hI
  go_simp
  try simp [upd]
  try first | exact Grows.refl _ | exact trivial | exact ⟨Grows.refl _, trivial⟩
 refine val_cons ?_ (fun v1 => ?_)
 ·intro L vs w1 hvs hat hb hI hF; try simp [factsI, Region.binds, Is] at hF
  have hc := (Grows.cells hb).1
  clear hI
  go_simp
  try simp [upd]
  try first | exact Grows.refl _ | exact trivial | exact ⟨Grows.refl _, trivial⟩
 refine val_cons ?_ (fun v2 => ?_)
 ·intro L vs w1 hvs hat hb hI hF; try simp [factsI, Region.binds, Is] at hF
  have hc := (Grows.cells hb).1
  clear hI
  go_simp
  try simp [upd]
  try first | exact Grows.refl _ | exact trivial | exact ⟨Grows.refl _, trivial⟩
 refine val_cons ?_ (fun v3 => ?_)
 ·intro L vs w1 hvs hat hb hI hF; try simp [factsI, Region.binds, Is] at hF
  have hc := (Grows.cells hb).1
  clear hI
  go_simp
  try simp [upd]
  try first | exact Grows.refl _ | exact trivial | exact ⟨Grows.refl _, trivial⟩
 refine val_cons ?_ (fun v4 => ?_)
 ·intro L vs w1 hvs hat hb hI hF; try simp [factsI, Region.binds, Is] at hF
  go_simp
  refine (HCb.out _).mono ?_
  rintro e w3 ⟨rfl, hb3⟩
  exact ⟨rfl, hb3⟩
 refine val_cons ?_ (fun v5 => ?_)
 ·intro L vs w1 hvs hat hb hI hF; try simp [factsI, Region.binds, Is] at hF
  have hc := (Grows.cells hb).1
  clear hI
  go_simp
  try simp [upd]
  try first | exact Grows.refl _ | exact trivial | exact ⟨Grows.refl _, trivial⟩
 refine val_cons ?_ (fun v6 => ?_)
 ·intro L vs w1 hvs hat hb hI hF; try simp [factsI, Region.binds, Is] at hF
  go_simp
  refine (HCa.out _).mono ?_
  rintro e w3 ⟨rfl, hb3⟩
  exact ⟨rfl, hb3⟩
 refine val_cons ?_ (fun v7 => ?_)
 ·intro L vs w1 hvs hat hb hI hF; try simp [factsI, Region.binds, Is] at hF
  have hc := (Grows.cells hb).1
  clear hI
  go_simp
  try simp [upd]
  try first | exact Grows.refl _ | exact trivial | exact ⟨Grows.refl _, trivial⟩
 refine val_cons ?_ (fun v8 => ?_)
 ·intro L vs w1 hvs hat hb hI hF; try simp [factsI, Region.binds, Is] at hF
  have hc := (Grows.cells hb).1
  clear hI
  go_simp
  try simp [upd]
  try first | exact Grows.refl _ | exact trivial | exact ⟨Grows.refl _, trivial⟩
 refine val_nil ?_
 intro vs w1 hvs hb hI hF
 simp [Is, Nat.forall_lt_succ_right] at hF
 simp only [Act.put, List.setIfInBounds_toArray, List.set_cons_succ, List.set_cons_zero, hF]
 clear hF
 have HJ3 := Lib.hid (HJ.out.1 _ _ _ HD.out.2.2 hb)
 clear hb ca la cb lb
 go_wp2_with fail
 refine bodyPost_ret (v := .tuple #[]) (by simp [results, Tryz.results155, go_sem]) rfl ⟨⟨_, rfl⟩, .inl ⟨[], HF.out, HJ3.out⟩⟩
end Go.Proofs.YtkfimbonmnoglaaGreatDoor
end
