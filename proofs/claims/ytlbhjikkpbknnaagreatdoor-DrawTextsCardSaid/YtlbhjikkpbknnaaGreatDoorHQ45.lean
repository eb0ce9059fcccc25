import Derived.Test.YtlbhjikkpbknnaaGreatDoorHQ44
import Derived.Laws.IdiomStrings
/-
  Given contracts of functions of the program, and laws for them, one behind the other.
-/
set_option linter.unusedVariables false
set_option linter.unusedSimpArgs false
set_option linter.unusedSectionVars false
section
namespace Go.Proofs.YtlbhjikkpbknnaaGreatDoor
open Go.RowKit Go.Rel Go.Draw
set_option maxRecDepth 100000
/-! Write of the reference -/
theorem conv_one (w : World) (d : UInt8) : (convert 180 9 (.slice (some ⟨w.heap.size, 0, none⟩) 1 1)).run Tryz.prog (w.alloc (.cells #[.int .u8 (d.toNat : Int)] 5)) = .ok (.string ⟨#[d]⟩) (w.alloc (.cells #[.int .u8 (d.toNat : Int)] 5)) :=
 run_convert_bytes_back (P := Tryz.prog) (w.alloc (.cells #[.int .u8 (d.toNat : Int)] 5)) 180 9 5 ⟨w.heap.size, 0, none⟩ 1 [d] Tryz.underlying180 Tryz.underlying5 Tryz.underlying9 (fun j hj => by
  have : j = 0 := by simpa using hj
  subst this
  exact (Blk.new w #[.int .u8 (d.toNat : Int)] 5).cell 0)
set_option maxHeartbeats 4000000 in
theorem num_one {w : World} {k : Nat} (hk : k < 10) : Calls Tryz.prog 113 #[.int .i64 (k : Int)] w fun e w' => e = .returned (bsV (Lib.decDigits k)) ∧ Below w.heap.size w w' := by
 rw [show Lib.decDigits k = [UInt8.ofNat (48 + k)] by rw [Lib.decDigits, dif_pos hk]]
 obtain rfl | rfl | rfl | rfl | rfl | rfl | rfl | rfl | rfl | rfl : k = 0 ∨ k = 1 ∨ k = 2 ∨ k = 3 ∨ k = 4 ∨ k = 5 ∨ k = 6 ∨ k = 7 ∨ k = 8 ∨ k = 9 := by omega
 ·have hcv : (convert 180 9 (.slice (some ⟨w.heap.size, 0, none⟩) 1 1)).run Tryz.prog (w.alloc (.cells #[.int .u8 48] 5)) = .ok (.string ⟨#[48]⟩) (w.alloc (.cells #[.int .u8 48] 5)) := conv_one w 48
  clear hk
  go_enter Tryz.func113, Tryz.ntmps113
  go_wp2_with fail
  go_ret
  exact ⟨rfl, (by repeat (first | with_reducible exact bel_refl _ | with_reducible assumption | with_reducible refine bel_drewN ?_ _ | with_reducible refine bel_drew ?_ | with_reducible refine bel_alloc ?_ _ | with_reducible refine bel_row ?_ ?_ _ | with_reducible refine bel_set ?_ ?_ _ | refine bel_trans ?_ (by with_reducible assumption) | (simp; done) | (simp; omega)))⟩
 ·have hcv : (convert 180 9 (.slice (some ⟨w.heap.size, 0, none⟩) 1 1)).run Tryz.prog (w.alloc (.cells #[.int .u8 49] 5)) = .ok (.string ⟨#[49]⟩) (w.alloc (.cells #[.int .u8 49] 5)) := conv_one w 49
  clear hk
  go_enter Tryz.func113, Tryz.ntmps113
  go_wp2_with fail
  go_ret
  exact ⟨rfl, (by repeat (first | with_reducible exact bel_refl _ | with_reducible assumption | with_reducible refine bel_drewN ?_ _ | with_reducible refine bel_drew ?_ | with_reducible refine bel_alloc ?_ _ | with_reducible refine bel_row ?_ ?_ _ | with_reducible refine bel_set ?_ ?_ _ | refine bel_trans ?_ (by with_reducible assumption) | (simp; done) | (simp; omega)))⟩
 ·have hcv : (convert 180 9 (.slice (some ⟨w.heap.size, 0, none⟩) 1 1)).run Tryz.prog (w.alloc (.cells #[.int .u8 50] 5)) = .ok (.string ⟨#[50]⟩) (w.alloc (.cells #[.int .u8 50] 5)) := conv_one w 50
  clear hk
  go_enter Tryz.func113, Tryz.ntmps113
  go_wp2_with fail
  go_ret
  exact ⟨rfl, (by repeat (first | with_reducible exact bel_refl _ | with_reducible assumption | with_reducible refine bel_drewN ?_ _ | with_reducible refine bel_drew ?_ | with_reducible refine bel_alloc ?_ _ | with_reducible refine bel_row ?_ ?_ _ | with_reducible refine bel_set ?_ ?_ _ | refine bel_trans ?_ (by with_reducible assumption) | (simp; done) | (simp; omega)))⟩
 ·have hcv : (convert 180 9 (.slice (some ⟨w.heap.size, 0, none⟩) 1 1)).run Tryz.prog (w.alloc (.cells #[.int .u8 51] 5)) = .ok (.string ⟨#[51]⟩) (w.alloc (.cells #[.int .u8 51] 5)) := conv_one w 51
  clear hk
  go_enter Tryz.func113, Tryz.ntmps113
  go_wp2_with fail
  go_ret
  exact ⟨rfl, (by repeat (first | with_reducible exact bel_refl _ | with_reducible assumption | with_reducible refine bel_drewN ?_ _ | with_reducible refine bel_drew ?_ | with_reducible refine bel_alloc ?_ _ | with_reducible refine bel_row ?_ ?_ _ | with_reducible refine bel_set ?_ ?_ _ | refine bel_trans ?_ (by with_reducible assumption) | (simp; done) | (simp; omega)))⟩
 ·have hcv : (convert 180 9 (.slice (some ⟨w.heap.size, 0, none⟩) 1 1)).run Tryz.prog (w.alloc (.cells #[.int .u8 52] 5)) = .ok (.string ⟨#[52]⟩) (w.alloc (.cells #[.int .u8 52] 5)) := conv_one w 52
  clear hk
  go_enter Tryz.func113, Tryz.ntmps113
  go_wp2_with fail
  go_ret
  exact ⟨rfl, (by repeat (first | with_reducible exact bel_refl _ | with_reducible assumption | with_reducible refine bel_drewN ?_ _ | with_reducible refine bel_drew ?_ | with_reducible refine bel_alloc ?_ _ | with_reducible refine bel_row ?_ ?_ _ | with_reducible refine bel_set ?_ ?_ _ | refine bel_trans ?_ (by with_reducible assumption) | (simp; done) | (simp; omega)))⟩
 ·have hcv : (convert 180 9 (.slice (some ⟨w.heap.size, 0, none⟩) 1 1)).run Tryz.prog (w.alloc (.cells #[.int .u8 53] 5)) = .ok (.string ⟨#[53]⟩) (w.alloc (.cells #[.int .u8 53] 5)) := conv_one w 53
  clear hk
  go_enter Tryz.func113, Tryz.ntmps113
  go_wp2_with fail
  go_ret
  exact ⟨rfl, (by repeat (first | with_reducible exact bel_refl _ | with_reducible assumption | with_reducible refine bel_drewN ?_ _ | with_reducible refine bel_drew ?_ | with_reducible refine bel_alloc ?_ _ | with_reducible refine bel_row ?_ ?_ _ | with_reducible refine bel_set ?_ ?_ _ | refine bel_trans ?_ (by with_reducible assumption) | (simp; done) | (simp; omega)))⟩
 ·have hcv : (convert 180 9 (.slice (some ⟨w.heap.size, 0, none⟩) 1 1)).run Tryz.prog (w.alloc (.cells #[.int .u8 54] 5)) = .ok (.string ⟨#[54]⟩) (w.alloc (.cells #[.int .u8 54] 5)) := conv_one w 54
  clear hk
  go_enter Tryz.func113, Tryz.ntmps113
  go_wp2_with fail
  go_ret
  exact ⟨rfl, (by repeat (first | with_reducible exact bel_refl _ | with_reducible assumption | with_reducible refine bel_drewN ?_ _ | with_reducible refine bel_drew ?_ | with_reducible refine bel_alloc ?_ _ | with_reducible refine bel_row ?_ ?_ _ | with_reducible refine bel_set ?_ ?_ _ | refine bel_trans ?_ (by with_reducible assumption) | (simp; done) | (simp; omega)))⟩
 ·have hcv : (convert 180 9 (.slice (some ⟨w.heap.size, 0, none⟩) 1 1)).run Tryz.prog (w.alloc (.cells #[.int .u8 55] 5)) = .ok (.string ⟨#[55]⟩) (w.alloc (.cells #[.int .u8 55] 5)) := conv_one w 55
  clear hk
  go_enter Tryz.func113, Tryz.ntmps113
  go_wp2_with fail
  go_ret
  exact ⟨rfl, (by repeat (first | with_reducible exact bel_refl _ | with_reducible assumption | with_reducible refine bel_drewN ?_ _ | with_reducible refine bel_drew ?_ | with_reducible refine bel_alloc ?_ _ | with_reducible refine bel_row ?_ ?_ _ | with_reducible refine bel_set ?_ ?_ _ | refine bel_trans ?_ (by with_reducible assumption) | (simp; done) | (simp; omega)))⟩
 ·have hcv : (convert 180 9 (.slice (some ⟨w.heap.size, 0, none⟩) 1 1)).run Tryz.prog (w.alloc (.cells #[.int .u8 56] 5)) = .ok (.string ⟨#[56]⟩) (w.alloc (.cells #[.int .u8 56] 5)) := conv_one w 56
  clear hk
  go_enter Tryz.func113, Tryz.ntmps113
  go_wp2_with fail
  go_ret
  exact ⟨rfl, (by repeat (first | with_reducible exact bel_refl _ | with_reducible assumption | with_reducible refine bel_drewN ?_ _ | with_reducible refine bel_drew ?_ | with_reducible refine bel_alloc ?_ _ | with_reducible refine bel_row ?_ ?_ _ | with_reducible refine bel_set ?_ ?_ _ | refine bel_trans ?_ (by with_reducible assumption) | (simp; done) | (simp; omega)))⟩
 ·have hcv : (convert 180 9 (.slice (some ⟨w.heap.size, 0, none⟩) 1 1)).run Tryz.prog (w.alloc (.cells #[.int .u8 57] 5)) = .ok (.string ⟨#[57]⟩) (w.alloc (.cells #[.int .u8 57] 5)) := conv_one w 57
  clear hk
  go_enter Tryz.func113, Tryz.ntmps113
  go_wp2_with fail
  go_ret
  exact ⟨rfl, (by repeat (first | with_reducible exact bel_refl _ | with_reducible assumption | with_reducible refine bel_drewN ?_ _ | with_reducible refine bel_drew ?_ | with_reducible refine bel_alloc ?_ _ | with_reducible refine bel_row ?_ ?_ _ | with_reducible refine bel_set ?_ ?_ _ | refine bel_trans ?_ (by with_reducible assumption) | (simp; done) | (simp; omega)))⟩
theorem num_spec {w : World} {k : Nat} (hk : k < 12) : Calls Tryz.prog 113 #[.int .i64 (k : Int)] w fun e w' => e = .returned (bsV (Lib.decDigits k)) ∧ Below w.heap.size w w' := by
 by_cases h : k < 10
 ·exact num_one h
 ·have HN := Lib.hid fun (j : Nat) (hj : j < 10) (W : World) => num_one (w := W) hj
  have e1 : Lib.decDigits 1 = [49] := by rw [Lib.decDigits, dif_pos (by decide)]; rfl
  have e0 : Lib.decDigits 0 = [48] := by rw [Lib.decDigits, dif_pos (by decide)]; rfl
  obtain rfl | rfl : k = 10 ∨ k = 11 := by omega
  ·have h1 := Lib.hid fun W => HN.out 1 (by decide) W
   have h0 := Lib.hid fun W => HN.out 0 (by decide) W
   have ef : Lib.decDigits 10 = [49, 48] := by rw [Lib.decDigits, dif_neg (by decide)]; rw [show 10 / 10 = 1 from rfl, e1]; rfl
   rw [ef]
   rw [e1] at h1
   rw [e0] at h0
   have cc := fun W => cat_run [49] [48] (by simp) (by simp) W
   clear hk h HN e1 e0 ef
   go_enter Tryz.func113, Tryz.ntmps113
   go_wp2_with fail
   refine (h1.out _).mono ?_
   rintro e w1 ⟨rfl, hb1⟩
   have HB := Lib.hid hb1; clear hb1
   unfold bsV
   go_wp2_with fail
   refine (h0.out _).mono ?_
   rintro e w2 ⟨rfl, hb2⟩
   have HB2 := Lib.hid (bel_trans HB.out hb2); clear hb2
   unfold bsV
   go_wp2_with fail
   go_ret
   exact ⟨rfl, HB2.out⟩
  ·have h1 := Lib.hid fun W => HN.out 1 (by decide) W
   have ef : Lib.decDigits 11 = [49, 49] := by rw [Lib.decDigits, dif_neg (by decide)]; rw [show 11 / 10 = 1 from rfl, e1]; rfl
   rw [ef]
   rw [e1] at h1
   have cc := fun W => cat_run [49] [49] (by simp) (by simp) W
   clear hk h HN e1 e0 ef
   go_enter Tryz.func113, Tryz.ntmps113
   go_wp2_with fail
   refine (h1.out _).mono ?_
   rintro e w1 ⟨rfl, hb1⟩
   have HB := Lib.hid hb1; clear hb1
   unfold bsV
   go_wp2_with fail
   refine (h1.out _).mono ?_
   rintro e w2 ⟨rfl, hb2⟩
   have HB2 := Lib.hid (bel_trans HB.out hb2); clear hb2
   unfold bsV
   go_wp2_with fail
   go_ret
   exact ⟨rfl, HB2.out⟩
theorem word_spec {w : World} {s : Nat} (hs : s ≤ 4) : Calls Tryz.prog 114 #[.int .i64 (s : Int)] w fun e w' => e = .returned (bsV (wordU s)) ∧ w' = w := by
 obtain rfl | rfl | rfl | rfl | rfl : s = 0 ∨ s = 1 ∨ s = 2 ∨ s = 3 ∨ s = 4 := by omega
 all_goals
  go_enter Tryz.func114, Tryz.ntmps114
  go_wp2_with fail
  go_ret
  exact ⟨rfl, rfl⟩
set_option maxHeartbeats 8000000 in
theorem refWrite_n {w : World} (a b c : Int) : Calls Tryz.prog 63 #[.agg #[.int .i64 a, .int .i64 b, .int .i64 c]] w fun e w' => e = .returned (.tuple #[bsV (wrI (a, b, c)), .int .i64 (wrE (a, b, c))]) ∧ Below w.heap.size w w' := by
 have HM := Lib.hid fun W => IsMove_spec (w := W) 12 a b c
 by_cases hok : okW (a, b, c) = true
 ·have hE : wrE (a, b, c) = 0 := by unfold wrE; rw [if_pos hok]
  have hI : wrI (a, b, c) = wrU (a.toNat, b.toNat, c.toNat) := by unfold wrI; rw [if_pos hok]
  rw [hE, hI]
  clear hE hI
  have hok' : (decide (0 ≤ a) && decide (a < ((12 : Nat) : Int)) && isMoveI b c) = true := hok
  rw [hok'] at HM
  unfold okW at hok
  simp only [Bool.and_eq_true, decide_eq_true_eq] at hok
  obtain ⟨⟨h0, h1⟩, h2⟩ := hok
  unfold isMoveI at h2
  simp only [Bool.or_eq_true, Bool.and_eq_true, beq_iff_eq, decide_eq_true_eq] at h2
  obtain ⟨p, rfl⟩ : ∃ p : Nat, a = p := ⟨a.toNat, by omega⟩
  obtain ⟨s, rfl⟩ : ∃ p : Nat, b = p := ⟨b.toNat, by omega⟩
  obtain ⟨f, rfl⟩ : ∃ p : Nat, c = p := ⟨c.toNat, by omega⟩
  simp only [Int.toNat_natCast]
  have hp : p < 12 := by omega
  have hpl := dec_len p hp
  have hf : f < 12 := by omega
  have hs : s ≤ 4 := by omega
  have HI := Lib.hid fun W => num_spec (w := W) hp
  have HJ := Lib.hid fun W => num_spec (w := W) hf
  have HWd := Lib.hid fun W => word_spec (w := W) hs
  have hfl := dec_len f hf
  clear h2 hok'
  obtain ⟨D, hD⟩ : ∃ D, D = Lib.decDigits p := ⟨_, rfl⟩
  obtain ⟨G, hG⟩ : ∃ D, D = Lib.decDigits f := ⟨_, rfl⟩
  rw [← hD] at HI hpl
  rw [← hG] at HJ hfl
  have c1 := fun W => cat_run D [32] (by omega) (by simp) W
  have HD := Lib.hid (And.intro hD hG)
  clear hD hG h0 h1
  obtain ⟨S, hS⟩ : ∃ S, S = wordU s := ⟨_, rfl⟩
  have hSl : S.length ≤ 5 := by
   subst hS
   obtain rfl | rfl | rfl | rfl | rfl : s = 0 ∨ s = 1 ∨ s = 2 ∨ s = 3 ∨ s = 4 := by omega
   all_goals decide
  rw [← hS] at HWd
  have c2 := fun W => cat_run (D ++ [32]) S (by simp; omega) (by omega) W
  have c3 := fun W => cat_run (D ++ [32] ++ S) [32] (by simp; omega) (by simp) W
  have c4 := fun W => cat_run (D ++ [32] ++ S ++ [32]) G (by simp; omega) (by omega) W
  have hfin : wrU (p, s, f) = if 0 < s then (D ++ [32] ++ S) ++ ([32] ++ G) else D ++ [32] ++ S := by rw [HD.out.1, HD.out.2, hS]; rfl
  rw [hfin]
  clear hfin HD hS
  by_cases hs0 : s = 0
  ·subst hs0
   rw [if_neg (by decide)]
   go_enter Tryz.func63, Tryz.ntmps63
   go_wp2_with fail
   refine (HM.out _).mono ?_
   rintro e w1 ⟨rfl, hb1⟩
   have HB0 := Lib.hid (bel_trans (bel_alloc (bel_refl w) (.cells #[.int .i64 (p : Int), .int .i64 0, .int .i64 (f : Int)] 25)) hb1)
   have HBK := Lib.hid ((Blk.new w #[.int .i64 (p : Int), .int .i64 0, .int .i64 (f : Int)] 25).grow hb1)
   clear hb1
   obtain ⟨N, hN⟩ : ∃ N, N = w.heap.size := ⟨_, rfl⟩
   rw [← hN] at HBK ⊢
   clear hN
   go_wp2_with fail
   refine wp_region_val Grows (fun _ _ _ => True) [Is (.pointer (some ⟨N, 0, none⟩)), Is (.int .i64 (p : Int)), Is (.string ⟨D.toArray⟩), Is (.string ⟨(D ++ [32]).toArray⟩), Is (.pointer (some ⟨N, 1, none⟩)), Is (.int .i64 0), Is (.string ⟨S.toArray⟩), Is (.string ⟨(D ++ [32] ++ S).toArray⟩), Is (.string ⟨(D ++ [32] ++ S).toArray⟩)] (by kernel_rfl) (by kernel_rfl) rfl Grows.refl (fun _ _ _ => Grows.trans) (stable_mem ⟨fun _ _ _ h _ => h, fun _ _ _ h _ => h, fun _ _ _ h _ => h, fun _ _ _ h _ => h, fun _ _ _ h _ => h, fun _ _ _ h _ => h, fun _ _ _ h _ => h, fun _ _ _ h _ => h, fun _ _ _ h _ => h, trivial⟩) w1 (Below.drew (Below.refl _ _)) trivial ?_
   refine val_cons ?_ (fun v0 => ?_)
   ·intro L vs w1 hvs hat hb hI hF; try simp [factsI, Region.binds, Is] at hF
    have hc := (Grows.cells hb).1
    clear hI
    go_simp
    try simp [upd]
    try first | exact Grows.refl _ | exact trivial | exact ⟨Grows.refl _, trivial⟩
   refine val_cons ?_ (fun v1 => ?_)
   ·intro L vs w1 hvs hat hb hI hF; try simp [factsI, Region.binds, Is] at hF
    have hBk := HBK.out.grow hb
    have ck := hBk.cell 0
    have lk := hBk.lt
    simp only [List.getElem?_toArray, List.getElem?_cons_zero, List.getElem?_cons_succ] at ck
    clear hI hBk
    go_simp
    try simp [upd]
    try first | exact Grows.refl _ | exact trivial | exact ⟨Grows.refl _, trivial⟩
   refine val_cons ?_ (fun v2 => ?_)
   ·intro L vs w1 hvs hat hb hI hF; try simp [factsI, Region.binds, Is] at hF
    clear hI
    go_simp
    refine (HI.out _).mono ?_
    rintro e w3 ⟨rfl, hb3⟩
    first | exact ⟨rfl, hb3⟩ | exact ⟨_, rfl, hb3, rfl⟩ | trace_state
   refine val_cons ?_ (fun v3 => ?_)
   ·intro L vs w1 hvs hat hb hI hF; try simp [factsI, Region.binds, Is] at hF
    have hc := (Grows.cells hb).1
    clear hI
    go_simp
    try simp [upd]
    try first | exact Grows.refl _ | exact trivial | exact ⟨Grows.refl _, trivial⟩
   refine val_cons ?_ (fun v4 => ?_)
   ·intro L vs w1 hvs hat hb hI hF; try simp [factsI, Region.binds, Is] at hF
    have hc := (Grows.cells hb).1
    clear hI
    go_simp
    try simp [upd]
    try first | exact Grows.refl _ | exact trivial | exact ⟨Grows.refl _, trivial⟩
   refine val_cons ?_ (fun v5 => ?_)
   ·intro L vs w1 hvs hat hb hI hF; try simp [factsI, Region.binds, Is] at hF
    have hBk := HBK.out.grow hb
    have ck := hBk.cell 1
    have lk := hBk.lt
    simp only [List.getElem?_toArray, List.getElem?_cons_zero, List.getElem?_cons_succ] at ck
    clear hI hBk
    go_simp
    try simp [upd]
    try first | exact Grows.refl _ | exact trivial | exact ⟨Grows.refl _, trivial⟩
   refine val_cons ?_ (fun v6 => ?_)
   ·intro L vs w1 hvs hat hb hI hF; try simp [factsI, Region.binds, Is] at hF
    clear hI
    go_simp
    refine (HWd.out _).mono ?_
    rintro e w3 ⟨rfl, rfl⟩
    first | exact ⟨rfl, Grows.refl _⟩ | exact ⟨_, rfl, Grows.refl _, rfl⟩ | trace_state
   refine val_cons ?_ (fun v7 => ?_)
   ·intro L vs w1 hvs hat hb hI hF; try simp [factsI, Region.binds, Is] at hF
    have hc := (Grows.cells hb).1
    clear hI
    go_simp
    try simp [upd]
    try first | exact Grows.refl _ | exact trivial | exact ⟨Grows.refl _, trivial⟩
   refine val_cons ?_ (fun v8 => ?_)
   ·intro L vs w1 hvs hat hb hI hF; try simp [factsI, Region.binds, Is] at hF
    have hc := (Grows.cells hb).1
    clear hI
    go_simp
    try simp [upd]
    try first | exact Grows.refl _ | exact trivial | exact ⟨Grows.refl _, trivial⟩
   refine val_nil ?_
   intro vs w1 hvs hb hI hF
   simp [Is, Nat.forall_lt_succ_right] at hF
   simp only [Act.put, List.setIfInBounds_toArray, List.set_cons_succ, List.set_cons_zero, hF]
   clear hF
   have hB2 := HBK.out.grow hb
   have d1 := hB2.cell 1; have d2 := hB2.cell 2; have ld := hB2.lt
   simp only [List.getElem?_toArray, List.getElem?_cons_zero, List.getElem?_cons_succ] at d1 d2
   have HZ := Lib.hid (bel_trans HB0.out hb)
   clear hvs hI hb hB2
   go_wp2_with fail
   go_ret2
   exact ⟨by simp [bsV], HZ.out⟩
  ·rw [if_pos (by omega)]
   have hds : decide ((0 : Int) < (s : Int)) = true := decide_eq_true (by omega)
   have hsi : (0 : Int) < (s : Int) := by omega
   go_enter Tryz.func63, Tryz.ntmps63
   go_wp2_with fail
   refine (HM.out _).mono ?_
   rintro e w1 ⟨rfl, hb1⟩
   have HB0 := Lib.hid (bel_trans (bel_alloc (bel_refl w) (.cells #[.int .i64 (p : Int), .int .i64 (s : Int), .int .i64 (f : Int)] 25)) hb1)
   have HBK := Lib.hid ((Blk.new w #[.int .i64 (p : Int), .int .i64 (s : Int), .int .i64 (f : Int)] 25).grow hb1)
   clear hb1
   obtain ⟨N, hN⟩ : ∃ N, N = w.heap.size := ⟨_, rfl⟩
   rw [← hN] at HBK ⊢
   clear hN
   go_wp2_with fail
   refine wp_region_val Grows (fun _ _ _ => True) [Is (.pointer (some ⟨N, 0, none⟩)), Is (.int .i64 (p : Int)), Is (.string ⟨D.toArray⟩), Is (.string ⟨(D ++ [32]).toArray⟩), Is (.pointer (some ⟨N, 1, none⟩)), Is (.int .i64 (s : Int)), Is (.string ⟨S.toArray⟩), Is (.string ⟨(D ++ [32] ++ S).toArray⟩), Is (.string ⟨(D ++ [32] ++ S).toArray⟩)] (by kernel_rfl) (by kernel_rfl) rfl Grows.refl (fun _ _ _ => Grows.trans) (stable_mem ⟨fun _ _ _ h _ => h, fun _ _ _ h _ => h, fun _ _ _ h _ => h, fun _ _ _ h _ => h, fun _ _ _ h _ => h, fun _ _ _ h _ => h, fun _ _ _ h _ => h, fun _ _ _ h _ => h, fun _ _ _ h _ => h, trivial⟩) w1 (Below.drew (Below.refl _ _)) trivial ?_
   refine val_cons ?_ (fun v0 => ?_)
   ·intro L vs w1 hvs hat hb hI hF; try simp [factsI, Region.binds, Is] at hF
    have hc := (Grows.cells hb).1
    clear hI
    go_simp
    try simp [upd]
    try first | exact Grows.refl _ | exact trivial | exact ⟨Grows.refl _, trivial⟩
   refine val_cons ?_ (fun v1 => ?_)
   ·intro L vs w1 hvs hat hb hI hF; try simp [factsI, Region.binds, Is] at hF
    have hBk := HBK.out.grow hb
    have ck := hBk.cell 0
    have lk := hBk.lt
    simp only [List.getElem?_toArray, List.getElem?_cons_zero, List.getElem?_cons_succ] at ck
    clear hI hBk
    go_simp
    try simp [upd]
    try first | exact Grows.refl _ | exact trivial | exact ⟨Grows.refl _, trivial⟩
   refine val_cons ?_ (fun v2 => ?_)
   ·intro L vs w1 hvs hat hb hI hF; try simp [factsI, Region.binds, Is] at hF
    clear hI
    go_simp
    refine (HI.out _).mono ?_
    rintro e w3 ⟨rfl, hb3⟩
    first | exact ⟨rfl, hb3⟩ | exact ⟨_, rfl, hb3, rfl⟩ | trace_state
   refine val_cons ?_ (fun v3 => ?_)
   ·intro L vs w1 hvs hat hb hI hF; try simp [factsI, Region.binds, Is] at hF
    have hc := (Grows.cells hb).1
    clear hI
    go_simp
    try simp [upd]
    try first | exact Grows.refl _ | exact trivial | exact ⟨Grows.refl _, trivial⟩
   refine val_cons ?_ (fun v4 => ?_)
   ·intro L vs w1 hvs hat hb hI hF; try simp [factsI, Region.binds, Is] at hF
    have hc := (Grows.cells hb).1
    clear hI
    go_simp
    try simp [upd]
    try first | exact Grows.refl _ | exact trivial | exact ⟨Grows.refl _, trivial⟩
   refine val_cons ?_ (fun v5 => ?_)
   ·intro L vs w1 hvs hat hb hI hF; try simp [factsI, Region.binds, Is] at hF
    have hBk := HBK.out.grow hb
    have ck := hBk.cell 1
    have lk := hBk.lt
    simp only [List.getElem?_toArray, List.getElem?_cons_zero, List.getElem?_cons_succ] at ck
    clear hI hBk
    go_simp
    try simp [upd]
    try first | exact Grows.refl _ | exact trivial | exact ⟨Grows.refl _, trivial⟩
   refine val_cons ?_ (fun v6 => ?_)
   ·intro L vs w1 hvs hat hb hI hF; try simp [factsI, Region.binds, Is] at hF
    clear hI
    go_simp
    refine (HWd.out _).mono ?_
    rintro e w3 ⟨rfl, rfl⟩
    first | exact ⟨rfl, Grows.refl _⟩ | exact ⟨_, rfl, Grows.refl _, rfl⟩ | trace_state
   refine val_cons ?_ (fun v7 => ?_)
   ·intro L vs w1 hvs hat hb hI hF; try simp [factsI, Region.binds, Is] at hF
    have hc := (Grows.cells hb).1
    clear hI
    go_simp
    try simp [upd]
    try first | exact Grows.refl _ | exact trivial | exact ⟨Grows.refl _, trivial⟩
   refine val_cons ?_ (fun v8 => ?_)
   ·intro L vs w1 hvs hat hb hI hF; try simp [factsI, Region.binds, Is] at hF
    have hc := (Grows.cells hb).1
    clear hI
    go_simp
    try simp [upd]
    try first | exact Grows.refl _ | exact trivial | exact ⟨Grows.refl _, trivial⟩
   refine val_nil ?_
   intro vs w1 hvs hb hI hF
   simp [Is, Nat.forall_lt_succ_right] at hF
   simp only [Act.put, List.setIfInBounds_toArray, List.set_cons_succ, List.set_cons_zero, hF]
   clear hF
   have hB2 := HBK.out.grow hb
   have d1 := hB2.cell 1; have d2 := hB2.cell 2; have ld := hB2.lt
   simp only [List.getElem?_toArray, List.getElem?_cons_zero, List.getElem?_cons_succ] at d1 d2
   have HZ := Lib.hid (bel_trans HB0.out hb)
   clear hvs hI hb hB2
   go_wp2_with fail
   refine (HJ.out _).mono ?_
   rintro e w5 ⟨rfl, hb5⟩
   have HZ5 := Lib.hid (bel_trans HZ.out hb5); clear hb5
   unfold bsV
   go_wp2_with fail
   go_ret2
   exact ⟨by simp [bsV, Go.ByteArray.mk_append_mk], HZ5.out⟩
 ·have hE : wrE (a, b, c) = 1 := by unfold wrE; rw [if_neg hok]
  have hI : wrI (a, b, c) = [] := by unfold wrI; rw [if_neg hok]
  rw [hE, hI]
  clear hE hI
  have hok' : (decide (0 ≤ a) && decide (a < ((12 : Nat) : Int)) && isMoveI b c) = false := by
   cases h : (decide (0 ≤ a) && decide (a < ((12 : Nat) : Int)) && isMoveI b c) with
   | false => rfl
   | true => exact absurd h hok
  rw [hok'] at HM
  clear hok hok'
  go_enter Tryz.func63, Tryz.ntmps63
  go_wp2_with fail
  refine (HM.out _).mono ?_
  rintro e w1 ⟨rfl, hb1⟩
  have HB := Lib.hid (bel_trans (bel_alloc (bel_refl w) (.cells #[.int .i64 a, .int .i64 b, .int .i64 c] 25)) hb1)
  clear hb1
  go_wp2_with fail
  go_ret2
  exact ⟨rfl, HB.out⟩
end Go.Proofs.YtlbhjikkpbknnaaGreatDoor
end
section
namespace Go.Proofs.YtlbhjikkpbknnaaGreatDoor
open Go.RowKit Go.Rel Go.Draw
set_option maxRecDepth 100000
/-! Read of the reference -/
/-- it is the text of this move -/
def okS (s : List UInt8) (p q f : Nat) : Bool := okW ((p : Int), (q : Int), (f : Int)) && (wrI ((p : Int), (q : Int), (f : Int)) == s)
def RefR (s : List UInt8) (e : Ending) : Prop :=
 (∃ p q f, p < 12 ∧ okS s p q f = true ∧ e = .returned (.tuple #[.agg #[.int .i64 (p : Int), .int .i64 (q : Int), .int .i64 (f : Int)], .int .i64 0])) ∨
 ((20 < s.length ∨ ∀ p q f, p < 12 → q < 5 → f < 8 → okS s p q f = false) ∧ e = .returned (.tuple #[.agg #[.int .i64 0, .int .i64 0, .int .i64 0], .int .i64 4]))
theorem okS_no {s : List UInt8} {p q f : Nat} (h : ¬ (wrE ((p : Int), (q : Int), (f : Int)) = 0 ∧ wrI ((p : Int), (q : Int), (f : Int)) = s)) : okS s p q f = false := by
 unfold okS
 cases h1 : okW ((p : Int), (q : Int), (f : Int)) with
 | false => rfl
 | true =>
  rw [Bool.true_and, beq_eq_false_iff_ne]
  intro e
  exact h ⟨by unfold wrE; rw [if_pos h1], e⟩
theorem okS_yes {s : List UInt8} {p q f : Nat} (h : wrE ((p : Int), (q : Int), (f : Int)) = 0 ∧ wrI ((p : Int), (q : Int), (f : Int)) = s) : okS s p q f = true := by
 unfold okS
 have h1 : okW ((p : Int), (q : Int), (f : Int)) = true := by
  have := h.1
  unfold wrE at this
  cases h1 : okW ((p : Int), (q : Int), (f : Int)) with
  | true => rfl
  | false => rw [h1] at this; cases this
 rw [h1, h.2]; simp
set_option maxHeartbeats 16000000 in
theorem refRead_n {w : World} {s : List UInt8} (hsl : s.length ≤ 1000) : Calls Tryz.prog 65 #[.string ⟨s.toArray⟩] w fun e w' => RefR s e ∧ Below w.heap.size w w' := by
 have HSL := Lib.hid hsl
 clear hsl
 go_enter Tryz.func65, Tryz.ntmps65
 go_wp2_with fail
 obtain ⟨W0, hW0⟩ : ∃ W0, W0 = w.alloc (.cells #[.int .i64 0, .int .i64 0, .int .i64 0] 25) := ⟨_, rfl⟩
 have H0 : Hid (Below w.heap.size w W0 ∧ Blk W0 w.heap.size #[.int .i64 0, .int .i64 0, .int .i64 0] 25) := Lib.hid ⟨by subst hW0; exact bel_alloc (bel_refl _) _, by subst hW0; exact Blk.new _ _ _⟩
 rw [← hW0]
 clear hW0
 by_cases hlen : 20 < s.length
 ·have hl1 : ¬ ((s.length : Int) ≤ 20) := by omega
  have hl2 : decide ((s.length : Int) ≤ 20) = false := decide_eq_false hl1
  go_loopw [4] (fun iv wx => iv = .int .i64 0 ∧ wx = W0) (fun iv _ => 0)
  case atStart => exact ⟨rfl, rfl⟩
  case round =>
   obtain ⟨rfl, rfl⟩ := hrel
   have BA := H0.out.2
   have d0 := BA.cell 0; have d1 := BA.cell 1; have d2 := BA.cell 2; have f0 := BA.free 0; have f1 := BA.free 1; have f2 := BA.free 2; have l0 := BA.lt
   simp only [List.getElem?_toArray, List.getElem?_cons_zero, List.getElem?_cons_succ] at d0 d1 d2
   go_wp2_with fail
   have BS := mv_store BA (.int .i64 0) (.int .i64 0) (.int .i64 0)
   have s0 := BS.cell 0; have s1 := BS.cell 1; have s2 := BS.cell 2
   simp only [List.getElem?_toArray, List.getElem?_cons_zero, List.getElem?_cons_succ] at s0 s1 s2
   refine bodyPost_ret (v := .tuple #[.agg #[.int .i64 0, .int .i64 0, .int .i64 0], .int .i64 4]) (by simp [results, Tryz.results65, go_sem, s0, s1, s2]) rfl ⟨.inr ⟨.inl hlen, rfl⟩, mv_store_bel H0.out.1 (Nat.le_refl _) _ _ _⟩
 ·have hl1 : (s.length : Int) ≤ 20 := by omega
  have hl2 : decide ((s.length : Int) ≤ 20) = true := decide_eq_true hl1
  obtain ⟨N, hN⟩ : ∃ N, N = w.heap.size := ⟨_, rfl⟩
  have HN := Lib.hid hN
  rw [← hN]
  have H0' : Hid (Below w.heap.size w W0 ∧ Blk W0 N #[.int .i64 0, .int .i64 0, .int .i64 0] 25) := Lib.hid (by rw [hN]; exact H0.out)
  clear hlen H0 hN
  go_loopw [4] (fun iv wx => ∃ k : Nat, k ≤ 12 ∧ iv = .int .i64 k ∧ Hid ((∀ p q f, p < k → q < 5 → f < 8 → okS s p q f = false) ∧ Blk wx N #[.int .i64 0, .int .i64 0, .int .i64 0] 25 ∧ Below w.heap.size w wx)) (fun iv _ => 12 - (intOf iv).toNat)
  case atStart => exact ⟨0, by omega, rfl, Lib.hid ⟨fun p q f h => by omega, H0'.out.2, H0'.out.1⟩⟩
  case round =>
   obtain ⟨k, hk, rfl, HI⟩ := hrel
   by_cases hlt : k < 12
   ·have hki : (k : Int) < 12 := by omega
    have hdk : decide ((k : Int) < 12) = true := decide_eq_true hki
    go_wp2_with fail
    go_loopw [5] (fun iv wx => ∃ q : Nat, q ≤ 5 ∧ iv = .int .i64 q ∧ Hid ((∀ q' f, q' < q → f < 8 → okS s k q' f = false) ∧ Blk wx N #[.int .i64 0, .int .i64 0, .int .i64 0] 25 ∧ Below w.heap.size w wx)) (fun iv _ => 5 - (intOf iv).toNat)
    case atStart => exact ⟨0, by omega, rfl, Lib.hid ⟨fun q f h => by omega, HI.out.2⟩⟩
    case round =>
     obtain ⟨q, hq, rfl, HQ⟩ := hrel
     by_cases hq5 : q < 5
     ·have hqi : (q : Int) ≤ 4 := by omega
      have hdq : decide ((q : Int) ≤ 4) = true := decide_eq_true hqi
      go_wp2_with fail
      go_loopw [6] (fun iv wx => ∃ f : Nat, f ≤ 8 ∧ iv = .int .i64 f ∧ Hid ((∀ f', f' < f → okS s k q f' = false) ∧ Blk wx N #[.int .i64 0, .int .i64 0, .int .i64 0] 25 ∧ Below w.heap.size w wx)) (fun iv _ => 8 - (intOf iv).toNat)
      case atStart => exact ⟨0, by omega, rfl, Lib.hid ⟨fun f h => by omega, HQ.out.2⟩⟩
      case round =>
       obtain ⟨f, hf, rfl, HF⟩ := hrel
       by_cases hf8 : f < 8
       ·have hfi : (f : Int) ≤ 7 := by omega
        have hdf : decide ((f : Int) ≤ 7) = true := decide_eq_true hfi
        have HWr := Lib.hid fun W => refWrite_n (w := W) (k : Int) (q : Int) (f : Int)
        obtain ⟨T, hT⟩ : ∃ T, T = wrI ((k : Int), (q : Int), (f : Int)) := ⟨_, rfl⟩
        obtain ⟨E, hE⟩ : ∃ E, E = wrE ((k : Int), (q : Int), (f : Int)) := ⟨_, rfl⟩
        rw [← hT, ← hE] at HWr
        have HTE := Lib.hid (And.intro hT hE)
        clear hT hE
        go_wp2_with fail
        refine (HWr.out _).mono ?_
        rintro e w4 ⟨rfl, hb4⟩
        have hnb : Below wr.heap.size wr w4 := bel_trans (bel_alloc (bel_refl wr) (.cells #[.int .i64 (k : Int), .int .i64 (q : Int), .int .i64 (f : Int)] 25)) hb4
        have H4 : Hid (Blk w4 wr.heap.size #[.int .i64 (k : Int), .int .i64 (q : Int), .int .i64 (f : Int)] 25 ∧ Blk w4 N #[.int .i64 0, .int .i64 0, .int .i64 0] 25 ∧ Below w.heap.size w w4 ∧ N < wr.heap.size) := Lib.hid ⟨(Blk.new wr _ _).grow hb4, HF.out.2.1.grow hnb, bel_trans HF.out.2.2 hnb, HF.out.2.1.lt⟩
        clear hb4 hnb
        unfold bsV
        by_cases hm : E = 0 ∧ T = s
        ·obtain ⟨rfl, rfl⟩ := hm
         have BA := H4.out.2.1
         have d0 := BA.cell 0; have d1 := BA.cell 1; have d2 := BA.cell 2; have f0 := BA.free 0; have f1 := BA.free 1; have f2 := BA.free 2; have l0 := BA.lt
         have BX := H4.out.1
         have x0 := BX.cell 0; have x1 := BX.cell 1; have x2 := BX.cell 2; have lx := BX.lt
         simp only [List.getElem?_toArray, List.getElem?_cons_zero, List.getElem?_cons_succ] at d0 d1 d2 x0 x1 x2
         clear BX
         have HBA := Lib.hid BA; clear BA
         go_wp2_with fail
         have BS := mv_store HBA.out (.int .i64 (k : Int)) (.int .i64 (q : Int)) (.int .i64 (f : Int))
         have s0 := BS.cell 0; have s1 := BS.cell 1; have s2 := BS.cell 2
         simp only [List.getElem?_toArray, List.getElem?_cons_zero, List.getElem?_cons_succ] at s0 s1 s2
         refine bodyPost_ret (v := .tuple #[.agg #[.int .i64 (k : Int), .int .i64 (q : Int), .int .i64 (f : Int)], .int .i64 0]) (by simp [results, Tryz.results65, go_sem, s0, s1, s2]) rfl ⟨.inl ⟨k, q, f, hlt, okS_yes ⟨HTE.out.2.symm, HTE.out.1.symm⟩, rfl⟩, mv_store_bel H4.out.2.2.1 (by rw [HN.out]; exact Nat.le_refl _) _ _ _⟩
        ·have HNo := Lib.hid (show okS s k q f = false from okS_no fun h => hm ⟨HTE.out.2.trans h.1, HTE.out.1.trans h.2⟩)
         have HC : Hid ((∀ f', f' < f + 1 → okS s k q f' = false) ∧ Blk w4 N #[.int .i64 0, .int .i64 0, .int .i64 0] 25 ∧ Below w.heap.size w w4) := Lib.hid ⟨fun f' h => by
          rcases Nat.lt_succ_iff_lt_or_eq.1 h with h | rfl
          ·exact HF.out.1 f' h
          ·exact HNo.out, H4.out.2.1, H4.out.2.2.1⟩
         by_cases hE0 : E = 0
         ·subst hE0
          have hTs : ¬ (T = s) := fun h => hm ⟨rfl, h⟩
          have hbs : (T == s) = false := by
           rw [beq_eq_false_iff_ne]; exact hTs
          clear hm HNo
          go_wp2_with fail
          refine ⟨⟨f + 1, by omega, by simp, HC⟩, by simp [intOf]; omega⟩
         ·have hE1 : ¬ (E = 0) := hE0
          clear hm HNo hE0
          go_wp2_with fail
          refine ⟨⟨f + 1, by omega, by simp, HC⟩, by simp [intOf]; omega⟩
       ·obtain rfl : f = 8 := by omega
        have hdf : decide (((8 : Nat) : Int) ≤ 7) = false := by decide
        have HC : Hid ((∀ q' f, q' < q + 1 → f < 8 → okS s k q' f = false) ∧ Blk wr N #[.int .i64 0, .int .i64 0, .int .i64 0] 25 ∧ Below w.heap.size w wr) := Lib.hid ⟨fun q' f h hf => by
         rcases Nat.lt_succ_iff_lt_or_eq.1 h with h | rfl
         ·exact HQ.out.1 q' f h hf
         ·exact HF.out.1 f hf, HF.out.2⟩
        go_wp2_with fail
        refine ⟨⟨q + 1, by omega, by simp, HC⟩, by simp [intOf]; omega⟩
     ·obtain rfl : q = 5 := by omega
      have hdq : decide (((5 : Nat) : Int) ≤ 4) = false := by decide
      have HC : Hid ((∀ p q f, p < k + 1 → q < 5 → f < 8 → okS s p q f = false) ∧ Blk wr N #[.int .i64 0, .int .i64 0, .int .i64 0] 25 ∧ Below w.heap.size w wr) := Lib.hid ⟨fun p q f h hq hf => by
       rcases Nat.lt_succ_iff_lt_or_eq.1 h with h | rfl
       ·exact HI.out.1 p q f h hq hf
       ·exact HQ.out.1 q f hq hf, HQ.out.2⟩
      go_wp2_with fail
      refine ⟨⟨k + 1, by omega, by simp, HC⟩, by simp [intOf]; omega⟩
   ·obtain rfl : k = 12 := by omega
    have hdk : decide (((12 : Nat) : Int) < 12) = false := by decide
    have BA := HI.out.2.1
    have d0 := BA.cell 0; have d1 := BA.cell 1; have d2 := BA.cell 2; have f0 := BA.free 0; have f1 := BA.free 1; have f2 := BA.free 2; have l0 := BA.lt
    simp only [List.getElem?_toArray, List.getElem?_cons_zero, List.getElem?_cons_succ] at d0 d1 d2
    have HBA := Lib.hid BA; clear BA
    go_wp2_with fail
    have BS := mv_store HBA.out (.int .i64 0) (.int .i64 0) (.int .i64 0)
    have s0 := BS.cell 0; have s1 := BS.cell 1; have s2 := BS.cell 2
    simp only [List.getElem?_toArray, List.getElem?_cons_zero, List.getElem?_cons_succ] at s0 s1 s2
    refine bodyPost_ret (v := .tuple #[.agg #[.int .i64 0, .int .i64 0, .int .i64 0], .int .i64 4]) (by simp [results, Tryz.results65, go_sem, s0, s1, s2]) rfl ⟨.inr ⟨.inr HI.out.1, rfl⟩, mv_store_bel HI.out.2.2 (by rw [HN.out]; exact Nat.le_refl _) _ _ _⟩
end Go.Proofs.YtlbhjikkpbknnaaGreatDoor
end
section
namespace Go.Proofs.YtlbhjikkpbknnaaGreatDoor
open Go.RowKit Go.Rel Go.Draw
set_option maxRecDepth 100000
/-! what the text of a move is read as -/
def decN : Nat → List UInt8
 | 0 => [48] | 1 => [49] | 2 => [50] | 3 => [51] | 4 => [52] | 5 => [53] | 6 => [54] | 7 => [55] | 8 => [56] | 9 => [57] | 10 => [49, 48] | _ => [49, 49]
theorem decN_eq {p : Nat} (h : p < 12) : Lib.decDigits p = decN p := by
 by_cases h1 : p < 10
 ·rw [Lib.decDigits, dif_pos h1]
  obtain rfl | rfl | rfl | rfl | rfl | rfl | rfl | rfl | rfl | rfl : p = 0 ∨ p = 1 ∨ p = 2 ∨ p = 3 ∨ p = 4 ∨ p = 5 ∨ p = 6 ∨ p = 7 ∨ p = 8 ∨ p = 9 := by omega
  all_goals rfl
 ·rw [Lib.decDigits, dif_neg h1, Lib.decDigits, dif_pos (by omega)]
  obtain rfl | rfl : p = 10 ∨ p = 11 := by omega
  all_goals rfl
def wrN (p q f : Nat) : List UInt8 := if 0 < q then (decN p ++ [32] ++ wordU q) ++ ([32] ++ decN f) else decN p ++ [32] ++ wordU q
theorem wrN_eq {p q f : Nat} (hp : p < 12) (hf : f < 12) : wrU (p, q, f) = wrN p q f := by
 unfold wrU wrN
 simp only [decN_eq hp, decN_eq hf]
def atoiL (l : List UInt8) : Int := match Lib.atoiAll l with
 | .ok v => v
 | .range => Lib.atoiSat l
 | _ => 0
def idxL (x : List UInt8) : List (List UInt8) → Nat → Int
 | [], _ => -1
 | z :: zs, i => if z = x then i else idxL x zs (i + 1)
def wsL (s : List UInt8) : List (List UInt8) := Lib.splitK [32] 0 (Lib.count s [32]) s
def readL : List (List UInt8) → Option MvI
 | a0 :: a1 :: a2 :: _ => some (atoiL a0, max 0 (idxL a1 [wordU 0, wordU 1, wordU 2, wordU 3, wordU 4] 0), atoiL a2)
 | [a0, a1] => some (atoiL a0, max 0 (idxL a1 [wordU 0, wordU 1, wordU 2, wordU 3, wordU 4] 0), 0)
 | _ => none
theorem read_all : ((List.range 12).all fun p => (List.range 5).all fun q => (List.range 8).all fun f => !(isMoveI (q : Int) (f : Int)) || (readL (wsL (wrN p q f)) == some ((p : Int), (q : Int), (f : Int)))) = true := by decide +kernel
theorem len_all : ((List.range 12).all fun p => (List.range 5).all fun q => (List.range 8).all fun f => decide ((wrN p q f).length ≤ 20)) = true := by decide +kernel
theorem okW_nat {x : MvI} (h : okW x = true) : ∃ p q f : Nat, x = ((p : Int), (q : Int), (f : Int)) ∧ p < 12 ∧ q < 5 ∧ f < 8 ∧ isMoveI (q : Int) (f : Int) = true := by
 obtain ⟨a, b, c⟩ := x
 unfold okW at h
 simp only [Bool.and_eq_true, decide_eq_true_eq] at h
 obtain ⟨⟨h0, h1⟩, h2⟩ := h
 have h3 := h2
 unfold isMoveI at h2
 simp only [Bool.or_eq_true, Bool.and_eq_true, beq_iff_eq, decide_eq_true_eq] at h2
 refine ⟨a.toNat, b.toNat, c.toNat, ?_, by omega, by omega, by omega, ?_⟩
 ·rw [show ((a.toNat : Nat) : Int) = a by omega, show ((b.toNat : Nat) : Int) = b by omega, show ((c.toNat : Nat) : Int) = c by omega]
 ·rw [show ((b.toNat : Nat) : Int) = b by omega, show ((c.toNat : Nat) : Int) = c by omega]; exact h3
theorem wrI_nat {p q f : Nat} (hp : p < 12) (hf : f < 8) (h : okW ((p : Int), (q : Int), (f : Int)) = true) : wrI ((p : Int), (q : Int), (f : Int)) = wrN p q f := by
 unfold wrI
 rw [if_pos h]
 simp only [Int.toNat_natCast]
 exact wrN_eq hp (by omega)
/-- a move is read back from its text -/
theorem read_back {x : MvI} (h : okW x = true) : readL (wsL (wrI x)) = some x := by
 obtain ⟨p, q, f, rfl, hp, hq, hf, hm⟩ := okW_nat h
 rw [wrI_nat hp hf h]
 have := read_all
 simp only [List.all_eq_true, List.mem_range] at this
 have := this p hp q hq f hf
 rw [hm] at this
 simpa using this
theorem wr_len {x : MvI} (h : okW x = true) : (wrI x).length ≤ 20 := by
 obtain ⟨p, q, f, rfl, hp, hq, hf, hm⟩ := okW_nat h
 rw [wrI_nat hp hf h]
 have := len_all
 simp only [List.all_eq_true, List.mem_range] at this
 exact of_decide_eq_true (this p hp q hq f hf)
/-- the move with this text -/
def rdM (s : List UInt8) : Option MvI := match readL (wsL s) with
 | some x => if okW x && (wrI x == s) then some x else none
 | none => none
theorem rdM_some {s : List UInt8} {x : MvI} (h : rdM s = some x) : okW x = true ∧ wrI x = s := by
 unfold rdM at h
 cases hr : readL (wsL s) with
 | none => rw [hr] at h; cases h
 | some y =>
  rw [hr] at h
  simp only at h
  split at h
  ·rename_i hc
   cases h
   simpa using hc
  ·cases h
theorem rdM_of {s : List UInt8} {x : MvI} (h : okW x = true) (hs : wrI x = s) : rdM s = some x := by
 subst hs
 unfold rdM
 rw [read_back h]
 simp [h]
def rdV (o : Option MvI) : Value := match o with
 | some x => .tuple #[.agg #[.int .i64 x.1, .int .i64 x.2.1, .int .i64 x.2.2], .int .i64 0]
 | none => .tuple #[.agg #[.int .i64 0, .int .i64 0, .int .i64 0], .int .i64 4]
theorem refR_eq {s : List UInt8} {e : Ending} (h : RefR s e) : e = .returned (rdV (rdM s)) := by
 rcases h with ⟨p, q, f, hp, hok, rfl⟩ | ⟨hno, rfl⟩
 ·unfold okS at hok
  simp only [Bool.and_eq_true, beq_iff_eq] at hok
  rw [rdM_of hok.1 hok.2]; rfl
 ·have : rdM s = none := by
   cases hr : rdM s with
   | none => rfl
   | some x =>
    obtain ⟨h1, h2⟩ := rdM_some hr
    obtain ⟨p, q, f, rfl, hp, hq, hf, hm⟩ := okW_nat h1
    rcases hno with h | h
    ·have := wr_len h1
     rw [h2] at this
     omega
    ·have := h p q f hp hq hf
     unfold okS at this
     rw [h1, h2] at this
     simp at this
  rw [this]; rfl
theorem refRead_m {w : World} {s : List UInt8} (hsl : s.length ≤ 1000) : Calls Tryz.prog 65 #[.string ⟨s.toArray⟩] w fun e w' => e = .returned (rdV (rdM s)) ∧ Below w.heap.size w w' :=
 (refRead_n hsl).mono fun _ _ h => ⟨refR_eq h.1, h.2⟩
end Go.Proofs.YtlbhjikkpbknnaaGreatDoor
end
