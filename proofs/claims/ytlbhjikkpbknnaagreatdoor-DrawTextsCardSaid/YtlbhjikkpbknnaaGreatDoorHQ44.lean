import Derived.Test.YtlbhjikkpbknnaaGreatDoorHQ14
/-
  Given contracts of functions of the program, and laws for them, one behind the other.
-/
set_option linter.unusedVariables false
set_option linter.unusedSimpArgs false
set_option linter.unusedSectionVars false
section
namespace Go.Proofs.YtlbhjikkpbknnaaGreatDoor
open Go.RowKit Go.Rel Go.Draw
set_option maxRecDepth 100000
/-! Write of the program -/
def wordU : Nat → List UInt8
 | 1 => [101, 97, 115, 116]
 | 2 => [115, 111, 117, 116, 104]
 | 3 => [119, 101, 115, 116]
 | 4 => [110, 111, 114, 116, 104]
 | _ => [117, 112]
/-- a move's text -/
def wrU (x : Mv) : List UInt8 := if 0 < x.2.1 then (Lib.decDigits x.1 ++ [32] ++ wordU x.2.1) ++ ([32] ++ Lib.decDigits x.2.2) else Lib.decDigits x.1 ++ [32] ++ wordU x.2.1
def okW (x : MvI) : Bool := decide (0 ≤ x.1) && decide (x.1 < 12) && isMoveI x.2.1 x.2.2
def wrE (x : MvI) : Int := if okW x then 0 else 1
def wrI (x : MvI) : List UInt8 := if okW x then wrU (x.1.toNat, x.2.1.toNat, x.2.2.toNat) else []
def bsV (l : List UInt8) : Value := .string ⟨l.toArray⟩
theorem cat_run (x y : List UInt8) (hx : x.length ≤ 1000) (hy : y.length ≤ 1000) (w : World) : (Op.stringOp .add ⟨x.toArray⟩ ⟨y.toArray⟩).run Tryz.prog w = .ok (.string ⟨(x ++ y).toArray⟩) w := run_string_add_lists w x y (by omega) (by omega)
theorem dec_len (p : Nat) (h : p < 12) : (Lib.decDigits p).length ≤ 2 := by
 rw [Lib.decDigits]
 split
 ·simp
 ·rw [Lib.decDigits, dif_pos (by omega)]; simp
theorem words_spec (w : World) : Calls Tryz.prog 112 #[] w fun e w' => e = .returned (.agg #[bsV (wordU 0), bsV (wordU 1), bsV (wordU 2), bsV (wordU 3), bsV (wordU 4)]) ∧ Below w.heap.size w w' := by
 go_enter Tryz.func112, Tryz.ntmps112
 go_wp2_with fail
 refine bodyPost_ret (v := .agg #[bsV (wordU 0), bsV (wordU 1), bsV (wordU 2), bsV (wordU 3), bsV (wordU 4)]) (by simp [results, Tryz.results112, go_sem, bsV, wordU]) rfl ⟨rfl, (by repeat (first | with_reducible exact bel_refl _ | with_reducible assumption | with_reducible refine bel_drewN ?_ _ | with_reducible refine bel_drew ?_ | with_reducible refine bel_alloc ?_ _ | with_reducible refine bel_row ?_ ?_ _ | with_reducible refine bel_set ?_ ?_ _ | refine bel_trans ?_ (by with_reducible assumption) | (simp; done) | (simp; omega)))⟩
theorem idxW0 (w : World) : (Instr.index 146 (.agg #[.string ⟨#[117, 112]⟩, .string ⟨#[101, 97, 115, 116]⟩, .string ⟨#[115, 111, 117, 116, 104]⟩, .string ⟨#[119, 101, 115, 116]⟩, .string ⟨#[110, 111, 114, 116, 104]⟩]) (.int .i64 0)).run Tryz.prog w = .ok (.string ⟨#[117, 112]⟩) w := by kernel_rfl
theorem idxW1 (w : World) : (Instr.index 146 (.agg #[.string ⟨#[117, 112]⟩, .string ⟨#[101, 97, 115, 116]⟩, .string ⟨#[115, 111, 117, 116, 104]⟩, .string ⟨#[119, 101, 115, 116]⟩, .string ⟨#[110, 111, 114, 116, 104]⟩]) (.int .i64 1)).run Tryz.prog w = .ok (.string ⟨#[101, 97, 115, 116]⟩) w := by kernel_rfl
theorem idxW2 (w : World) : (Instr.index 146 (.agg #[.string ⟨#[117, 112]⟩, .string ⟨#[101, 97, 115, 116]⟩, .string ⟨#[115, 111, 117, 116, 104]⟩, .string ⟨#[119, 101, 115, 116]⟩, .string ⟨#[110, 111, 114, 116, 104]⟩]) (.int .i64 2)).run Tryz.prog w = .ok (.string ⟨#[115, 111, 117, 116, 104]⟩) w := by kernel_rfl
theorem idxW3 (w : World) : (Instr.index 146 (.agg #[.string ⟨#[117, 112]⟩, .string ⟨#[101, 97, 115, 116]⟩, .string ⟨#[115, 111, 117, 116, 104]⟩, .string ⟨#[119, 101, 115, 116]⟩, .string ⟨#[110, 111, 114, 116, 104]⟩]) (.int .i64 3)).run Tryz.prog w = .ok (.string ⟨#[119, 101, 115, 116]⟩) w := by kernel_rfl
theorem idxW4 (w : World) : (Instr.index 146 (.agg #[.string ⟨#[117, 112]⟩, .string ⟨#[101, 97, 115, 116]⟩, .string ⟨#[115, 111, 117, 116, 104]⟩, .string ⟨#[119, 101, 115, 116]⟩, .string ⟨#[110, 111, 114, 116, 104]⟩]) (.int .i64 4)).run Tryz.prog w = .ok (.string ⟨#[110, 111, 114, 116, 104]⟩) w := by kernel_rfl
set_option maxHeartbeats 8000000 in
theorem Write_n {w : World} (a b c : Int) : Calls Tryz.prog 62 #[.agg #[.int .i64 a, .int .i64 b, .int .i64 c]] w fun e w' => e = .returned (.tuple #[bsV (wrI (a, b, c)), .int .i64 (wrE (a, b, c))]) ∧ Below w.heap.size w w' := by
 have HM := Lib.hid fun W => isMove_spec b c W
 by_cases hok : okW (a, b, c) = true
 ·have hE : wrE (a, b, c) = 0 := by unfold wrE; rw [if_pos hok]
  have hI : wrI (a, b, c) = wrU (a.toNat, b.toNat, c.toNat) := by unfold wrI; rw [if_pos hok]
  rw [hE, hI]
  clear hE hI
  unfold okW at hok
  simp only [Bool.and_eq_true, decide_eq_true_eq] at hok
  obtain ⟨⟨h0, h1⟩, h2⟩ := hok
  rw [h2] at HM
  unfold isMoveI at h2
  simp only [Bool.or_eq_true, Bool.and_eq_true, beq_iff_eq, decide_eq_true_eq] at h2
  obtain ⟨p, rfl⟩ : ∃ p : Nat, a = p := ⟨a.toNat, by omega⟩
  obtain ⟨s, rfl⟩ : ∃ p : Nat, b = p := ⟨b.toNat, by omega⟩
  obtain ⟨f, rfl⟩ : ∃ p : Nat, c = p := ⟨c.toNat, by omega⟩
  simp only [Int.toNat_natCast]
  have hp : p < 12 := by omega
  have hpl := dec_len p hp
  have hf : f < 12 := by omega
  have hs : s ≤ 4 := by omega
  have HI := Lib.hid fun W => Tryz.strconv_Itoa_small p (by omega) W
  have HJ := Lib.hid fun W => Tryz.strconv_Itoa_small f (by omega) W
  have hfl := dec_len f hf
  clear h2
  obtain ⟨D, hD⟩ : ∃ D, D = Lib.decDigits p := ⟨_, rfl⟩
  obtain ⟨G, hG⟩ : ∃ D, D = Lib.decDigits f := ⟨_, rfl⟩
  rw [← hD] at HI hpl
  rw [← hG] at HJ hfl
  have c1 := fun W => cat_run D [32] (by omega) (by simp) W
  have hd1 : decide ((p : Int) < 0) = false := decide_eq_false (by omega)
  have hd2 : decide (12 ≤ (p : Int)) = false := decide_eq_false (by omega)
  have HD := Lib.hid (And.intro hD hG)
  clear hD hG h0 h1
  obtain rfl | rfl | rfl | rfl | rfl : s = 0 ∨ s = 1 ∨ s = 2 ∨ s = 3 ∨ s = 4 := by omega
  ·have c2 := fun W => cat_run (D ++ [32]) [117, 112] (by simp; omega) (by simp) W
   have hfin : wrU (p, 0, f) = D ++ [32] ++ [117, 112] := by rw [HD.out.1]; rfl
   have ei := idxW0
   rw [hfin]
   have HM2 := Lib.hid HM.out
   clear hfin HD HM
   go_enter Tryz.func62, Tryz.ntmps62
   go_wp2_with fail
   refine (HM2.out _).mono ?_
   rintro e w1 ⟨rfl, hw⟩
   go_wp2_with fail
   try clear hw
   obtain ⟨wb, hwb⟩ : ∃ wb, wb = w.alloc (.cells #[.int .i64 (p : Int), .int .i64 0, .int .i64 (f : Int)] 25) := ⟨_, rfl⟩
   have HBb : Hid (Below w.heap.size w wb) := Lib.hid (by subst hwb; exact bel_alloc (bel_refl _) _)
   have HB : Hid (Blk wb w.heap.size #[.int .i64 (p : Int), .int .i64 0, .int .i64 (f : Int)] 25 ∧ True) := Lib.hid ⟨by subst hwb; exact Blk.new _ _ _, trivial⟩
   rw [← hwb]
   clear hwb
   obtain ⟨N, hN⟩ : ∃ N, N = w.heap.size := ⟨_, rfl⟩
   have HN := Lib.hid hN
   rw [← hN] at HB ⊢
   clear hN
   refine wp_region_val Grows (fun _ _ _ => True) [Is (.pointer (some ⟨N, 0, none⟩)), Is (.int .i64 (p : Int)), Is (.string ⟨D.toArray⟩), Is (.string ⟨(D ++ [32]).toArray⟩), Is (.agg #[.string ⟨#[117, 112]⟩, .string ⟨#[101, 97, 115, 116]⟩, .string ⟨#[115, 111, 117, 116, 104]⟩, .string ⟨#[119, 101, 115, 116]⟩, .string ⟨#[110, 111, 114, 116, 104]⟩]), Is (.pointer (some ⟨N, 1, none⟩)), Is (.int .i64 0), Is (.string ⟨#[117, 112]⟩), Is (.string ⟨(D ++ [32] ++ [117, 112]).toArray⟩), Is (.string ⟨(D ++ [32] ++ [117, 112]).toArray⟩)] (by kernel_rfl) (by kernel_rfl) rfl Grows.refl (fun _ _ _ => Grows.trans) (stable_mem ⟨fun _ _ _ h _ => h, fun _ _ _ h _ => h, fun _ _ _ h _ => h, fun _ _ _ h _ => h, fun _ _ _ h _ => h, fun _ _ _ h _ => h, fun _ _ _ h _ => h, fun _ _ _ h _ => h, fun _ _ _ h _ => h, fun _ _ _ h _ => h, trivial⟩) wb (Below.drew (Below.refl _ _)) trivial ?_
   refine val_cons ?_ (fun v0 => ?_)
   ·intro L vs w1 hvs hat hb hI hF; try simp [factsI, Region.binds, Is] at hF
    have hc := (Grows.cells hb).1
    clear hI
    go_simp
    try simp [upd]
    try first | exact Grows.refl _ | exact trivial | exact ⟨Grows.refl _, trivial⟩
   refine val_cons ?_ (fun v1 => ?_)
   ·intro L vs w1 hvs hat hb hI hF; try simp [factsI, Region.binds, Is] at hF
    have hBk := HB.out.1.grow hb
    have ck := hBk.cell 0
    have lk := hBk.lt
    simp only [List.getElem?_toArray, List.getElem?_cons_zero, List.getElem?_cons_succ] at ck
    clear hI hBk
    go_simp
    try simp [upd]
    try first | exact Grows.refl _ | exact trivial | exact ⟨Grows.refl _, trivial⟩
   refine val_cons ?_ (fun v2 => ?_)
   ·intro L vs w1 hvs hat hb hI hF; try simp [factsI, Region.binds, Is] at hF
    clear hI
    go_simp
    refine (HI.out w1).mono ?_
    rintro e w3 ⟨rfl, rfl⟩
    first | exact ⟨rfl, Grows.refl _⟩ | exact ⟨_, rfl, Grows.refl _, rfl⟩ | trace_state
   refine val_cons ?_ (fun v3 => ?_)
   ·intro L vs w1 hvs hat hb hI hF; try simp [factsI, Region.binds, Is] at hF
    have hc := (Grows.cells hb).1
    clear hI
    go_simp
    try simp [upd]
    try first | exact Grows.refl _ | exact trivial | exact ⟨Grows.refl _, trivial⟩
   refine val_cons ?_ (fun v4 => ?_)
   ·intro L vs w1 hvs hat hb hI hF; try simp [factsI, Region.binds, Is] at hF
    clear hI
    go_simp
    refine (words_spec w1).mono ?_
    rintro e w3 ⟨rfl, hb3⟩
    first | exact ⟨rfl, hb3⟩ | exact ⟨_, rfl, hb3, rfl⟩ | trace_state
   refine val_cons ?_ (fun v5 => ?_)
   ·intro L vs w1 hvs hat hb hI hF; try simp [factsI, Region.binds, Is] at hF
    have hc := (Grows.cells hb).1
    clear hI
    go_simp
    try simp [upd]
    try first | exact Grows.refl _ | exact trivial | exact ⟨Grows.refl _, trivial⟩
   refine val_cons ?_ (fun v6 => ?_)
   ·intro L vs w1 hvs hat hb hI hF; try simp [factsI, Region.binds, Is] at hF
    have hBk := HB.out.1.grow hb
    have ck := hBk.cell 1
    have lk := hBk.lt
    simp only [List.getElem?_toArray, List.getElem?_cons_zero, List.getElem?_cons_succ] at ck
    clear hI hBk
    go_simp
    try simp [upd]
    try first | exact Grows.refl _ | exact trivial | exact ⟨Grows.refl _, trivial⟩
   refine val_cons ?_ (fun v7 => ?_)
   ·intro L vs w1 hvs hat hb hI hF; try simp [factsI, Region.binds, Is] at hF
    have hc := (Grows.cells hb).1
    clear hI
    go_simp
    try simp [upd]
    try first | exact Grows.refl _ | exact trivial | exact ⟨Grows.refl _, trivial⟩
   refine val_cons ?_ (fun v8 => ?_)
   ·intro L vs w1 hvs hat hb hI hF; try simp [factsI, Region.binds, Is] at hF
    have hc := (Grows.cells hb).1
    clear hI
    go_simp
    try simp [upd]
    try first | exact Grows.refl _ | exact trivial | exact ⟨Grows.refl _, trivial⟩
   refine val_cons ?_ (fun v9 => ?_)
   ·intro L vs w1 hvs hat hb hI hF; try simp [factsI, Region.binds, Is] at hF
    have hc := (Grows.cells hb).1
    clear hI
    go_simp
    try simp [upd]
    try first | exact Grows.refl _ | exact trivial | exact ⟨Grows.refl _, trivial⟩
   refine val_nil ?_
   intro vs w1 hvs hb hI hF
   simp [Is, Nat.forall_lt_succ_right] at hF
   simp only [Act.put, List.setIfInBounds_toArray, List.set_cons_succ, List.set_cons_zero, hF]
   clear hF
   have hB2 := HB.out.1.grow hb
   have d1 := hB2.cell 1; have d2 := hB2.cell 2; have ld := hB2.lt
   simp only [List.getElem?_toArray, List.getElem?_cons_zero, List.getElem?_cons_succ] at d1 d2
   have HZ := Lib.hid (bel_trans HBb.out hb)
   clear hvs hI hb hB2
   go_wp2_with fail
   go_ret2
   exact ⟨by simp [bsV], HZ.out⟩
  ·have c2 := fun W => cat_run (D ++ [32]) [101, 97, 115, 116] (by simp; omega) (by simp) W
   have c3 := fun W => cat_run [32] G (by simp) (by omega) W
   have c4 := fun W => cat_run (D ++ [32] ++ [101, 97, 115, 116]) ([32] ++ G) (by simp; omega) (by simp; omega) W
   have hfin : wrU (p, 1, f) = (D ++ [32] ++ [101, 97, 115, 116]) ++ ([32] ++ G) := by rw [HD.out.1, HD.out.2]; rfl
   have ei := idxW1
   rw [hfin]
   have HM2 := Lib.hid HM.out
   clear hfin HD HM
   go_enter Tryz.func62, Tryz.ntmps62
   go_wp2_with fail
   refine (HM2.out _).mono ?_
   rintro e w1 ⟨rfl, hw⟩
   go_wp2_with fail
   try clear hw
   obtain ⟨wb, hwb⟩ : ∃ wb, wb = w.alloc (.cells #[.int .i64 (p : Int), .int .i64 1, .int .i64 (f : Int)] 25) := ⟨_, rfl⟩
   have HBb : Hid (Below w.heap.size w wb) := Lib.hid (by subst hwb; exact bel_alloc (bel_refl _) _)
   have HB : Hid (Blk wb w.heap.size #[.int .i64 (p : Int), .int .i64 1, .int .i64 (f : Int)] 25 ∧ True) := Lib.hid ⟨by subst hwb; exact Blk.new _ _ _, trivial⟩
   rw [← hwb]
   clear hwb
   obtain ⟨N, hN⟩ : ∃ N, N = w.heap.size := ⟨_, rfl⟩
   have HN := Lib.hid hN
   rw [← hN] at HB ⊢
   clear hN
   refine wp_region_val Grows (fun _ _ _ => True) [Is (.pointer (some ⟨N, 0, none⟩)), Is (.int .i64 (p : Int)), Is (.string ⟨D.toArray⟩), Is (.string ⟨(D ++ [32]).toArray⟩), Is (.agg #[.string ⟨#[117, 112]⟩, .string ⟨#[101, 97, 115, 116]⟩, .string ⟨#[115, 111, 117, 116, 104]⟩, .string ⟨#[119, 101, 115, 116]⟩, .string ⟨#[110, 111, 114, 116, 104]⟩]), Is (.pointer (some ⟨N, 1, none⟩)), Is (.int .i64 1), Is (.string ⟨#[101, 97, 115, 116]⟩), Is (.string ⟨(D ++ [32] ++ [101, 97, 115, 116]).toArray⟩), Is (.string ⟨(D ++ [32] ++ [101, 97, 115, 116]).toArray⟩)] (by kernel_rfl) (by kernel_rfl) rfl Grows.refl (fun _ _ _ => Grows.trans) (stable_mem ⟨fun _ _ _ h _ => h, fun _ _ _ h _ => h, fun _ _ _ h _ => h, fun _ _ _ h _ => h, fun _ _ _ h _ => h, fun _ _ _ h _ => h, fun _ _ _ h _ => h, fun _ _ _ h _ => h, fun _ _ _ h _ => h, fun _ _ _ h _ => h, trivial⟩) wb (Below.drew (Below.refl _ _)) trivial ?_
   refine val_cons ?_ (fun v0 => ?_)
   ·intro L vs w1 hvs hat hb hI hF; try simp [factsI, Region.binds, Is] at hF
    have hc := (Grows.cells hb).1
    clear hI
    go_simp
    try simp [upd]
    try first | exact Grows.refl _ | exact trivial | exact ⟨Grows.refl _, trivial⟩
   refine val_cons ?_ (fun v1 => ?_)
   ·intro L vs w1 hvs hat hb hI hF; try simp [factsI, Region.binds, Is] at hF
    have hBk := HB.out.1.grow hb
    have ck := hBk.cell 0
    have lk := hBk.lt
    simp only [List.getElem?_toArray, List.getElem?_cons_zero, List.getElem?_cons_succ] at ck
    clear hI hBk
    go_simp
    try simp [upd]
    try first | exact Grows.refl _ | exact trivial | exact ⟨Grows.refl _, trivial⟩
   refine val_cons ?_ (fun v2 => ?_)
   ·intro L vs w1 hvs hat hb hI hF; try simp [factsI, Region.binds, Is] at hF
    clear hI
    go_simp
    refine (HI.out w1).mono ?_
    rintro e w3 ⟨rfl, rfl⟩
    first | exact ⟨rfl, Grows.refl _⟩ | exact ⟨_, rfl, Grows.refl _, rfl⟩ | trace_state
   refine val_cons ?_ (fun v3 => ?_)
   ·intro L vs w1 hvs hat hb hI hF; try simp [factsI, Region.binds, Is] at hF
    have hc := (Grows.cells hb).1
    clear hI
    go_simp
    try simp [upd]
    try first | exact Grows.refl _ | exact trivial | exact ⟨Grows.refl _, trivial⟩
   refine val_cons ?_ (fun v4 => ?_)
   ·intro L vs w1 hvs hat hb hI hF; try simp [factsI, Region.binds, Is] at hF
    clear hI
    go_simp
    refine (words_spec w1).mono ?_
    rintro e w3 ⟨rfl, hb3⟩
    first | exact ⟨rfl, hb3⟩ | exact ⟨_, rfl, hb3, rfl⟩ | trace_state
   refine val_cons ?_ (fun v5 => ?_)
   ·intro L vs w1 hvs hat hb hI hF; try simp [factsI, Region.binds, Is] at hF
    have hc := (Grows.cells hb).1
    clear hI
    go_simp
    try simp [upd]
    try first | exact Grows.refl _ | exact trivial | exact ⟨Grows.refl _, trivial⟩
   refine val_cons ?_ (fun v6 => ?_)
   ·intro L vs w1 hvs hat hb hI hF; try simp [factsI, Region.binds, Is] at hF
    have hBk := HB.out.1.grow hb
    have ck := hBk.cell 1
    have lk := hBk.lt
    simp only [List.getElem?_toArray, List.getElem?_cons_zero, List.getElem?_cons_succ] at ck
    clear hI hBk
    go_simp
    try simp [upd]
    try first | exact Grows.refl _ | exact trivial | exact ⟨Grows.refl _, trivial⟩
   refine val_cons ?_ (fun v7 => ?_)
   ·intro L vs w1 hvs hat hb hI hF; try simp [factsI, Region.binds, Is] at hF
    have hc := (Grows.cells hb).1
    clear hI
    go_simp
    try simp [upd]
    try first | exact Grows.refl _ | exact trivial | exact ⟨Grows.refl _, trivial⟩
   refine val_cons ?_ (fun v8 => ?_)
   ·intro L vs w1 hvs hat hb hI hF; try simp [factsI, Region.binds, Is] at hF
    have hc := (Grows.cells hb).1
    clear hI
    go_simp
    try simp [upd]
    try first | exact Grows.refl _ | exact trivial | exact ⟨Grows.refl _, trivial⟩
   refine val_cons ?_ (fun v9 => ?_)
   ·intro L vs w1 hvs hat hb hI hF; try simp [factsI, Region.binds, Is] at hF
    have hc := (Grows.cells hb).1
    clear hI
    go_simp
    try simp [upd]
    try first | exact Grows.refl _ | exact trivial | exact ⟨Grows.refl _, trivial⟩
   refine val_nil ?_
   intro vs w1 hvs hb hI hF
   simp [Is, Nat.forall_lt_succ_right] at hF
   simp only [Act.put, List.setIfInBounds_toArray, List.set_cons_succ, List.set_cons_zero, hF]
   clear hF
   have hB2 := HB.out.1.grow hb
   have d1 := hB2.cell 1; have d2 := hB2.cell 2; have ld := hB2.lt
   simp only [List.getElem?_toArray, List.getElem?_cons_zero, List.getElem?_cons_succ] at d1 d2
   have HZ := Lib.hid (bel_trans HBb.out hb)
   clear hvs hI hb hB2
   go_wp2_with fail
   refine (HJ.out _).mono ?_
   rintro e w5 ⟨rfl, hw5⟩
   have HZ5 : Hid (Below w.heap.size w w5) := Lib.hid (by rw [hw5]; exact HZ.out)
   clear hw5
   go_wp2_with fail
   go_ret2
   exact ⟨by simp [bsV, Go.ByteArray.mk_append_mk], HZ5.out⟩
  ·have c2 := fun W => cat_run (D ++ [32]) [115, 111, 117, 116, 104] (by simp; omega) (by simp) W
   have c3 := fun W => cat_run [32] G (by simp) (by omega) W
   have c4 := fun W => cat_run (D ++ [32] ++ [115, 111, 117, 116, 104]) ([32] ++ G) (by simp; omega) (by simp; omega) W
   have hfin : wrU (p, 2, f) = (D ++ [32] ++ [115, 111, 117, 116, 104]) ++ ([32] ++ G) := by rw [HD.out.1, HD.out.2]; rfl
   have ei := idxW2
   rw [hfin]
   have HM2 := Lib.hid HM.out
   clear hfin HD HM
   go_enter Tryz.func62, Tryz.ntmps62
   go_wp2_with fail
   refine (HM2.out _).mono ?_
   rintro e w1 ⟨rfl, hw⟩
   go_wp2_with fail
   try clear hw
   obtain ⟨wb, hwb⟩ : ∃ wb, wb = w.alloc (.cells #[.int .i64 (p : Int), .int .i64 2, .int .i64 (f : Int)] 25) := ⟨_, rfl⟩
   have HBb : Hid (Below w.heap.size w wb) := Lib.hid (by subst hwb; exact bel_alloc (bel_refl _) _)
   have HB : Hid (Blk wb w.heap.size #[.int .i64 (p : Int), .int .i64 2, .int .i64 (f : Int)] 25 ∧ True) := Lib.hid ⟨by subst hwb; exact Blk.new _ _ _, trivial⟩
   rw [← hwb]
   clear hwb
   obtain ⟨N, hN⟩ : ∃ N, N = w.heap.size := ⟨_, rfl⟩
   have HN := Lib.hid hN
   rw [← hN] at HB ⊢
   clear hN
   refine wp_region_val Grows (fun _ _ _ => True) [Is (.pointer (some ⟨N, 0, none⟩)), Is (.int .i64 (p : Int)), Is (.string ⟨D.toArray⟩), Is (.string ⟨(D ++ [32]).toArray⟩), Is (.agg #[.string ⟨#[117, 112]⟩, .string ⟨#[101, 97, 115, 116]⟩, .string ⟨#[115, 111, 117, 116, 104]⟩, .string ⟨#[119, 101, 115, 116]⟩, .string ⟨#[110, 111, 114, 116, 104]⟩]), Is (.pointer (some ⟨N, 1, none⟩)), Is (.int .i64 2), Is (.string ⟨#[115, 111, 117, 116, 104]⟩), Is (.string ⟨(D ++ [32] ++ [115, 111, 117, 116, 104]).toArray⟩), Is (.string ⟨(D ++ [32] ++ [115, 111, 117, 116, 104]).toArray⟩)] (by kernel_rfl) (by kernel_rfl) rfl Grows.refl (fun _ _ _ => Grows.trans) (stable_mem ⟨fun _ _ _ h _ => h, fun _ _ _ h _ => h, fun _ _ _ h _ => h, fun _ _ _ h _ => h, fun _ _ _ h _ => h, fun _ _ _ h _ => h, fun _ _ _ h _ => h, fun _ _ _ h _ => h, fun _ _ _ h _ => h, fun _ _ _ h _ => h, trivial⟩) wb (Below.drew (Below.refl _ _)) trivial ?_
   refine val_cons ?_ (fun v0 => ?_)
   ·intro L vs w1 hvs hat hb hI hF; try simp [factsI, Region.binds, Is] at hF
    have hc := (Grows.cells hb).1
    clear hI
    go_simp
    try simp [upd]
    try first | exact Grows.refl _ | exact trivial | exact ⟨Grows.refl _, trivial⟩
   refine val_cons ?_ (fun v1 => ?_)
   ·intro L vs w1 hvs hat hb hI hF; try simp [factsI, Region.binds, Is] at hF
    have hBk := HB.out.1.grow hb
    have ck := hBk.cell 0
    have lk := hBk.lt
    simp only [List.getElem?_toArray, List.getElem?_cons_zero, List.getElem?_cons_succ] at ck
    clear hI hBk
    go_simp
    try simp [upd]
    try first | exact Grows.refl _ | exact trivial | exact ⟨Grows.refl _, trivial⟩
   refine val_cons ?_ (fun v2 => ?_)
   ·intro L vs w1 hvs hat hb hI hF; try simp [factsI, Region.binds, Is] at hF
    clear hI
    go_simp
    refine (HI.out w1).mono ?_
    rintro e w3 ⟨rfl, rfl⟩
    first | exact ⟨rfl, Grows.refl _⟩ | exact ⟨_, rfl, Grows.refl _, rfl⟩ | trace_state
   refine val_cons ?_ (fun v3 => ?_)
   ·intro L vs w1 hvs hat hb hI hF; try simp [factsI, Region.binds, Is] at hF
    have hc := (Grows.cells hb).1
    clear hI
    go_simp
    try simp [upd]
    try first | exact Grows.refl _ | exact trivial | exact ⟨Grows.refl _, trivial⟩
   refine val_cons ?_ (fun v4 => ?_)
   ·intro L vs w1 hvs hat hb hI hF; try simp [factsI, Region.binds, Is] at hF
    clear hI
    go_simp
    refine (words_spec w1).mono ?_
    rintro e w3 ⟨rfl, hb3⟩
    first | exact ⟨rfl, hb3⟩ | exact ⟨_, rfl, hb3, rfl⟩ | trace_state
   refine val_cons ?_ (fun v5 => ?_)
   ·intro L vs w1 hvs hat hb hI hF; try simp [factsI, Region.binds, Is] at hF
    have hc := (Grows.cells hb).1
    clear hI
    go_simp
    try simp [upd]
    try first | exact Grows.refl _ | exact trivial | exact ⟨Grows.refl _, trivial⟩
   refine val_cons ?_ (fun v6 => ?_)
   ·intro L vs w1 hvs hat hb hI hF; try simp [factsI, Region.binds, Is] at hF
    have hBk := HB.out.1.grow hb
    have ck := hBk.cell 1
    have lk := hBk.lt
    simp only [List.getElem?_toArray, List.getElem?_cons_zero, List.getElem?_cons_succ] at ck
    clear hI hBk
    go_simp
    try simp [upd]
    try first | exact Grows.refl _ | exact trivial | exact ⟨Grows.refl _, trivial⟩
   refine val_cons ?_ (fun v7 => ?_)
   ·intro L vs w1 hvs hat hb hI hF; try simp [factsI, Region.binds, Is] at hF
    have hc := (Grows.cells hb).1
    clear hI
    go_simp
    try simp [upd]
    try first | exact Grows.refl _ | exact trivial | exact ⟨Grows.refl _, trivial⟩
   refine val_cons ?_ (fun v8 => ?_)
   ·intro L vs w1 hvs hat hb hI hF; try simp [factsI, Region.binds, Is] at hF
    have hc := (Grows.cells hb).1
    clear hI
    go_simp
    try simp [upd]
    try first | exact Grows.refl _ | exact trivial | exact ⟨Grows.refl _, trivial⟩
   refine val_cons ?_ (fun v9 => ?_)
   ·intro L vs w1 hvs hat hb hI hF; try simp [factsI, Region.binds, Is] at hF
    have hc := (Grows.cells hb).1
    clear hI
    go_simp
    try simp [upd]
    try first | exact Grows.refl _ | exact trivial | exact ⟨Grows.refl _, trivial⟩
   refine val_nil ?_
   intro vs w1 hvs hb hI hF
   simp [Is, Nat.forall_lt_succ_right] at hF
   simp only [Act.put, List.setIfInBounds_toArray, List.set_cons_succ, List.set_cons_zero, hF]
   clear hF
   have hB2 := HB.out.1.grow hb
   have d1 := hB2.cell 1; have d2 := hB2.cell 2; have ld := hB2.lt
   simp only [List.getElem?_toArray, List.getElem?_cons_zero, List.getElem?_cons_succ] at d1 d2
   have HZ := Lib.hid (bel_trans HBb.out hb)
   clear hvs hI hb hB2
   go_wp2_with fail
   refine (HJ.out _).mono ?_
   rintro e w5 ⟨rfl, hw5⟩
   have HZ5 : Hid (Below w.heap.size w w5) := Lib.hid (by rw [hw5]; exact HZ.out)
   clear hw5
   go_wp2_with fail
   go_ret2
   exact ⟨by simp [bsV, Go.ByteArray.mk_append_mk], HZ5.out⟩
  ·have c2 := fun W => cat_run (D ++ [32]) [119, 101, 115, 116] (by simp; omega) (by simp) W
   have c3 := fun W => cat_run [32] G (by simp) (by omega) W
   have c4 := fun W => cat_run (D ++ [32] ++ [119, 101, 115, 116]) ([32] ++ G) (by simp; omega) (by simp; omega) W
   have hfin : wrU (p, 3, f) = (D ++ [32] ++ [119, 101, 115, 116]) ++ ([32] ++ G) := by rw [HD.out.1, HD.out.2]; rfl
   have ei := idxW3
   rw [hfin]
   have HM2 := Lib.hid HM.out
   clear hfin HD HM
   go_enter Tryz.func62, Tryz.ntmps62
   go_wp2_with fail
   refine (HM2.out _).mono ?_
   rintro e w1 ⟨rfl, hw⟩
   go_wp2_with fail
   try clear hw
   obtain ⟨wb, hwb⟩ : ∃ wb, wb = w.alloc (.cells #[.int .i64 (p : Int), .int .i64 3, .int .i64 (f : Int)] 25) := ⟨_, rfl⟩
   have HBb : Hid (Below w.heap.size w wb) := Lib.hid (by subst hwb; exact bel_alloc (bel_refl _) _)
   have HB : Hid (Blk wb w.heap.size #[.int .i64 (p : Int), .int .i64 3, .int .i64 (f : Int)] 25 ∧ True) := Lib.hid ⟨by subst hwb; exact Blk.new _ _ _, trivial⟩
   rw [← hwb]
   clear hwb
   obtain ⟨N, hN⟩ : ∃ N, N = w.heap.size := ⟨_, rfl⟩
   have HN := Lib.hid hN
   rw [← hN] at HB ⊢
   clear hN
   refine wp_region_val Grows (fun _ _ _ => True) [Is (.pointer (some ⟨N, 0, none⟩)), Is (.int .i64 (p : Int)), Is (.string ⟨D.toArray⟩), Is (.string ⟨(D ++ [32]).toArray⟩), Is (.agg #[.string ⟨#[117, 112]⟩, .string ⟨#[101, 97, 115, 116]⟩, .string ⟨#[115, 111, 117, 116, 104]⟩, .string ⟨#[119, 101, 115, 116]⟩, .string ⟨#[110, 111, 114, 116, 104]⟩]), Is (.pointer (some ⟨N, 1, none⟩)), Is (.int .i64 3), Is (.string ⟨#[119, 101, 115, 116]⟩), Is (.string ⟨(D ++ [32] ++ [119, 101, 115, 116]).toArray⟩), Is (.string ⟨(D ++ [32] ++ [119, 101, 115, 116]).toArray⟩)] (by kernel_rfl) (by kernel_rfl) rfl Grows.refl (fun _ _ _ => Grows.trans) (stable_mem ⟨fun _ _ _ h _ => h, fun _ _ _ h _ => h, fun _ _ _ h _ => h, fun _ _ _ h _ => h, fun _ _ _ h _ => h, fun _ _ _ h _ => h, fun _ _ _ h _ => h, fun _ _ _ h _ => h, fun _ _ _ h _ => h, fun _ _ _ h _ => h, trivial⟩) wb (Below.drew (Below.refl _ _)) trivial ?_
   refine val_cons ?_ (fun v0 => ?_)
   ·intro L vs w1 hvs hat hb hI hF; try simp [factsI, Region.binds, Is] at hF
    have hc := (Grows.cells hb).1
    clear hI
    go_simp
    try simp [upd]
    try first | exact Grows.refl _ | exact trivial | exact ⟨Grows.refl _, trivial⟩
   refine val_cons ?_ (fun v1 => ?_)
   ·intro L vs w1 hvs hat hb hI hF; try simp [factsI, Region.binds, Is] at hF
    have hBk := HB.out.1.grow hb
    have ck := hBk.cell 0
    have lk := hBk.lt
    simp only [List.getElem?_toArray, List.getElem?_cons_zero, List.getElem?_cons_succ] at ck
    clear hI hBk
    go_simp
    try simp [upd]
    try first | exact Grows.refl _ | exact trivial | exact ⟨Grows.refl _, trivial⟩
   refine val_cons ?_ (fun v2 => ?_)
   ·intro L vs w1 hvs hat hb hI hF; try simp [factsI, Region.binds, Is] at hF
    clear hI
    go_simp
    refine (HI.out w1).mono ?_
    rintro e w3 ⟨rfl, rfl⟩
    first | exact ⟨rfl, Grows.refl _⟩ | exact ⟨_, rfl, Grows.refl _, rfl⟩ | trace_state
   refine val_cons ?_ (fun v3 => ?_)
   ·intro L vs w1 hvs hat hb hI hF; try simp [factsI, Region.binds, Is] at hF
    have hc := (Grows.cells hb).1
    clear hI
    go_simp
    try simp [upd]
    try first | exact Grows.refl _ | exact trivial | exact ⟨Grows.refl _, trivial⟩
   refine val_cons ?_ (fun v4 => ?_)
   ·intro L vs w1 hvs hat hb hI hF; try simp [factsI, Region.binds, Is] at hF
    clear hI
    go_simp
    refine (words_spec w1).mono ?_
    rintro e w3 ⟨rfl, hb3⟩
    first | exact ⟨rfl, hb3⟩ | exact ⟨_, rfl, hb3, rfl⟩ | trace_state
   refine val_cons ?_ (fun v5 => ?_)
   ·intro L vs w1 hvs hat hb hI hF; try simp [factsI, Region.binds, Is] at hF
    have hc := (Grows.cells hb).1
    clear hI
    go_simp
    try simp [upd]
    try first | exact Grows.refl _ | exact trivial | exact ⟨Grows.refl _, trivial⟩
   refine val_cons ?_ (fun v6 => ?_)
   ·intro L vs w1 hvs hat hb hI hF; try simp [factsI, Region.binds, Is] at hF
    have hBk := HB.out.1.grow hb
    have ck := hBk.cell 1
    have lk := hBk.lt
    simp only [List.getElem?_toArray, List.getElem?_cons_zero, List.getElem?_cons_succ] at ck
    clear hI hBk
    go_simp
    try simp [upd]
    try first | exact Grows.refl _ | exact trivial | exact ⟨Grows.refl _, trivial⟩
   refine val_cons ?_ (fun v7 => ?_)
   ·intro L vs w1 hvs hat hb hI hF; try simp [factsI, Region.binds, Is] at hF
    have hc := (Grows.cells hb).1
    clear hI
    go_simp
    try simp [upd]
    try first | exact Grows.refl _ | exact trivial | exact ⟨Grows.refl _, trivial⟩
   refine val_cons ?_ (fun v8 => ?_)
   ·intro L vs w1 hvs hat hb hI hF; try simp [factsI, Region.binds, Is] at hF
    have hc := (Grows.cells hb).1
    clear hI
    go_simp
    try simp [upd]
    try first | exact Grows.refl _ | exact trivial | exact ⟨Grows.refl _, trivial⟩
   refine val_cons ?_ (fun v9 => ?_)
   ·intro L vs w1 hvs hat hb hI hF; try simp [factsI, Region.binds, Is] at hF
    have hc := (Grows.cells hb).1
    clear hI
    go_simp
    try simp [upd]
    try first | exact Grows.refl _ | exact trivial | exact ⟨Grows.refl _, trivial⟩
   refine val_nil ?_
   intro vs w1 hvs hb hI hF
   simp [Is, Nat.forall_lt_succ_right] at hF
   simp only [Act.put, List.setIfInBounds_toArray, List.set_cons_succ, List.set_cons_zero, hF]
   clear hF
   have hB2 := HB.out.1.grow hb
   have d1 := hB2.cell 1; have d2 := hB2.cell 2; have ld := hB2.lt
   simp only [List.getElem?_toArray, List.getElem?_cons_zero, List.getElem?_cons_succ] at d1 d2
   have HZ := Lib.hid (bel_trans HBb.out hb)
   clear hvs hI hb hB2
   go_wp2_with fail
   refine (HJ.out _).mono ?_
   rintro e w5 ⟨rfl, hw5⟩
   have HZ5 : Hid (Below w.heap.size w w5) := Lib.hid (by rw [hw5]; exact HZ.out)
   clear hw5
   go_wp2_with fail
   go_ret2
   exact ⟨by simp [bsV, Go.ByteArray.mk_append_mk], HZ5.out⟩
  ·have c2 := fun W => cat_run (D ++ [32]) [110, 111, 114, 116, 104] (by simp; omega) (by simp) W
   have c3 := fun W => cat_run [32] G (by simp) (by omega) W
   have c4 := fun W => cat_run (D ++ [32] ++ [110, 111, 114, 116, 104]) ([32] ++ G) (by simp; omega) (by simp; omega) W
   have hfin : wrU (p, 4, f) = (D ++ [32] ++ [110, 111, 114, 116, 104]) ++ ([32] ++ G) := by rw [HD.out.1, HD.out.2]; rfl
   have ei := idxW4
   rw [hfin]
   have HM2 := Lib.hid HM.out
   clear hfin HD HM
   go_enter Tryz.func62, Tryz.ntmps62
   go_wp2_with fail
   refine (HM2.out _).mono ?_
   rintro e w1 ⟨rfl, hw⟩
   go_wp2_with fail
   try clear hw
   obtain ⟨wb, hwb⟩ : ∃ wb, wb = w.alloc (.cells #[.int .i64 (p : Int), .int .i64 4, .int .i64 (f : Int)] 25) := ⟨_, rfl⟩
   have HBb : Hid (Below w.heap.size w wb) := Lib.hid (by subst hwb; exact bel_alloc (bel_refl _) _)
   have HB : Hid (Blk wb w.heap.size #[.int .i64 (p : Int), .int .i64 4, .int .i64 (f : Int)] 25 ∧ True) := Lib.hid ⟨by subst hwb; exact Blk.new _ _ _, trivial⟩
   rw [← hwb]
   clear hwb
   obtain ⟨N, hN⟩ : ∃ N, N = w.heap.size := ⟨_, rfl⟩
   have HN := Lib.hid hN
   rw [← hN] at HB ⊢
   clear hN
   refine wp_region_val Grows (fun _ _ _ => True) [Is (.pointer (some ⟨N, 0, none⟩)), Is (.int .i64 (p : Int)), Is (.string ⟨D.toArray⟩), Is (.string ⟨(D ++ [32]).toArray⟩), Is (.agg #[.string ⟨#[117, 112]⟩, .string ⟨#[101, 97, 115, 116]⟩, .string ⟨#[115, 111, 117, 116, 104]⟩, .string ⟨#[119, 101, 115, 116]⟩, .string ⟨#[110, 111, 114, 116, 104]⟩]), Is (.pointer (some ⟨N, 1, none⟩)), Is (.int .i64 4), Is (.string ⟨#[110, 111, 114, 116, 104]⟩), Is (.string ⟨(D ++ [32] ++ [110, 111, 114, 116, 104]).toArray⟩), Is (.string ⟨(D ++ [32] ++ [110, 111, 114, 116, 104]).toArray⟩)] (by kernel_rfl) (by kernel_rfl) rfl Grows.refl (fun _ _ _ => Grows.trans) (stable_mem ⟨fun _ _ _ h _ => h, fun _ _ _ h _ => h, fun _ _ _ h _ => h, fun _ _ _ h _ => h, fun _ _ _ h _ => h, fun _ _ _ h _ => h, fun _ _ _ h _ => h, fun _ _ _ h _ => h, fun _ _ _ h _ => h, fun _ _ _ h _ => h, trivial⟩) wb (Below.drew (Below.refl _ _)) trivial ?_
   refine val_cons ?_ (fun v0 => ?_)
   ·intro L vs w1 hvs hat hb hI hF; try simp [factsI, Region.binds, Is] at hF
    have hc := (Grows.cells hb).1
    clear hI
    go_simp
    try simp [upd]
    try first | exact Grows.refl _ | exact trivial | exact ⟨Grows.refl _, trivial⟩
   refine val_cons ?_ (fun v1 => ?_)
   ·intro L vs w1 hvs hat hb hI hF; try simp [factsI, Region.binds, Is] at hF
    have hBk := HB.out.1.grow hb
    have ck := hBk.cell 0
    have lk := hBk.lt
    simp only [List.getElem?_toArray, List.getElem?_cons_zero, List.getElem?_cons_succ] at ck
    clear hI hBk
    go_simp
    try simp [upd]
    try first | exact Grows.refl _ | exact trivial | exact ⟨Grows.refl _, trivial⟩
   refine val_cons ?_ (fun v2 => ?_)
   ·intro L vs w1 hvs hat hb hI hF; try simp [factsI, Region.binds, Is] at hF
    clear hI
    go_simp
    refine (HI.out w1).mono ?_
    rintro e w3 ⟨rfl, rfl⟩
    first | exact ⟨rfl, Grows.refl _⟩ | exact ⟨_, rfl, Grows.refl _, rfl⟩ | trace_state
   refine val_cons ?_ (fun v3 => ?_)
   ·intro L vs w1 hvs hat hb hI hF; try simp [factsI, Region.binds, Is] at hF
    have hc := (Grows.cells hb).1
    clear hI
    go_simp
    try simp [upd]
    try first | exact Grows.refl _ | exact trivial | exact ⟨Grows.refl _, trivial⟩
   refine val_cons ?_ (fun v4 => ?_)
   ·intro L vs w1 hvs hat hb hI hF; try simp [factsI, Region.binds, Is] at hF
    clear hI
    go_simp
    refine (words_spec w1).mono ?_
    rintro e w3 ⟨rfl, hb3⟩
    first | exact ⟨rfl, hb3⟩ | exact ⟨_, rfl, hb3, rfl⟩ | trace_state
   refine val_cons ?_ (fun v5 => ?_)
   ·intro L vs w1 hvs hat hb hI hF; try simp [factsI, Region.binds, Is] at hF
    have hc := (Grows.cells hb).1
    clear hI
    go_simp
    try simp [upd]
    try first | exact Grows.refl _ | exact trivial | exact ⟨Grows.refl _, trivial⟩
   refine val_cons ?_ (fun v6 => ?_)
   ·intro L vs w1 hvs hat hb hI hF; try simp [factsI, Region.binds, Is] at hF
    have hBk := HB.out.1.grow hb
    have ck := hBk.cell 1
    have lk := hBk.lt
    simp only [List.getElem?_toArray, List.getElem?_cons_zero, List.getElem?_cons_succ] at ck
    clear hI hBk
    go_simp
    try simp [upd]
    try first | exact Grows.refl _ | exact trivial | exact ⟨Grows.refl _, trivial⟩
   refine val_cons ?_ (fun v7 => ?_)
   ·intro L vs w1 hvs hat hb hI hF; try simp [factsI, Region.binds, Is] at hF
    have hc := (Grows.cells hb).1
    clear hI
    go_simp
    try simp [upd]
    try first | exact Grows.refl _ | exact trivial | exact ⟨Grows.refl _, trivial⟩
   refine val_cons ?_ (fun v8 => ?_)
   ·intro L vs w1 hvs hat hb hI hF; try simp [factsI, Region.binds, Is] at hF
    have hc := (Grows.cells hb).1
    clear hI
    go_simp
    try simp [upd]
    try first | exact Grows.refl _ | exact trivial | exact ⟨Grows.refl _, trivial⟩
   refine val_cons ?_ (fun v9 => ?_)
   ·intro L vs w1 hvs hat hb hI hF; try simp [factsI, Region.binds, Is] at hF
    have hc := (Grows.cells hb).1
    clear hI
    go_simp
    try simp [upd]
    try first | exact Grows.refl _ | exact trivial | exact ⟨Grows.refl _, trivial⟩
   refine val_nil ?_
   intro vs w1 hvs hb hI hF
   simp [Is, Nat.forall_lt_succ_right] at hF
   simp only [Act.put, List.setIfInBounds_toArray, List.set_cons_succ, List.set_cons_zero, hF]
   clear hF
   have hB2 := HB.out.1.grow hb
   have d1 := hB2.cell 1; have d2 := hB2.cell 2; have ld := hB2.lt
   simp only [List.getElem?_toArray, List.getElem?_cons_zero, List.getElem?_cons_succ] at d1 d2
   have HZ := Lib.hid (bel_trans HBb.out hb)
   clear hvs hI hb hB2
   go_wp2_with fail
   refine (HJ.out _).mono ?_
   rintro e w5 ⟨rfl, hw5⟩
   have HZ5 : Hid (Below w.heap.size w w5) := Lib.hid (by rw [hw5]; exact HZ.out)
   clear hw5
   go_wp2_with fail
   go_ret2
   exact ⟨by simp [bsV, Go.ByteArray.mk_append_mk], HZ5.out⟩
 ·have hE : wrE (a, b, c) = 1 := by unfold wrE; rw [if_neg hok]
  have hI : wrI (a, b, c) = [] := by unfold wrI; rw [if_neg hok]
  rw [hE, hI]
  clear hE hI
  have hno : ¬ ((0 ≤ a ∧ a < 12) ∧ isMoveI b c = true) := fun h => hok (by unfold okW; simp [h])
  have HNo := Lib.hid hno
  clear hok hno
  by_cases h0 : 0 ≤ a ∧ a < 12
  ·have h2 : isMoveI b c = false := by cases h : isMoveI b c with | false => rfl | true => exact absurd ⟨h0, h⟩ HNo.out
   rw [h2] at HM
   have hd1 : decide (a < 0) = false := decide_eq_false (by omega)
   have hd2 : decide (12 ≤ a) = false := decide_eq_false (by omega)
   clear h0 h2
   go_enter Tryz.func62, Tryz.ntmps62
   go_wp2_with fail
   refine (HM.out _).mono ?_
   rintro e w1 ⟨rfl, hw⟩
   have HW : Hid (Below w.heap.size w w1) := Lib.hid (by rw [hw]; exact bel_alloc (bel_refl _) _)
   clear hw
   go_wp2_with fail
   go_ret2
   exact ⟨rfl, HW.out⟩
  ·by_cases h1 : a < 0
   ·have hd1 : decide (a < 0) = true := decide_eq_true h1
    go_enter Tryz.func62, Tryz.ntmps62
    go_wp2_with fail
    go_ret2
    exact ⟨rfl, (by repeat (first | with_reducible exact bel_refl _ | with_reducible assumption | with_reducible refine bel_drewN ?_ _ | with_reducible refine bel_drew ?_ | with_reducible refine bel_alloc ?_ _ | with_reducible refine bel_row ?_ ?_ _ | with_reducible refine bel_set ?_ ?_ _ | refine bel_trans ?_ (by with_reducible assumption) | (simp; done) | (simp; omega)))⟩
   ·have hd1 : decide (a < 0) = false := decide_eq_false h1
    have hd2 : decide (12 ≤ a) = true := decide_eq_true (by omega)
    go_enter Tryz.func62, Tryz.ntmps62
    go_wp2_with fail
    go_ret2
    exact ⟨rfl, (by repeat (first | with_reducible exact bel_refl _ | with_reducible assumption | with_reducible refine bel_drewN ?_ _ | with_reducible refine bel_drew ?_ | with_reducible refine bel_alloc ?_ _ | with_reducible refine bel_row ?_ ?_ _ | with_reducible refine bel_set ?_ ?_ _ | refine bel_trans ?_ (by with_reducible assumption) | (simp; done) | (simp; omega)))⟩
end Go.Proofs.YtlbhjikkpbknnaaGreatDoor
end
